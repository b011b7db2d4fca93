/- sturm.reduced (printed by gen_red.py). -/
import Derived.OneCell
import Derived.Test.YtjpalbonclgflaaPart18
import Derived.Test.YtjpalbonclgflaaPart15
import Derived.Test.YtjpalbonclgflaaPart16
namespace Go.Proofs.Ytjpalbonclgflaa
open Go.RowKit

theorem red_take {l : List Int} {s : Int} {k : Nat} {x : Int} (h : l[k]? = some x) : (l.map (redC l s)).take (k + 1) = (l.map (redC l s)).take k ++ [redC l s x] := by
 rw [List.take_add_one, List.getElem?_map, h]; rfl
set_option maxRecDepth 100000 in
set_option maxHeartbeats 6400000 in
theorem reduced_fresh (l : List Int) (v : Value) (s : Int) (w : World) (m : Nat) (hr : Row w v l.length (civ l)) (hl : l.length ≤ 1000) (hs : ∀ x ∈ l, zs m x) (hm : m ≤ 100000000000) (he : Ends l) :
  Calls Try.prog 71 #[v, .int .i64 s] w (PolRetF (red l s) w) := by
 obtain ⟨va, vc, rfl, hle⟩ := hr.slice
 obtain ⟨i0, hi, hz0, hz1', hz2'⟩ := info_parts infoZ
 obtain ⟨n, hn⟩ : ∃ n, n = l.length := ⟨_, rfl⟩
 have hgpos : 0 < n → 0 < gcdL l := fun h => he.gcd (by omega)
 have hcan := fun v w' h => canon_fresh (l.map (redC l s)) v w' h (by rw [List.length_map]; omega) (fun x hx => by
  obtain ⟨y, hy, rfl⟩ := List.mem_map.1 hx
  unfold small; exact Nat.le_trans (redC_zs hy (hs y hy)).size (by omega))
 have hlm : (l.map (redC l s)).length = n := by rw [List.length_map, hn]
 obtain ⟨M, hM⟩ : ∃ M, M = l.map (redC l s) := ⟨_, rfl⟩
 have hred : red l s = tzI M := by rw [hM]; rfl
 rw [hred]
 rw [← hM] at hcan hlm
 unfold CanRetF at hcan
 rw [hlm] at hcan
 rw [← hn] at hr hle hl ⊢
 have tg : Blk (w.alloc (.cells #[.bool false, .string ⟨#[]⟩] 33)) w.heap.size 33 [.bool false, .string ⟨#[]⟩] := Blk.new w _ _
 have hgt := fun k => gcdL_zs (m := m) (l.take k) (fun x hx => hs x (List.mem_of_mem_take hx))
 have HR := zh hr; clear hr
 have HN := zh hn; clear hn
 have HS := zh hs; clear hs
 have HG := zh tg; clear tg
 have HGT := zh hgt; clear hgt
 have HGP := zh hgpos; clear hgpos
 have HCAN := zh hcan; clear hcan
 have HLM := zh hlm; clear hlm
 have HME := zh hM; clear hM
 clear hred
 go_enter Try.func71, Try.ntmps71
 go_wp2_with fail
 go_loopw [16] (fun i wr => ∃ k : Nat, k ≤ n ∧ i = .int .i64 k ∧ Below w.heap.size w wr ∧ Blk wr w.heap.size 33 [.bool (ineg (gcdL (l.take k) : Int)), .string (imag (gcdL (l.take k) : Int))]) (fun i _ => n - (intOf i).toNat)
 case atStart => exact ⟨0, Nat.zero_le _, rfl, (Below.refl _ _).alloc (Nat.le_refl _) _, by rw [List.take_zero]; rw [show ((gcdL [] : Nat) : Int) = 0 from rfl, ineg_zero, imag_zero]; exact HG.out⟩
 case round =>
  obtain ⟨k, hk, rfl, hbel, hgb⟩ := hrel
  obtain ⟨wo, rfl⟩ : ∃ wo : World, wo = wr := ⟨_, rfl⟩
  by_cases hlt : k < n
  ·
   have hkl : k < l.length := by rw [← HN.out]; exact hlt
   have hget : l[k]? = some (l[k]'hkl) := List.getElem?_eq_getElem _
   obtain ⟨x, hx⟩ : ∃ x, x = l[k]'hkl := ⟨_, rfl⟩
   rw [← hx] at hget
   have hxs := HS.out x (by rw [hx]; exact List.getElem_mem _)
   obtain ⟨G, hG⟩ : ∃ G, G = gcdL (l.take k) := ⟨_, rfl⟩
   have hsn : gcdL (l.take (k + 1)) = Nat.gcd G x.natAbs := by rw [hG, List.take_add_one, hget]; exact gcdL_snoc _ _
   have hgs := HGT.out k
   rw [← hG] at hgb hgs
   have hcall := fun w' => igcd_any (ineg (G : Int)) (ineg x) (imag (G : Int)) (imag x) w' (Nat.le_trans hgs.size hm) (Nat.le_trans hxs.size hm)
   rw [imag_list, imag_list, bval_bb, bval_bb, Int.natAbs_natCast, ← hsn] at hcall
   obtain ⟨b1, o1, rfl, hb1, hbc⟩ := HR.out.at_ (by omega)
   obtain ⟨c0, c1⟩ := int_cells hbc hbel hb1 hget
   have hlt2 : (k : Int) < (n : Int) := by omega
   have hal : Below wo.heap.size wo (wo.alloc (.cells #[.bool (ineg x), .string (imag x)] 33)) := (Below.refl _ _).alloc (Nat.le_refl _) _
   have bx := Blk.new wo 33 [.bool (ineg x), .string (imag x)]
   have d0 := bx.c 0 rfl
   have d1 := bx.c 1 rfl
   have tg := hgb.keep hal
   have g0 := tg.c 0 rfl
   have g1 := tg.c 1 rfl
   have tl := hbel.trans (hal.mono hbel.size)
   have HGB := zh tg; clear tg
   have HBL := zh tl; clear tl
   have HC := zh hcall; clear hcall
   clear hG hx hget hbc hkl hsn hgs bx hal hgb hbel hxs
   go_wp2_with fail
   refine (HC.out _).mono ?_
   rintro e w2 ⟨hq, rfl⟩
   dsimp only
   have tg := HGB.out.keep hq
   have tl := HBL.out.trans (hq.mono HBL.out.size)
   have g0 := tg.c 0 rfl
   have g1 := tg.c 1 rfl
   have f0 := tg.frozen 0
   have f1 := tg.frozen 1
   obtain ⟨G', hG'⟩ : ∃ G' : Int, G' = (gcdL (l.take (k + 1)) : Int) := ⟨_, rfl⟩
   rw [← hG']
   clear HGB HBL hq
   have HGB := zh tg; clear tg
   have HBL := zh tl; clear tl
   have HGE := zh hG'; clear hG'
   go_wp2_with fail
   go_roundw
   case rel =>
    refine ⟨k + 1, by omega, by go_num, (HBL.out.setCell (p := ⟨w.heap.size, 0, none⟩) (Nat.le_refl _) _).setCell (p := ⟨w.heap.size, 1, none⟩) (Nat.le_refl _) _, ?_⟩
    rw [← HGE.out]
    exact (HGB.out.set 0 _).set 1 _
   case measure => simp [intOf]; omega
  ·
   obtain rfl : k = n := by omega
   have htk : l.take k = l := List.take_of_length_le (by rw [← HN.out]; exact Nat.le_refl _)
   rw [htk] at hgb
   have hgs := HGT.out k
   rw [htk] at hgs
   obtain ⟨G, hG⟩ : ∃ G : Int, G = (gcdL l : Int) := ⟨_, rfl⟩
   have hG0 := HGP.out
   rw [← hG] at hgb hgs
   have HGE := zh hG; clear hG
   have HGB0 := zh hgb; clear hgb
   have HBL0 := zh hbel; clear hbel
   have hsz0 := HBL0.out.size
   have hlw := HGB0.out.lt
   have hown0 : wo.ownsRow (w.heap.size + 1) 33 2 (.slice none 0 0) 0 [] := World.ownsRow_nil _ _ _ _
   have HOWN0 := zh hown0; clear hown0
   go_wp2_with fail
   go_loopw [8, 26] (fun u i wr => ∃ j : Nat, j ≤ k ∧ i = .int .i64 j ∧ wr.ownsRow (w.heap.size + 1) 33 2 u j (civ (M.take j)) ∧ Below w.heap.size w wr ∧ Blk wr w.heap.size 33 [.bool (ineg G), .string (imag G)]) (fun _ i _ => k - (intOf i).toNat)
   case atStart => exact ⟨0, Nat.zero_le _, rfl, HOWN0.out, HBL0.out, HGB0.out⟩
   case round =>
    obtain ⟨n, hnk⟩ : ∃ n, n = k := ⟨_, rfl⟩
    obtain ⟨k, hk2, rfl, hown, hbel, hgb⟩ := hrel
    clear hsz0 hlw
    obtain ⟨wr1, rfl⟩ : ∃ wo : World, wo = wr := ⟨_, rfl⟩
    have hsz := hbel.size
    have hlw := hgb.lt
    by_cases hlt : k < n
    ·
     have hkl : k < l.length := by rw [← HN.out, ← hnk]; exact hlt
     have hget : l[k]? = some (l[k]'hkl) := List.getElem?_eq_getElem _
     obtain ⟨x, hx⟩ : ∃ x, x = l[k]'hkl := ⟨_, rfl⟩
     rw [← hx] at hget
     have hxm : x ∈ l := by rw [hx]; exact List.getElem_mem _
     have hxs := HS.out x hxm
     have hGp := hG0 (by omega)
     have hG0' : G ≠ 0 := by rw [HGE.out]; omega
     have hxz := fdiv_zs (c := G) (by rw [HGE.out]; exact gcdL_dvd hxm) hxs
     have hrc : redC l s x = if s < 0 then -(x.fdiv G) else x.fdiv G := by unfold redC; rw [HGE.out]
     obtain ⟨z, hz⟩ : ∃ z, z = x.fdiv G := ⟨_, rfl⟩
     obtain ⟨r, hr'⟩ : ∃ r, r = x.fmod G := ⟨_, rfl⟩
     have hdv := fun w' => idiv_any (ineg x) (ineg G) (imag x) (imag G) w' (Nat.le_trans hxs.size hm) (Nat.le_trans hgs.size hm) (by rw [imag_list, bval_bb]; exact Int.natAbs_pos.2 hG0')
     rw [ival_canon, ival_canon, ← hz, ← hr'] at hdv
     rw [← hz] at hxz hrc
     have hz2 : civ (M.take (k + 1)) = civ (M.take k) ++ [.bool (ineg (redC l s x)), .string (imag (redC l s x))] := by
      rw [HME.out, red_take hget]; exact civ_snoc _ _
     obtain ⟨b1, o1, rfl, hb1, hbc⟩ := HR.out.at_ (by omega)
     obtain ⟨c0, c1⟩ := int_cells hbc hbel hb1 hget
     obtain ⟨a, cap, rfl⟩ := own_slice hown
     have hlt2 : (k : Int) < (n : Int) := by omega
     rw [hnk] at hlt2
     have hal : Below wr1.heap.size wr1 (wr1.alloc (.cells #[.bool (ineg x), .string (imag x)] 33)) := (Below.refl _ _).alloc (Nat.le_refl _) _
     have bx := Blk.new wr1 33 [.bool (ineg x), .string (imag x)]
     have d0 := bx.c 0 rfl
     have d1 := bx.c 1 rfl
     have tg := hgb.keep hal
     have ho1 := own_below hown hal
     have g0 := tg.c 0 rfl
     have g1 := tg.c 1 rfl
     have tl := hbel.trans (hal.mono hbel.size)
     have hne : (Value.slice a k cap).ownBlock ≠ some w.heap.size := fun e => by have h9 := (hown.lt _ e).1; omega
     have HNE := zh hne; clear hne
     have HGB := zh tg; clear tg
     have HBL := zh tl; clear tl
     have HO1 := zh ho1; clear ho1
     have HDV := zh hdv; clear hdv
     have HZ2 := zh hz2; clear hz2
     clear hx hget hbc hkl bx hal hgb hbel hown hxs hz hr' hxm hG0'
     go_wp2_with fail
     refine (HDV.out _).mono ?_
     rintro e w2 ⟨hq, rfl⟩
     dsimp only
     have tg := HGB.out.keep hq
     have ko := own_below HO1.out hq
     have tl := HBL.out.trans (hq.mono HBL.out.size)
     clear HGB HBL HO1 hq c0 c1 d0 d1 g0 g1
     obtain ⟨bz, hbz⟩ : ∃ b, b = w2.heap.size := ⟨_, rfl⟩
     have hlw2 : w.heap.size < bz := by rw [hbz]; exact tg.lt
     have hne2 : (Value.slice a k cap).ownBlock ≠ some bz := fun e => by have h9 := (ko.lt _ e).2; omega
     have k_z : Blk ((w2.alloc (.cells #[.bool (ineg z), .string (imag z)] 33)).alloc (.cells #[.bool (ineg r), .string (imag r)] 33)) bz 33 [.bool (ineg z), .string (imag z)] := by rw [hbz]; exact (Blk.new w2 _ _).alloc _
     have hal : Below w2.heap.size w2 ((w2.alloc (.cells #[.bool (ineg z), .string (imag z)] 33)).alloc (.cells #[.bool (ineg r), .string (imag r)] 33)) := ((Below.refl _ _).alloc (Nat.le_refl _) _).alloc (by simp) _
     have tg := tg.keep hal
     have ko := own_below ko hal
     have tl := tl.trans (hal.mono tl.size)
     have z_0 := k_z.c 0 rfl
     have z_1 := k_z.c 1 rfl
     have z_f0 := k_z.frozen 0
     have z_f1 := k_z.frozen 1
     have KZ := zh k_z; clear k_z
     have HGB := zh tg; clear tg
     have HO1 := zh ko; clear ko
     have HBL := zh tl; clear tl
     by_cases hs0 : s < 0
     ·
      rw [if_pos hs0] at hrc
      rw [hrc] at HZ2
      have hng := fun w' => neg_any (ineg z) (imag z) w' (Nat.le_trans hxz.size (by omega))
      rw [ival_canon] at hng
      obtain ⟨y, hy⟩ : ∃ y, y = -z := ⟨_, rfl⟩
      rw [← hy] at hng HZ2
      clear hy hxz hrc
      have HNG := zh hng; clear hng
      have HBZ := zh hbz; clear hbz
      go_wp2_with fail
      (try rw [← HBZ.out])
      refine (HNG.out _).mono ?_
      rintro e w4 ⟨hq, rfl⟩
      dsimp only
      have tg := HGB.out.keep hq
      have ko := own_below HO1.out hq
      have tl := HBL.out.trans (hq.mono HBL.out.size)
      have k_z := KZ.out.keep hq
      have z_0 := k_z.c 0 rfl
      have z_1 := k_z.c 1 rfl
      have z_f0 := k_z.frozen 0
      have z_f1 := k_z.frozen 1
      clear KZ HGB HO1 HBL hq
      have KZ := zh k_z; clear k_z
      have HGB := zh tg; clear tg
      have HO1 := zh ko; clear ko
      have HBL := zh tl; clear tl
      have ho5 : ((w4.setCell ⟨bz, 0, none⟩ (.bool (ineg y))).setCell ⟨bz, 1, none⟩ (.string (imag y))).ownsRow (w.heap.size + 1) 33 2 (.slice a k cap) k (civ (M.take k)) := ownsRow_setCell_other (ownsRow_setCell_other HO1.out hne2 _) hne2 _
      have hb5 : Below w.heap.size w ((w4.setCell ⟨bz, 0, none⟩ (.bool (ineg y))).setCell ⟨bz, 1, none⟩ (.string (imag y))) := (HBL.out.setCell (p := ⟨bz, 0, none⟩) (by show w.heap.size ≤ bz; omega) _).setCell (p := ⟨bz, 1, none⟩) (by show w.heap.size ≤ bz; omega) _
      have hg5 : Blk ((w4.setCell ⟨bz, 0, none⟩ (.bool (ineg y))).setCell ⟨bz, 1, none⟩ (.string (imag y))) w.heap.size 33 [.bool (ineg G), .string (imag G)] := (HGB.out.setOther (a := ⟨bz, 0, none⟩) (by show bz ≠ w.heap.size; omega) _).setOther (a := ⟨bz, 1, none⟩) (by show bz ≠ w.heap.size; omega) _
      have hsz5 : w.heap.size + 1 ≤ ((w4.setCell ⟨bz, 0, none⟩ (.bool (ineg y))).setCell ⟨bz, 1, none⟩ (.string (imag y))).heap.size := hg5.lt
      have hnew : (((w4.setCell ⟨bz, 0, none⟩ (.bool (ineg y))).setCell ⟨bz, 1, none⟩ (.string (imag y))).alloc (.cells #[.bool (ineg y), .string (imag y)] 33)).heap[w4.heap.size]? = some (.cells #[.bool (ineg y), .string (imag y)] 33) := by
       have h := heap_alloc_new ((w4.setCell ⟨bz, 0, none⟩ (.bool (ineg y))).setCell ⟨bz, 1, none⟩ (.string (imag y))) (.cells #[.bool (ineg y), .string (imag y)] 33)
       (try simp only [World.size_alloc, World.size_setCell, Nat.add_assoc, Nat.reduceAdd] at h)
       exact h
      have HNEW := zh hnew; clear hnew
      have HO5 := zh ho5; clear ho5
      have HB5 := zh hb5; clear hb5
      have HG5 := zh hg5; clear hg5
      go_wp2_with (at_builtin; go_loud (refine wpList_append_lies _ rfl (.tmp 41) (.tmp 43) 25 rfl (w.heap.size + 1) 33 i0 _ 2 24 Try.underlying25 hi hz0 hz1' hz2' rfl (by decide) _ _ _ rfl (HO5.out.alloc _) _ 1 1 [.bool (ineg y), .string (imag y)] rfl rfl (World.news_of_block HNEW.out) (by simp [Value.oneCell']) (by omega) (by unfold maxLen; omega) (by omega) (by rw [World.size_alloc]; omega) _ rfl ?_); intro g cap' w6 hown' hg hat hlt'; have HG6 := zh hg; clear hg; have HO6 := zh hown'; clear hown'; have HAT := zh hat; clear hat)
      go_roundw
      case rel =>
       refine ⟨k + 1, by omega, by go_num, ?_, (HB5.out.alloc (by omega) _).grown HG6.out (by rw [World.size_alloc]; omega) (fun j hj => by have := (HO5.out.lt j hj).1; omega), (HG5.out.alloc _).grown HG6.out HNE.out⟩
       rw [HZ2.out]; exact HO6.out
      case measure => simp [intOf]; omega
     ·
      rw [if_neg hs0] at hrc
      rw [hrc] at HZ2
      obtain ⟨y, rfl⟩ : ∃ y, y = z := ⟨_, rfl⟩
      clear hxz hrc z_0 z_1 z_f0 z_f1
      have hzz := hbz
      have HBZ := zh hbz; clear hbz
      clear hzz
      have ho5 : ((w2.alloc (.cells #[.bool (ineg y), .string (imag y)] 33)).alloc (.cells #[.bool (ineg r), .string (imag r)] 33)).ownsRow (w.heap.size + 1) 33 2 (.slice a k cap) k (civ (M.take k)) := HO1.out
      have hb5 : Below w.heap.size w ((w2.alloc (.cells #[.bool (ineg y), .string (imag y)] 33)).alloc (.cells #[.bool (ineg r), .string (imag r)] 33)) := HBL.out
      have hg5 : Blk ((w2.alloc (.cells #[.bool (ineg y), .string (imag y)] 33)).alloc (.cells #[.bool (ineg r), .string (imag r)] 33)) w.heap.size 33 [.bool (ineg G), .string (imag G)] := HGB.out
      have hsz5 : w.heap.size + 1 ≤ ((w2.alloc (.cells #[.bool (ineg y), .string (imag y)] 33)).alloc (.cells #[.bool (ineg r), .string (imag r)] 33)).heap.size := hg5.lt
      have hnew : (((w2.alloc (.cells #[.bool (ineg y), .string (imag y)] 33)).alloc (.cells #[.bool (ineg r), .string (imag r)] 33)).alloc (.cells #[.bool (ineg y), .string (imag y)] 33)).heap[w2.heap.size + 2]? = some (.cells #[.bool (ineg y), .string (imag y)] 33) := by
       have h := heap_alloc_new ((w2.alloc (.cells #[.bool (ineg y), .string (imag y)] 33)).alloc (.cells #[.bool (ineg r), .string (imag r)] 33)) (.cells #[.bool (ineg y), .string (imag y)] 33)
       (try simp only [World.size_alloc, World.size_setCell, Nat.add_assoc, Nat.reduceAdd] at h)
       exact h
      have HNEW := zh hnew; clear hnew
      have HO5 := zh ho5; clear ho5
      have HB5 := zh hb5; clear hb5
      have HG5 := zh hg5; clear hg5
      go_wp2_with (at_builtin; go_loud (refine wpList_append_lies _ rfl (.tmp 41) (.tmp 43) 25 rfl (w.heap.size + 1) 33 i0 _ 2 24 Try.underlying25 hi hz0 hz1' hz2' rfl (by decide) _ _ _ rfl (HO5.out.alloc _) _ 1 1 [.bool (ineg y), .string (imag y)] rfl rfl (World.news_of_block HNEW.out) (by simp [Value.oneCell']) (by omega) (by unfold maxLen; omega) (by omega) (by rw [World.size_alloc]; omega) _ rfl ?_); intro g cap' w6 hown' hg hat hlt'; have HG6 := zh hg; clear hg; have HO6 := zh hown'; clear hown'; have HAT := zh hat; clear hat)
      go_roundw
      case rel =>
       refine ⟨k + 1, by omega, by go_num, ?_, (HB5.out.alloc (by omega) _).grown HG6.out (by rw [World.size_alloc]; omega) (fun j hj => by have := (HO5.out.lt j hj).1; omega), (HG5.out.alloc _).grown HG6.out HNE.out⟩
       rw [HZ2.out]; exact HO6.out
      case measure => simp [intOf]; omega
    ·
     obtain rfl : k = n := by omega
     have hmt : M.take k = M := List.take_of_length_le (by rw [HLM.out, hnk]; exact Nat.le_refl _)
     rw [hmt] at hown
     have hrow := own_row hown
     rw [hnk] at hrow
     have hcn := HCAN.out _ _ hrow
     have HCN := zh hcn; clear hcn
     have HBL := zh hbel; clear hbel
     clear hown hgb
     go_wp2_with fail
     refine (HCN.out).mono ?_
     rintro e w2 ⟨hq, v2, rfl, hv2, hf2⟩
     dsimp only
     have hf3 : Fresh w v2 := fun b e => Nat.le_trans HBL.out.size (hf2 b e)
     have HF3 := zh hf3; clear hf3
     clear hf2
     have tl := HBL.out.trans (hq.mono HBL.out.size)
     have HBL2 := zh tl; clear tl
     have HV2 := zh hv2; clear hv2
     clear hq
     go_wp2_with fail
     refine bodyPost_ret (v := v2) (by simp [results, Try.results71, go_sem]) rfl ⟨HBL2.out, v2, rfl, HV2.out, HF3.out⟩
end Go.Proofs.Ytjpalbonclgflaa

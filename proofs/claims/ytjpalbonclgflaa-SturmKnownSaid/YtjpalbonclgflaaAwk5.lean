/- groovelaw05.awake is true (printed by gen_awk5.py). -/
import Derived.Deep.RegionHeld3
import Derived.StillTailTactics
import Derived.Test.YtjpalbonclgflaaPart19
import Derived.Test.YtjpalbonclgflaaLw5
namespace Go.Proofs.Ytjpalbonclgflaa
open Go.RowKit

theorem ivType : Try.prog.underlying 54 = some (.struct (Try.prog.fieldsOf 54)) := by kernel_rfl
theorem ivStood : Try.prog.stoodInHeld 54 = false := by kernel_rfl
theorem ivFlds : (Try.prog.fieldsOf 54).toList.map (fun f => (f.type, f.offset, f.name == "_")) = [(35, 0, false), (35, 4, false)] := by kernel_rfl
theorem partI0 (a b c d : Bool) (s t u v : ByteArray) (w : World) : (Go.part 35 #[.bool a, .string s, .bool b, .string t, .bool c, .string u, .bool d, .string v] 0).run Try.prog w = .ok (.agg #[.bool a, .string s, .bool b, .string t]) w := by kernel_rfl
theorem partI4 (a b c d : Bool) (s t u v : ByteArray) (w : World) : (Go.part 35 #[.bool a, .string s, .bool b, .string t, .bool c, .string u, .bool d, .string v] 4).run Try.prog w = .ok (.agg #[.bool c, .string u, .bool d, .string v]) w := by kernel_rfl
theorem eqIn_rat_same (d : Nat) (a b : Bool) (s t : ByteArray) (w : World) : (Op.equalIn (d + 4) 35 (.agg #[.bool a, .string s, .bool b, .string t]) (.agg #[.bool a, .string s, .bool b, .string t])).run Try.prog w = .ok true w := by
 rw [eqIn_ratD, bytes_beq, bytes_beq]; simp
set_option maxRecDepth 100000 in
theorem eqIn_ivl_same (a b c d : Bool) (s t u v : ByteArray) (w : World) : (Op.equalIn 10000 54 (.agg #[.bool a, .string s, .bool b, .string t, .bool c, .string u, .bool d, .string v]) (.agg #[.bool a, .string s, .bool b, .string t, .bool c, .string u, .bool d, .string v])).run Try.prog w = .ok true w := by
 have e : ∀ fs, (Try.prog.fieldsOf 54).toList = fs → (Op.eqFields 9999 #[.bool a, .string s, .bool b, .string t, .bool c, .string u, .bool d, .string v] #[.bool a, .string s, .bool b, .string t, .bool c, .string u, .bool d, .string v] fs).run Try.prog w = .ok true w := by
  intro fs hfs
  have hm := ivFlds
  rw [hfs] at hm
  match fs, hm with
  | [f0, f1], hm =>
   simp only [List.map_cons, List.map_nil, List.cons.injEq, Prod.mk.injEq, and_true] at hm
   obtain ⟨⟨t0, o0, n0⟩, ⟨t1, o1, n1⟩⟩ := hm
   rw [beq_eq_false_iff_ne] at n0 n1
   have h1 := fun w => eqIn_rat_same 9995 a b s t w
   have h2 := fun w => eqIn_rat_same 9995 c d u v w
   simp only [Nat.reduceAdd] at h1 h2
   simp [Op.eqFields, n0, n1, t0, o0, t1, o1, partI0, partI4, h1, h2]
 exact (run_equalIn_struct (P := Try.prog) w 9999 54 _ _ ivType ivStood).trans (e _ rfl)
set_option maxRecDepth 100000 in
set_option maxHeartbeats 12800000 in
theorem awake5_true (w : World) : Calls Try.prog 4 #[] w (Ret w (.bool true)) := by
 go_enter Try.func4, Try.ntmps4
 go_wp2_with fail
 have hr0 : Row (w.alloc (.cells #[.int .i64 (-2), .int .i64 0, .int .i64 1] 3)) (.slice (some ⟨w.heap.size, 0, none⟩) 3 3) 3 (ci pA) := Row.ofBlk (Blk.new w 3 [.int .i64 (-2), .int .i64 0, .int .i64 1]) (m := 3) (cap := 3) (Nat.le_refl _) (by unfold maxLen; omega) 3
 have hal : Below w.heap.size w (w.alloc (.cells #[.int .i64 (-2), .int .i64 0, .int .i64 1] 3)) := (Below.refl _ _).alloc (Nat.le_refl _) _
 refine (poly_any pA _ _ hr0 (by decide) (by decide)).mono ?_
 rintro e1 w1 ⟨hq1, v1, rfl, hv1⟩
 dsimp only
 have s1 := hal.trans (hq1.mono hal.size)
 replace hv1 : Row w1 v1 3 (civ pA) := hv1
 obtain ⟨a1, c1, rfl, -⟩ := hv1.slice
 have hch := sChain_any pA _ w1 10 hv1 fine_pA
 rw [stm_pA] at hch
 unfold AllRet at hch
 have HCH := zh hch; clear hch
 have S1 := zh s1; clear s1
 have HV1 := zh hv1; clear hv1
 clear hr0 hal hq1
 go_wp2_with fail
 refine (HCH.out).mono ?_
 rintro e2 w2 ⟨hq2, v2, rfl, hv2⟩
 dsimp only
 have s2 := S1.out.trans (hq2.mono S1.out.size)
 have hv1 := HV1.out.below hq2 (Nat.le_refl _)
 obtain ⟨a2, c2, rfl⟩ : ∃ a c, v2 = .slice a 3 c := by
  obtain ⟨rvs, -, hrow, -⟩ := id hv2
  obtain ⟨a, c, h, -⟩ := hrow.slice
  exact ⟨a, c, h⟩
 have hbo := sBound_any pA _ w2 10 hv1 fine_pA
 rw [bnd_pA] at hbo
 have HBO := zh hbo; clear hbo
 have S2 := zh s2; clear s2
 have HV1' := zh hv1; clear hv1
 have HV2 := zh hv2; clear hv2
 clear hq2 S1 HV1 HCH
 go_wp2_with fail
 refine (HBO.out).mono ?_
 rintro e3 w3 ⟨hq3, rfl⟩
 dsimp only
 obtain ⟨z4, hz4⟩ : ∃ z : Int, z = ((4 : Nat) : Int) := ⟨_, rfl⟩
 rw [← hz4]
 obtain ⟨b_b, hb_b⟩ : ∃ b, b = w3.heap.size := ⟨_, rfl⟩
 obtain ⟨w4, hw4⟩ : ∃ x, x = w3.alloc (.cells #[.bool (ineg z4), .string (imag z4)] 33) := ⟨_, rfl⟩
 have hal : Below w3.heap.size w3 w4 := by rw [hw4]; exact (Below.refl _ _).alloc (Nat.le_refl _) _
 have k_b : Blk w4 b_b 33 [.bool (ineg z4), .string (imag z4)] := by rw [hw4, hb_b]; exact Blk.new _ _ _
 have h24 : Below w2.heap.size w2 w4 := hq3.trans (hal.mono hq3.size)
 have s4 := S2.out.trans (h24.mono S2.out.size)
 have hv1 := HV1'.out.below h24 (Nat.le_refl _)
 have hv2 := HV2.out.below h24 (Nat.le_refl _)
 have his := sIsolate_any pA _ w4 10 10 [(-(Rat.divInt 4 1), 0), (0, Rat.divInt 4 1)] hv1 fine_pA (by decide) (by decide) (by rw [stm_pA, bnd_pA]; exact iso_pA)
 unfold IsoRet at his
 have HIS := zh his; clear his
 have S4 := zh s4; clear s4
 have HV1 := zh hv1; clear hv1
 have HV2' := zh hv2; clear hv2
 have HZ4 := zh hz4; clear hz4
 have HBB := zh hb_b; clear hb_b
 have HW4 := zh hw4; clear hw4
 clear hq3 hal h24 HV1' HV2 HBO S2
 go_wp2_with fail
 (try rw [← HBB.out])
 (try rw [← HW4.out])
 clear HBB HW4
 refine (HIS.out).mono ?_
 rintro e5 w5 ⟨hq5, v5, rfl, hv5⟩
 dsimp only
 replace hv5 : Row w5 v5 2 (cis [(-(Rat.divInt 4 1), 0), (0, Rat.divInt 4 1)]) := hv5
 obtain ⟨a5, c5, rfl, -⟩ := hv5.slice
 obtain ⟨bi, oi, rfl, hbi1, hbi2⟩ := hv5.at_ (by decide)
 have s5 := S4.out.trans (hq5.mono S4.out.size)
 have hv1 := HV1.out.below hq5 (Nat.le_refl _)
 have hv2 := HV2'.out.below hq5 (Nat.le_refl _)
 have k_b := (show Blk w4 b_b 33 [.bool (ineg z4), .string (imag z4)] from k_b).keep hq5
 have HB := zh k_b; clear k_b
 have S5 := zh s5; clear s5
 have HV1b := zh hv1; clear hv1
 have HV2b := zh hv2; clear hv2
 have HV5 := zh hv5; clear hv5
 have HBI := zh hbi2; clear hbi2
 clear hq5 HV1 HV2' S4 HIS
 have hr6 : Row (w5.alloc (.cells #[.int .i64 0, .int .i64 1] 3)) (.slice (some ⟨w5.heap.size, 0, none⟩) 2 2) 2 (ci [0, 1]) := Row.ofBlk (Blk.new w5 3 [.int .i64 0, .int .i64 1]) (m := 2) (cap := 2) (Nat.le_refl _) (by unfold maxLen; omega) 2
 have hal : Below w5.heap.size w5 (w5.alloc (.cells #[.int .i64 0, .int .i64 1] 3)) := (Below.refl _ _).alloc (Nat.le_refl _) _
 have HR6 := zh hr6; clear hr6
 go_wp2_with fail
 refine (poly_any [0, 1] _ _ HR6.out (by decide) (by decide)).mono ?_
 rintro e6 w6 ⟨hq6, v6, rfl, hv6⟩
 dsimp only
 have t6 := hal.trans (hq6.mono hal.size)
 replace hv6 : Row w6 v6 2 (civ [0, 1]) := hv6
 obtain ⟨a6, c6, rfl, -⟩ := hv6.slice
 have hr7 : Row (w6.alloc (.cells #[.int .i64 1] 3)) (.slice (some ⟨w6.heap.size, 0, none⟩) 1 1) 1 (ci [1]) := Row.ofBlk (Blk.new w6 3 [.int .i64 1]) (m := 1) (cap := 1) (Nat.le_refl _) (by unfold maxLen; omega) 1
 have hal7 : Below w6.heap.size w6 (w6.alloc (.cells #[.int .i64 1] 3)) := (Below.refl _ _).alloc (Nat.le_refl _) _
 have HR7 := zh hr7; clear hr7
 have HV6 := zh hv6; clear hv6
 have T6 := zh t6; clear t6
 clear HR6 hal hq6
 go_wp2_with fail
 refine (poly_any [1] _ _ HR7.out (by decide) (by decide)).mono ?_
 rintro e7 w7 ⟨hq7, v7, rfl, hv7⟩
 dsimp only
 have t67 := hal7.trans (hq7.mono hal7.size)
 replace hv7 : Row w7 v7 1 (civ [1]) := hv7
 obtain ⟨a7, c7, rfl, -⟩ := hv7.slice
 obtain ⟨wR, hwR⟩ : ∃ x, x = w7.alloc (.cells #[.slice a1 3 c1, .slice a6 2 c6, .slice a7 1 c7] 25) := ⟨_, rfl⟩
 have hal8 : Below w7.heap.size w7 wR := by rw [hwR]; exact (Below.refl _ _).alloc (Nat.le_refl _) _
 have t68 := t67.trans (hal8.mono t67.size)
 have t8 := T6.out.trans (t68.mono T6.out.size)
 have s8 := S5.out.trans (t8.mono S5.out.size)
 obtain ⟨b8, hb8⟩ : ∃ b, b = w7.heap.size := ⟨_, rfl⟩
 have hrow8 : Row wR (.slice (some ⟨b8, 0, none⟩) 3 3) 3 [.slice a1 3 c1, .slice a6 2 c6, .slice a7 1 c7] := by
  rw [hwR, hb8]
  exact Row.ofBlk (Blk.new w7 25 [.slice a1 3 c1, .slice a6 2 c6, .slice a7 1 c7]) (m := 3) (cap := 3) (Nat.le_refl _) (by unfold maxLen; omega) 3
 have hp8 := HV1b.out.below t8 (Nat.le_refl _)
 have ht8 : Tab wR (.slice (some ⟨b8, 0, none⟩) 3 3) rA := by
  refine ⟨_, rfl, hrow8, fun i r hi => ?_⟩
  match i, hi with
  | 0, hi => cases hi; exact ⟨_, rfl, hp8⟩
  | 1, hi => cases hi; exact ⟨_, rfl, HV6.out.below t68 (Nat.le_refl _)⟩
  | 2, hi => cases hi; exact ⟨_, rfl, hv7.below hal8 (Nat.le_refl _)⟩
 have ht2 : Tab wR (.slice a2 3 c2) rA := HV2b.out.below t8 (Nat.le_refl _)
 have k_b := HB.out.keep t8
 have hci : ∀ (j : Nat) (u : Value), (cis [(-(Rat.divInt 4 1), 0), (0, Rat.divInt 4 1)])[j]? = some u → wR.cell? ⟨bi, oi + j, none⟩ = some u := fun j u h => (t8.cell (p := ⟨bi, oi + j, none⟩) hbi1).trans (HBI.out j u h)
 have hbR : bi < wR.heap.size := Nat.lt_of_lt_of_le hbi1 t8.size
 have tl := Below.refl wR.heap.size wR
 have HP := zh hp8; clear hp8
 have HT8 := zh ht8; clear ht8
 have HT2 := zh ht2; clear ht2
 have HCI := zh hci; clear hci
 have S8 := zh s8; clear s8
 have HB8 := zh hb8; clear hb8
 have HWR := zh hwR; clear hwR
 clear HR7 hal7 hq7 hv7 hal8 t67 t68 t8 hrow8 HV6 T6 HV1b HV2b HV5 HBI S5 HB hbi1
 go_wp2_with fail
 (try rw [← HB8.out])
 (try rw [← HWR.out])
 clear HWR HB8
 obtain ⟨b_0, b_f0, b_1, b_f1⟩ := k_b.f2
 have HB := zh k_b; clear k_b
 have HBL := zh tl; clear tl
 have hof : ∀ w', Calls Try.prog 16 #[.int .i64 4] w' (Ret w' (IntV z4)) := fun w' => by
  have h := iof_any 4 w' (by decide) (by decide)
  rw [show z4 = 4 from HZ4.out]
  exact h
 have heql := fun w' => eqIn_same (ineg z4) (imag z4) w'
 have HOF := zh hof; clear hof
 have hsm := rsame5_yes rA _ _ wR.drew HT2.out.drew HT8.out.drew (by decide) (by decide)
 have HSM := zh hsm; clear hsm
 have HB := zh HB.out.drew
 have HBL := zh HBL.out.drew
 refine wp_region_held_drew (S := fun w' => w'.cell? ⟨b_b, 0, none⟩ = some (.bool (ineg z4)) ∧ w'.cell? ⟨b_b, 1, none⟩ = some (.string (imag z4))) (by kernel_rfl) ?_ (fun hHeld0 => ?_)
 ·
  go_keep
 refine zT 0 (h := ?_)
 (try simp only [Act.put, zA, zB, zC])
 refine zT 1 (h := ?_)
 (try simp only [Act.put, zA, zB, zC])
 refine zT 2 (h := ?_)
 (try simp only [Act.put, zA, zB, zC])
 refine zR 3 (h := fun K hK => ?_)
 go_simp
 refine hK.out _ _ ?_ (fun hHeld1 => ?_)
 ·
  ((try dsimp only); go_keep)
 clear hK K
 (try simp only [Act.put, zA, zB, zC])
 refine zT 4 (h := ?_)
 (try simp only [Act.put, zA, zB, zC])
 refine zT 5 (h := ?_)
 (try simp only [Act.put, zA, zB, zC])
 refine zT 6 (h := ?_)
 (try simp only [Act.put, zA, zB, zC])
 refine zT 7 (h := ?_)
 (try simp only [Act.put, zA, zB, zC])
 refine zR 8 (h := fun K hK => ?_)
 rw [if_pos (by kernel_rfl)]
 go_simp
 go_at_call 15
 refine (HSM.out).mono ?_
 rintro e w31 ⟨hq, rfl⟩
 dsimp only
 have z0 := zK hq HB.out.lt hHeld1.1
 have z1 := zK hq HB.out.lt hHeld1.2
 refine hK.out _ _ ⟨z0, z1⟩ (fun hHeld2 => ?_)
 clear hK K hHeld1 z0 z1
 (try simp only [Act.put, zA, zB, zC])
 have k_b := HB.out.keep hq
 have tl := HBL.out.trans ((hq).mono HBL.out.size)
 clear HBL HB
 clear b_0 b_f0 b_1 b_f1
 obtain ⟨b_0, b_f0, b_1, b_f1⟩ := k_b.f2
 have HB := zh k_b; clear k_b
 have HBL := zh tl; clear tl
 clear hq
 refine zT 9 (h := ?_)
 (try simp only [Act.put, zA, zB, zC])
 refine zT 10 (h := ?_)
 (try simp only [Act.put, zA, zB, zC])
 refine zT 11 (h := ?_)
 (try simp only [Act.put, zA, zB, zC])
 refine zT 12 (h := ?_)
 (try simp only [Act.put, zA, zB, zC])
 refine zR 13 (h := fun K hK => ?_)
 rw [if_pos (by kernel_rfl)]
 go_simp
 go_at_call 16
 refine (HOF.out _).mono ?_
 rintro e w32 ⟨hq, rfl⟩
 dsimp only
 have z0 := zK hq HB.out.lt hHeld2.1
 have z1 := zK hq HB.out.lt hHeld2.2
 refine hK.out _ _ ⟨z0, z1⟩ (fun hHeld3 => ?_)
 clear hK K hHeld2 z0 z1
 (try simp only [Act.put, zA, zB, zC])
 have k_b := HB.out.keep hq
 have tl := HBL.out.trans ((hq).mono HBL.out.size)
 clear HBL HB
 clear b_0 b_f0 b_1 b_f1
 obtain ⟨b_0, b_f0, b_1, b_f1⟩ := k_b.f2
 have HB := zh k_b; clear k_b
 have HBL := zh tl; clear tl
 clear hq
 refine zT 14 (h := ?_)
 (try simp only [Act.put, zA, zB, zC])
 refine zT 15 (h := ?_)
 (try simp only [Act.put, zA, zB, zC])
 refine zT 16 (h := ?_)
 (try simp only [Act.put, zA, zB, zC])
 refine zT 17 (h := ?_)
 (try simp only [Act.put, zA, zB, zC])
 refine zT 18 (h := ?_)
 (try simp only [Act.put, zA, zB, zC])
 refine zT 19 (h := ?_)
 (try simp only [Act.put, zA, zB, zC])
 refine zT 20 (h := ?_)
 (try simp only [Act.put, zA, zB, zC])
 refine wpAnyH_done (by kernel_rfl) ?_ _
 (try simp only [List.getElem_toArray, List.getElem_cons_zero, List.getElem_cons_succ, Act.put, zA, zB, zC])
 have hci8 : ∀ (k : Nat) (u : Value), (cis [(-(Rat.divInt 4 1), 0), (0, Rat.divInt 4 1)])[8 + k]? = some u → w32.cell? ⟨bi, oi + 8 + k, none⟩ = some u := fun k u h => by
  have h2 := (HBL.out.cell (p := ⟨bi, oi + (8 + k), none⟩) hbR).trans (HCI.out (8 + k) u h)
  rw [← Nat.add_assoc] at h2
  exact h2
 go_wp2_with fail
 go_cut [9, 10] from 55 to 63 (fun p q wx => ∃ bx, p = .pointer (some ⟨bx, 0, none⟩) ∧ q = .int .i64 0 ∧ Below wR.heap.size wR wx ∧ Blk wx bx 54 [.bool (ineg ((Rat.divInt 1 1)).num), .string (imag ((Rat.divInt 1 1)).num), .bool (ineg (((Rat.divInt 1 1)).den : Int)), .string (imag (((Rat.divInt 1 1)).den : Int)), .bool (ineg ((Rat.divInt 3 2)).num), .string (imag ((Rat.divInt 3 2)).num), .bool (ineg (((Rat.divInt 3 2)).den : Int)), .string (imag (((Rat.divInt 3 2)).den : Int))])
 case first =>
  clear HB b_0 b_f0 b_1 b_f1
  have ci0 := hci8 0 _ (show (cis [(-(Rat.divInt 4 1), 0), (0, Rat.divInt 4 1)])[8 + 0]? = some (.bool (ineg ((0 : Rat)).num)) from rfl)
  have ci1 := hci8 1 _ (show (cis [(-(Rat.divInt 4 1), 0), (0, Rat.divInt 4 1)])[8 + 1]? = some (.string (imag ((0 : Rat)).num)) from rfl)
  have ci2 := hci8 2 _ (show (cis [(-(Rat.divInt 4 1), 0), (0, Rat.divInt 4 1)])[8 + 2]? = some (.bool (ineg (((0 : Rat)).den : Int))) from rfl)
  have ci3 := hci8 3 _ (show (cis [(-(Rat.divInt 4 1), 0), (0, Rat.divInt 4 1)])[8 + 3]? = some (.string (imag (((0 : Rat)).den : Int))) from rfl)
  have ci4 := hci8 4 _ (show (cis [(-(Rat.divInt 4 1), 0), (0, Rat.divInt 4 1)])[8 + 4]? = some (.bool (ineg ((Rat.divInt 4 1)).num)) from rfl)
  have ci5 := hci8 5 _ (show (cis [(-(Rat.divInt 4 1), 0), (0, Rat.divInt 4 1)])[8 + 5]? = some (.string (imag ((Rat.divInt 4 1)).num)) from rfl)
  have ci6 := hci8 6 _ (show (cis [(-(Rat.divInt 4 1), 0), (0, Rat.divInt 4 1)])[8 + 6]? = some (.bool (ineg (((Rat.divInt 4 1)).den : Int))) from rfl)
  have ci7 := hci8 7 _ (show (cis [(-(Rat.divInt 4 1), 0), (0, Rat.divInt 4 1)])[8 + 7]? = some (.string (imag (((Rat.divInt 4 1)).den : Int))) from rfl)
  have hrt := fun w' => lratio_any 1 2 w' (by decide) (by decide) (by decide) (by decide) (by decide)
  have HRT := zh hrt; clear hrt
  have hrf := fun w' h => sRefine_any pA (.slice a1 3 c1) 0 (Rat.divInt 4 1) (Rat.divInt 1 2) w' 10 10 3 h fine_pA (by decide) (by decide) (by decide +kernel) (by decide +kernel) (by decide +kernel) (by rw [stm_pA]; exact root_pA) (by decide) wds_pA.1 wds_pA.2.1 wds_pA.2.2 (by rw [stm_pA]; exact rfn_pA.1)
  rw [stm_pA, rfn_pA.2] at hrf
  have HRF := zh hrf; clear hrf
  have HBL := zh HBL.out.drew
  refine wp_region_held_drew (S := fun w' => w'.cell? ⟨bi, oi + 8, none⟩ = some (.bool (ineg ((0 : Rat)).num)) ∧ w'.cell? ⟨bi, oi + 8 + 1, none⟩ = some (.string (imag ((0 : Rat)).num)) ∧ w'.cell? ⟨bi, oi + 8 + 2, none⟩ = some (.bool (ineg (((0 : Rat)).den : Int))) ∧ w'.cell? ⟨bi, oi + 8 + 3, none⟩ = some (.string (imag (((0 : Rat)).den : Int))) ∧ w'.cell? ⟨bi, oi + 8 + 4, none⟩ = some (.bool (ineg ((Rat.divInt 4 1)).num)) ∧ w'.cell? ⟨bi, oi + 8 + 5, none⟩ = some (.string (imag ((Rat.divInt 4 1)).num)) ∧ w'.cell? ⟨bi, oi + 8 + 6, none⟩ = some (.bool (ineg (((Rat.divInt 4 1)).den : Int))) ∧ w'.cell? ⟨bi, oi + 8 + 7, none⟩ = some (.string (imag (((Rat.divInt 4 1)).den : Int)))) (by kernel_rfl) ?_ (fun hHeld0 => ?_)
  ·
   go_keep
  refine zT 0 (h := ?_)
  (try simp only [Act.put, zA, zB, zC])
  refine zT 1 (h := ?_)
  (try simp only [Act.put, zA, zB, zC])
  refine zT 2 (h := ?_)
  (try simp only [Act.put, zA, zB, zC])
  refine zT 3 (h := ?_)
  (try simp only [Act.put, zA, zB, zC])
  refine wpAnyH_ready (rs := [4, 9]) (by kernel_rfl) (by simp) ?_
  refine (AllReadyH.cons rfl (fun K hK => ?_) (AllReadyH.cons rfl (fun K hK => ?_) AllReadyH.nil))
  ·
   go_simp
   go_at_call 7
   refine (HRT.out _).mono ?_
   rintro e w61 ⟨hq, rfl⟩
   dsimp only
   have z0 := zK hq (Nat.lt_of_lt_of_le hbR HBL.out.size) hHeld0.1
   have z1 := zK hq (Nat.lt_of_lt_of_le hbR HBL.out.size) hHeld0.2.1
   have z2 := zK hq (Nat.lt_of_lt_of_le hbR HBL.out.size) hHeld0.2.2.1
   have z3 := zK hq (Nat.lt_of_lt_of_le hbR HBL.out.size) hHeld0.2.2.2.1
   have z4 := zK hq (Nat.lt_of_lt_of_le hbR HBL.out.size) hHeld0.2.2.2.2.1
   have z5 := zK hq (Nat.lt_of_lt_of_le hbR HBL.out.size) hHeld0.2.2.2.2.2.1
   have z6 := zK hq (Nat.lt_of_lt_of_le hbR HBL.out.size) hHeld0.2.2.2.2.2.2.1
   have z7 := zK hq (Nat.lt_of_lt_of_le hbR HBL.out.size) hHeld0.2.2.2.2.2.2.2
   refine hK.out _ _ ⟨z0, z1, z2, z3, z4, z5, z6, z7⟩ (fun hHeld1 => ?_)
   clear hK K hHeld0 z0 z1 z2 z3 z4 z5 z6 z7
   (try simp only [Act.put, zA, zB, zC])
   have tl := HBL.out.trans ((hq).mono HBL.out.size)
   clear HBL 
   have HBL := zh tl; clear tl
   clear hq
   refine wpAnyH_ready (rs := [5, 9]) (by kernel_rfl) (by simp) ?_
   refine (AllReadyH.cons rfl (fun K hK => ?_) (AllReadyH.cons rfl (fun K hK => ?_) AllReadyH.nil))
   ·
    go_simp
    have hrf := HRF.out _ (HP.out.below HBL.out (Nat.le_refl _))
    have HRF1 := zh hrf; clear hrf
    go_at_call 17
    refine (HRF1.out).mono ?_
    rintro e w62 ⟨hq, rfl⟩
    dsimp only
    have z0 := zK hq (Nat.lt_of_lt_of_le hbR HBL.out.size) hHeld1.1
    have z1 := zK hq (Nat.lt_of_lt_of_le hbR HBL.out.size) hHeld1.2.1
    have z2 := zK hq (Nat.lt_of_lt_of_le hbR HBL.out.size) hHeld1.2.2.1
    have z3 := zK hq (Nat.lt_of_lt_of_le hbR HBL.out.size) hHeld1.2.2.2.1
    have z4 := zK hq (Nat.lt_of_lt_of_le hbR HBL.out.size) hHeld1.2.2.2.2.1
    have z5 := zK hq (Nat.lt_of_lt_of_le hbR HBL.out.size) hHeld1.2.2.2.2.2.1
    have z6 := zK hq (Nat.lt_of_lt_of_le hbR HBL.out.size) hHeld1.2.2.2.2.2.2.1
    have z7 := zK hq (Nat.lt_of_lt_of_le hbR HBL.out.size) hHeld1.2.2.2.2.2.2.2
    refine hK.out _ _ ⟨z0, z1, z2, z3, z4, z5, z6, z7⟩ (fun hHeld2 => ?_)
    clear hK K hHeld1 z0 z1 z2 z3 z4 z5 z6 z7
    (try simp only [Act.put, zA, zB, zC])
    have tl := HBL.out.trans ((hq).mono HBL.out.size)
    clear HBL 
    have HBL := zh tl; clear tl
    clear hq
    refine zT 6 (h := ?_)
    (try simp only [Act.put, zA, zB, zC])
    refine zT 7 (h := ?_)
    (try simp only [Act.put, zA, zB, zC])
    refine zT 8 (h := ?_)
    (try simp only [Act.put, zA, zB, zC])
    refine wpAnyH_ready (rs := [9]) (by kernel_rfl) (by simp) ?_
    refine (AllReadyH.cons rfl (fun K hK => ?_) AllReadyH.nil)
    ·
     go_simp
     refine hK.out _ _ ?_ (fun hHeld3 => ?_)
     ·
      ((try dsimp only); go_keep)
     clear hK K
     (try simp only [Act.put, zA, zB, zC])
     have hcs := HBL.out.size
     obtain ⟨b_x, hb_x⟩ : ∃ b, b = w62.heap.size := ⟨_, rfl⟩
     have hal : Below w62.heap.size w62 (w62.alloc (.cells #[.bool false, .string ⟨#[]⟩, .bool false, .string ⟨#[]⟩, .bool false, .string ⟨#[]⟩, .bool false, .string ⟨#[]⟩] 54)) := (Below.refl _ _).alloc (Nat.le_refl _) _
     have k_x : Blk (w62.alloc (.cells #[.bool false, .string ⟨#[]⟩, .bool false, .string ⟨#[]⟩, .bool false, .string ⟨#[]⟩, .bool false, .string ⟨#[]⟩] 54)) b_x 54 [.bool false, .string ⟨#[]⟩, .bool false, .string ⟨#[]⟩, .bool false, .string ⟨#[]⟩, .bool false, .string ⟨#[]⟩] := by rw [hb_x]; exact Blk.new w62 _ _
     have hge_x : wR.heap.size ≤ b_x := by rw [hb_x]; exact HBL.out.size
     have tl := HBL.out.trans ((hal).mono HBL.out.size)
     clear HBL 
     have HBL := zh tl; clear tl
     clear hal
     obtain ⟨x_0, x_f0, x_1, x_f1, x_2, x_f2, x_3, x_f3, x_4, x_f4, x_5, x_f5, x_6, x_f6, x_7, x_f7⟩ := k_x.f8
     have HX := zh k_x; clear k_x
     have hxb : wR.heap.size ≤ b_x := by rw [hb_x]; exact hcs
     (try simp only [World.size_drew] at hb_x)
     (try rw [← hb_x])
     have HB_x := zh hb_x; clear hb_x
     have hnb1 : ¬ b_x = bi := by omega
     have hnb2 : ¬ bi = b_x := by omega
     refine zR 10 (h := fun K hK => ?_)
     go_simp
     refine hK.out _ _ ?_ (fun hHeld4 => ?_)
     ·
      ((try dsimp only); go_keep)
     clear hK K
     (try simp only [Act.put, zA, zB, zC])
     refine zT 11 (h := ?_)
     (try simp only [Act.put, zA, zB, zC])
     refine wpAnyH_done (by kernel_rfl) ?_ _
     (try simp only [List.getElem_toArray, List.getElem_cons_zero, List.getElem_cons_succ, Act.put, zA, zB, zC])
     obtain ⟨w63, hw_⟩ : ∃ x, x = (((((((((w62.alloc (.cells #[.bool false, .string ⟨#[]⟩, .bool false, .string ⟨#[]⟩, .bool false, .string ⟨#[]⟩, .bool false, .string ⟨#[]⟩] 54))).setCell ⟨b_x, 0, none⟩ (.bool (ineg ((Rat.divInt 1 1)).num))).setCell ⟨b_x, 1, none⟩ (.string (imag ((Rat.divInt 1 1)).num))).setCell ⟨b_x, 2, none⟩ (.bool (ineg (((Rat.divInt 1 1)).den : Int)))).setCell ⟨b_x, 3, none⟩ (.string (imag (((Rat.divInt 1 1)).den : Int)))).setCell ⟨b_x, 4, none⟩ (.bool (ineg ((Rat.divInt 3 2)).num))).setCell ⟨b_x, 5, none⟩ (.string (imag ((Rat.divInt 3 2)).num))).setCell ⟨b_x, 6, none⟩ (.bool (ineg (((Rat.divInt 3 2)).den : Int)))).setCell ⟨b_x, 7, none⟩ (.string (imag (((Rat.divInt 3 2)).den : Int))) := ⟨_, rfl⟩
     (try rw [← hw_])
     have k_x : Blk w63 (b_x) 54 [.bool (ineg ((Rat.divInt 1 1)).num), .string (imag ((Rat.divInt 1 1)).num), .bool (ineg (((Rat.divInt 1 1)).den : Int)), .string (imag (((Rat.divInt 1 1)).den : Int)), .bool (ineg ((Rat.divInt 3 2)).num), .string (imag ((Rat.divInt 3 2)).num), .bool (ineg (((Rat.divInt 3 2)).den : Int)), .string (imag (((Rat.divInt 3 2)).den : Int))] := by rw [hw_]; exact ((((((((HX.out.set 0 (.bool (ineg ((Rat.divInt 1 1)).num))).set 1 (.string (imag ((Rat.divInt 1 1)).num))).set 2 (.bool (ineg (((Rat.divInt 1 1)).den : Int)))).set 3 (.string (imag (((Rat.divInt 1 1)).den : Int)))).set 4 (.bool (ineg ((Rat.divInt 3 2)).num))).set 5 (.string (imag ((Rat.divInt 3 2)).num))).set 6 (.bool (ineg (((Rat.divInt 3 2)).den : Int)))).set 7 (.string (imag (((Rat.divInt 3 2)).den : Int))))
     have tl : Below wR.heap.size wR w63 := by rw [hw_]; exact ((((((((HBL.out.setCell (p := ⟨b_x, 0, none⟩) (by show wR.heap.size ≤ b_x; omega) (.bool (ineg ((Rat.divInt 1 1)).num))).setCell (p := ⟨b_x, 1, none⟩) (by show wR.heap.size ≤ b_x; omega) (.string (imag ((Rat.divInt 1 1)).num))).setCell (p := ⟨b_x, 2, none⟩) (by show wR.heap.size ≤ b_x; omega) (.bool (ineg (((Rat.divInt 1 1)).den : Int)))).setCell (p := ⟨b_x, 3, none⟩) (by show wR.heap.size ≤ b_x; omega) (.string (imag (((Rat.divInt 1 1)).den : Int)))).setCell (p := ⟨b_x, 4, none⟩) (by show wR.heap.size ≤ b_x; omega) (.bool (ineg ((Rat.divInt 3 2)).num))).setCell (p := ⟨b_x, 5, none⟩) (by show wR.heap.size ≤ b_x; omega) (.string (imag ((Rat.divInt 3 2)).num))).setCell (p := ⟨b_x, 6, none⟩) (by show wR.heap.size ≤ b_x; omega) (.bool (ineg (((Rat.divInt 3 2)).den : Int)))).setCell (p := ⟨b_x, 7, none⟩) (by show wR.heap.size ≤ b_x; omega) (.string (imag (((Rat.divInt 3 2)).den : Int))))
     clear HBL hw_ HX
     clear x_0 x_f0 x_1 x_f1 x_2 x_f2 x_3 x_f3 x_4 x_f4 x_5 x_f5 x_6 x_f6 x_7 x_f7
     obtain ⟨x_0, x_f0, x_1, x_f1, x_2, x_f2, x_3, x_f3, x_4, x_f4, x_5, x_f5, x_6, x_f6, x_7, x_f7⟩ := k_x.f8
     have HX := zh k_x; clear k_x
     have HBL := zh tl; clear tl
     go_wp2_with fail
     go_meet
     exact ⟨b_x, rfl, rfl, HBL.out, HX.out⟩
   ·
    go_simp
    refine hK.out _ _ ?_ (fun hHeld2 => ?_)
    ·
     ((try dsimp only); go_keep)
    clear hK K
    (try simp only [Act.put, zA, zB, zC])
    have hcs := HBL.out.size
    obtain ⟨b_x, hb_x⟩ : ∃ b, b = w61.heap.size := ⟨_, rfl⟩
    have hal : Below w61.heap.size w61 (w61.alloc (.cells #[.bool false, .string ⟨#[]⟩, .bool false, .string ⟨#[]⟩, .bool false, .string ⟨#[]⟩, .bool false, .string ⟨#[]⟩] 54)) := (Below.refl _ _).alloc (Nat.le_refl _) _
    have k_x : Blk (w61.alloc (.cells #[.bool false, .string ⟨#[]⟩, .bool false, .string ⟨#[]⟩, .bool false, .string ⟨#[]⟩, .bool false, .string ⟨#[]⟩] 54)) b_x 54 [.bool false, .string ⟨#[]⟩, .bool false, .string ⟨#[]⟩, .bool false, .string ⟨#[]⟩, .bool false, .string ⟨#[]⟩] := by rw [hb_x]; exact Blk.new w61 _ _
    have hge_x : wR.heap.size ≤ b_x := by rw [hb_x]; exact HBL.out.size
    have tl := HBL.out.trans ((hal).mono HBL.out.size)
    clear HBL 
    have HBL := zh tl; clear tl
    clear hal
    obtain ⟨x_0, x_f0, x_1, x_f1, x_2, x_f2, x_3, x_f3, x_4, x_f4, x_5, x_f5, x_6, x_f6, x_7, x_f7⟩ := k_x.f8
    have HX := zh k_x; clear k_x
    have hxb : wR.heap.size ≤ b_x := by rw [hb_x]; exact hcs
    (try simp only [World.size_drew] at hb_x)
    (try rw [← hb_x])
    have HB_x := zh hb_x; clear hb_x
    refine wpAnyH_ready (rs := [5]) (by kernel_rfl) (by simp) ?_
    refine (AllReadyH.cons rfl (fun K hK => ?_) AllReadyH.nil)
    ·
     go_simp
     have hrf := HRF.out _ (HP.out.below HBL.out (Nat.le_refl _))
     have HRF1 := zh hrf; clear hrf
     go_at_call 17
     refine (HRF1.out).mono ?_
     rintro e w62 ⟨hq, rfl⟩
     dsimp only
     have z0 := zK hq (Nat.lt_of_lt_of_le hbR HBL.out.size) hHeld2.1
     have z1 := zK hq (Nat.lt_of_lt_of_le hbR HBL.out.size) hHeld2.2.1
     have z2 := zK hq (Nat.lt_of_lt_of_le hbR HBL.out.size) hHeld2.2.2.1
     have z3 := zK hq (Nat.lt_of_lt_of_le hbR HBL.out.size) hHeld2.2.2.2.1
     have z4 := zK hq (Nat.lt_of_lt_of_le hbR HBL.out.size) hHeld2.2.2.2.2.1
     have z5 := zK hq (Nat.lt_of_lt_of_le hbR HBL.out.size) hHeld2.2.2.2.2.2.1
     have z6 := zK hq (Nat.lt_of_lt_of_le hbR HBL.out.size) hHeld2.2.2.2.2.2.2.1
     have z7 := zK hq (Nat.lt_of_lt_of_le hbR HBL.out.size) hHeld2.2.2.2.2.2.2.2
     refine hK.out _ _ ⟨z0, z1, z2, z3, z4, z5, z6, z7⟩ (fun hHeld3 => ?_)
     clear hK K hHeld2 z0 z1 z2 z3 z4 z5 z6 z7
     (try simp only [Act.put, zA, zB, zC])
     have k_x := HX.out.keep hq
     have tl := HBL.out.trans ((hq).mono HBL.out.size)
     clear HBL HX
     clear x_0 x_f0 x_1 x_f1 x_2 x_f2 x_3 x_f3 x_4 x_f4 x_5 x_f5 x_6 x_f6 x_7 x_f7
     obtain ⟨x_0, x_f0, x_1, x_f1, x_2, x_f2, x_3, x_f3, x_4, x_f4, x_5, x_f5, x_6, x_f6, x_7, x_f7⟩ := k_x.f8
     have HX := zh k_x; clear k_x
     have HBL := zh tl; clear tl
     clear hq
     refine zT 6 (h := ?_)
     (try simp only [Act.put, zA, zB, zC])
     refine zT 7 (h := ?_)
     (try simp only [Act.put, zA, zB, zC])
     refine zT 8 (h := ?_)
     (try simp only [Act.put, zA, zB, zC])
     have hnb1 : ¬ b_x = bi := by omega
     have hnb2 : ¬ bi = b_x := by omega
     refine zR 10 (h := fun K hK => ?_)
     go_simp
     refine hK.out _ _ ?_ (fun hHeld4 => ?_)
     ·
      ((try dsimp only); go_keep)
     clear hK K
     (try simp only [Act.put, zA, zB, zC])
     refine zT 11 (h := ?_)
     (try simp only [Act.put, zA, zB, zC])
     refine wpAnyH_done (by kernel_rfl) ?_ _
     (try simp only [List.getElem_toArray, List.getElem_cons_zero, List.getElem_cons_succ, Act.put, zA, zB, zC])
     obtain ⟨w63, hw_⟩ : ∃ x, x = ((((((((w62).setCell ⟨b_x, 0, none⟩ (.bool (ineg ((Rat.divInt 1 1)).num))).setCell ⟨b_x, 1, none⟩ (.string (imag ((Rat.divInt 1 1)).num))).setCell ⟨b_x, 2, none⟩ (.bool (ineg (((Rat.divInt 1 1)).den : Int)))).setCell ⟨b_x, 3, none⟩ (.string (imag (((Rat.divInt 1 1)).den : Int)))).setCell ⟨b_x, 4, none⟩ (.bool (ineg ((Rat.divInt 3 2)).num))).setCell ⟨b_x, 5, none⟩ (.string (imag ((Rat.divInt 3 2)).num))).setCell ⟨b_x, 6, none⟩ (.bool (ineg (((Rat.divInt 3 2)).den : Int)))).setCell ⟨b_x, 7, none⟩ (.string (imag (((Rat.divInt 3 2)).den : Int))) := ⟨_, rfl⟩
     (try rw [← hw_])
     have k_x : Blk w63 (b_x) 54 [.bool (ineg ((Rat.divInt 1 1)).num), .string (imag ((Rat.divInt 1 1)).num), .bool (ineg (((Rat.divInt 1 1)).den : Int)), .string (imag (((Rat.divInt 1 1)).den : Int)), .bool (ineg ((Rat.divInt 3 2)).num), .string (imag ((Rat.divInt 3 2)).num), .bool (ineg (((Rat.divInt 3 2)).den : Int)), .string (imag (((Rat.divInt 3 2)).den : Int))] := by rw [hw_]; exact ((((((((HX.out.set 0 (.bool (ineg ((Rat.divInt 1 1)).num))).set 1 (.string (imag ((Rat.divInt 1 1)).num))).set 2 (.bool (ineg (((Rat.divInt 1 1)).den : Int)))).set 3 (.string (imag (((Rat.divInt 1 1)).den : Int)))).set 4 (.bool (ineg ((Rat.divInt 3 2)).num))).set 5 (.string (imag ((Rat.divInt 3 2)).num))).set 6 (.bool (ineg (((Rat.divInt 3 2)).den : Int)))).set 7 (.string (imag (((Rat.divInt 3 2)).den : Int))))
     have tl : Below wR.heap.size wR w63 := by rw [hw_]; exact ((((((((HBL.out.setCell (p := ⟨b_x, 0, none⟩) (by show wR.heap.size ≤ b_x; omega) (.bool (ineg ((Rat.divInt 1 1)).num))).setCell (p := ⟨b_x, 1, none⟩) (by show wR.heap.size ≤ b_x; omega) (.string (imag ((Rat.divInt 1 1)).num))).setCell (p := ⟨b_x, 2, none⟩) (by show wR.heap.size ≤ b_x; omega) (.bool (ineg (((Rat.divInt 1 1)).den : Int)))).setCell (p := ⟨b_x, 3, none⟩) (by show wR.heap.size ≤ b_x; omega) (.string (imag (((Rat.divInt 1 1)).den : Int)))).setCell (p := ⟨b_x, 4, none⟩) (by show wR.heap.size ≤ b_x; omega) (.bool (ineg ((Rat.divInt 3 2)).num))).setCell (p := ⟨b_x, 5, none⟩) (by show wR.heap.size ≤ b_x; omega) (.string (imag ((Rat.divInt 3 2)).num))).setCell (p := ⟨b_x, 6, none⟩) (by show wR.heap.size ≤ b_x; omega) (.bool (ineg (((Rat.divInt 3 2)).den : Int)))).setCell (p := ⟨b_x, 7, none⟩) (by show wR.heap.size ≤ b_x; omega) (.string (imag (((Rat.divInt 3 2)).den : Int))))
     clear HBL hw_ HX
     clear x_0 x_f0 x_1 x_f1 x_2 x_f2 x_3 x_f3 x_4 x_f4 x_5 x_f5 x_6 x_f6 x_7 x_f7
     obtain ⟨x_0, x_f0, x_1, x_f1, x_2, x_f2, x_3, x_f3, x_4, x_f4, x_5, x_f5, x_6, x_f6, x_7, x_f7⟩ := k_x.f8
     have HX := zh k_x; clear k_x
     have HBL := zh tl; clear tl
     go_wp2_with fail
     go_meet
     exact ⟨b_x, rfl, rfl, HBL.out, HX.out⟩
  ·
   go_simp
   refine hK.out _ _ ?_ (fun hHeld1 => ?_)
   ·
    ((try dsimp only); go_keep)
   clear hK K
   (try simp only [Act.put, zA, zB, zC])
   have hcs := HBL.out.size
   obtain ⟨b_x, hb_x⟩ : ∃ b, b = w32.drew.heap.size := ⟨_, rfl⟩
   have hal : Below w32.drew.heap.size w32.drew (w32.drew.alloc (.cells #[.bool false, .string ⟨#[]⟩, .bool false, .string ⟨#[]⟩, .bool false, .string ⟨#[]⟩, .bool false, .string ⟨#[]⟩] 54)) := (Below.refl _ _).alloc (Nat.le_refl _) _
   have k_x : Blk (w32.drew.alloc (.cells #[.bool false, .string ⟨#[]⟩, .bool false, .string ⟨#[]⟩, .bool false, .string ⟨#[]⟩, .bool false, .string ⟨#[]⟩] 54)) b_x 54 [.bool false, .string ⟨#[]⟩, .bool false, .string ⟨#[]⟩, .bool false, .string ⟨#[]⟩, .bool false, .string ⟨#[]⟩] := by rw [hb_x]; exact Blk.new w32.drew _ _
   have hge_x : wR.heap.size ≤ b_x := by rw [hb_x]; exact HBL.out.size
   have tl := HBL.out.trans ((hal).mono HBL.out.size)
   clear HBL 
   have HBL := zh tl; clear tl
   clear hal
   obtain ⟨x_0, x_f0, x_1, x_f1, x_2, x_f2, x_3, x_f3, x_4, x_f4, x_5, x_f5, x_6, x_f6, x_7, x_f7⟩ := k_x.f8
   have HX := zh k_x; clear k_x
   have hxb : wR.heap.size ≤ b_x := by rw [hb_x]; exact hcs
   (try simp only [World.size_drew] at hb_x)
   (try rw [← hb_x])
   have HB_x := zh hb_x; clear hb_x
   refine wpAnyH_ready (rs := [4]) (by kernel_rfl) (by simp) ?_
   refine (AllReadyH.cons rfl (fun K hK => ?_) AllReadyH.nil)
   ·
    go_simp
    go_at_call 7
    refine (HRT.out _).mono ?_
    rintro e w61 ⟨hq, rfl⟩
    dsimp only
    have z0 := zK hq (Nat.lt_of_lt_of_le hbR HBL.out.size) hHeld1.1
    have z1 := zK hq (Nat.lt_of_lt_of_le hbR HBL.out.size) hHeld1.2.1
    have z2 := zK hq (Nat.lt_of_lt_of_le hbR HBL.out.size) hHeld1.2.2.1
    have z3 := zK hq (Nat.lt_of_lt_of_le hbR HBL.out.size) hHeld1.2.2.2.1
    have z4 := zK hq (Nat.lt_of_lt_of_le hbR HBL.out.size) hHeld1.2.2.2.2.1
    have z5 := zK hq (Nat.lt_of_lt_of_le hbR HBL.out.size) hHeld1.2.2.2.2.2.1
    have z6 := zK hq (Nat.lt_of_lt_of_le hbR HBL.out.size) hHeld1.2.2.2.2.2.2.1
    have z7 := zK hq (Nat.lt_of_lt_of_le hbR HBL.out.size) hHeld1.2.2.2.2.2.2.2
    refine hK.out _ _ ⟨z0, z1, z2, z3, z4, z5, z6, z7⟩ (fun hHeld2 => ?_)
    clear hK K hHeld1 z0 z1 z2 z3 z4 z5 z6 z7
    (try simp only [Act.put, zA, zB, zC])
    have k_x := HX.out.keep hq
    have tl := HBL.out.trans ((hq).mono HBL.out.size)
    clear HBL HX
    clear x_0 x_f0 x_1 x_f1 x_2 x_f2 x_3 x_f3 x_4 x_f4 x_5 x_f5 x_6 x_f6 x_7 x_f7
    obtain ⟨x_0, x_f0, x_1, x_f1, x_2, x_f2, x_3, x_f3, x_4, x_f4, x_5, x_f5, x_6, x_f6, x_7, x_f7⟩ := k_x.f8
    have HX := zh k_x; clear k_x
    have HBL := zh tl; clear tl
    clear hq
    refine wpAnyH_ready (rs := [5]) (by kernel_rfl) (by simp) ?_
    refine (AllReadyH.cons rfl (fun K hK => ?_) AllReadyH.nil)
    ·
     go_simp
     have hrf := HRF.out _ (HP.out.below HBL.out (Nat.le_refl _))
     have HRF1 := zh hrf; clear hrf
     go_at_call 17
     refine (HRF1.out).mono ?_
     rintro e w62 ⟨hq, rfl⟩
     dsimp only
     have z0 := zK hq (Nat.lt_of_lt_of_le hbR HBL.out.size) hHeld2.1
     have z1 := zK hq (Nat.lt_of_lt_of_le hbR HBL.out.size) hHeld2.2.1
     have z2 := zK hq (Nat.lt_of_lt_of_le hbR HBL.out.size) hHeld2.2.2.1
     have z3 := zK hq (Nat.lt_of_lt_of_le hbR HBL.out.size) hHeld2.2.2.2.1
     have z4 := zK hq (Nat.lt_of_lt_of_le hbR HBL.out.size) hHeld2.2.2.2.2.1
     have z5 := zK hq (Nat.lt_of_lt_of_le hbR HBL.out.size) hHeld2.2.2.2.2.2.1
     have z6 := zK hq (Nat.lt_of_lt_of_le hbR HBL.out.size) hHeld2.2.2.2.2.2.2.1
     have z7 := zK hq (Nat.lt_of_lt_of_le hbR HBL.out.size) hHeld2.2.2.2.2.2.2.2
     refine hK.out _ _ ⟨z0, z1, z2, z3, z4, z5, z6, z7⟩ (fun hHeld3 => ?_)
     clear hK K hHeld2 z0 z1 z2 z3 z4 z5 z6 z7
     (try simp only [Act.put, zA, zB, zC])
     have k_x := HX.out.keep hq
     have tl := HBL.out.trans ((hq).mono HBL.out.size)
     clear HBL HX
     clear x_0 x_f0 x_1 x_f1 x_2 x_f2 x_3 x_f3 x_4 x_f4 x_5 x_f5 x_6 x_f6 x_7 x_f7
     obtain ⟨x_0, x_f0, x_1, x_f1, x_2, x_f2, x_3, x_f3, x_4, x_f4, x_5, x_f5, x_6, x_f6, x_7, x_f7⟩ := k_x.f8
     have HX := zh k_x; clear k_x
     have HBL := zh tl; clear tl
     clear hq
     refine zT 6 (h := ?_)
     (try simp only [Act.put, zA, zB, zC])
     refine zT 7 (h := ?_)
     (try simp only [Act.put, zA, zB, zC])
     refine zT 8 (h := ?_)
     (try simp only [Act.put, zA, zB, zC])
     have hnb1 : ¬ b_x = bi := by omega
     have hnb2 : ¬ bi = b_x := by omega
     refine zR 10 (h := fun K hK => ?_)
     go_simp
     refine hK.out _ _ ?_ (fun hHeld4 => ?_)
     ·
      ((try dsimp only); go_keep)
     clear hK K
     (try simp only [Act.put, zA, zB, zC])
     refine zT 11 (h := ?_)
     (try simp only [Act.put, zA, zB, zC])
     refine wpAnyH_done (by kernel_rfl) ?_ _
     (try simp only [List.getElem_toArray, List.getElem_cons_zero, List.getElem_cons_succ, Act.put, zA, zB, zC])
     obtain ⟨w63, hw_⟩ : ∃ x, x = ((((((((w62).setCell ⟨b_x, 0, none⟩ (.bool (ineg ((Rat.divInt 1 1)).num))).setCell ⟨b_x, 1, none⟩ (.string (imag ((Rat.divInt 1 1)).num))).setCell ⟨b_x, 2, none⟩ (.bool (ineg (((Rat.divInt 1 1)).den : Int)))).setCell ⟨b_x, 3, none⟩ (.string (imag (((Rat.divInt 1 1)).den : Int)))).setCell ⟨b_x, 4, none⟩ (.bool (ineg ((Rat.divInt 3 2)).num))).setCell ⟨b_x, 5, none⟩ (.string (imag ((Rat.divInt 3 2)).num))).setCell ⟨b_x, 6, none⟩ (.bool (ineg (((Rat.divInt 3 2)).den : Int)))).setCell ⟨b_x, 7, none⟩ (.string (imag (((Rat.divInt 3 2)).den : Int))) := ⟨_, rfl⟩
     (try rw [← hw_])
     have k_x : Blk w63 (b_x) 54 [.bool (ineg ((Rat.divInt 1 1)).num), .string (imag ((Rat.divInt 1 1)).num), .bool (ineg (((Rat.divInt 1 1)).den : Int)), .string (imag (((Rat.divInt 1 1)).den : Int)), .bool (ineg ((Rat.divInt 3 2)).num), .string (imag ((Rat.divInt 3 2)).num), .bool (ineg (((Rat.divInt 3 2)).den : Int)), .string (imag (((Rat.divInt 3 2)).den : Int))] := by rw [hw_]; exact ((((((((HX.out.set 0 (.bool (ineg ((Rat.divInt 1 1)).num))).set 1 (.string (imag ((Rat.divInt 1 1)).num))).set 2 (.bool (ineg (((Rat.divInt 1 1)).den : Int)))).set 3 (.string (imag (((Rat.divInt 1 1)).den : Int)))).set 4 (.bool (ineg ((Rat.divInt 3 2)).num))).set 5 (.string (imag ((Rat.divInt 3 2)).num))).set 6 (.bool (ineg (((Rat.divInt 3 2)).den : Int)))).set 7 (.string (imag (((Rat.divInt 3 2)).den : Int))))
     have tl : Below wR.heap.size wR w63 := by rw [hw_]; exact ((((((((HBL.out.setCell (p := ⟨b_x, 0, none⟩) (by show wR.heap.size ≤ b_x; omega) (.bool (ineg ((Rat.divInt 1 1)).num))).setCell (p := ⟨b_x, 1, none⟩) (by show wR.heap.size ≤ b_x; omega) (.string (imag ((Rat.divInt 1 1)).num))).setCell (p := ⟨b_x, 2, none⟩) (by show wR.heap.size ≤ b_x; omega) (.bool (ineg (((Rat.divInt 1 1)).den : Int)))).setCell (p := ⟨b_x, 3, none⟩) (by show wR.heap.size ≤ b_x; omega) (.string (imag (((Rat.divInt 1 1)).den : Int)))).setCell (p := ⟨b_x, 4, none⟩) (by show wR.heap.size ≤ b_x; omega) (.bool (ineg ((Rat.divInt 3 2)).num))).setCell (p := ⟨b_x, 5, none⟩) (by show wR.heap.size ≤ b_x; omega) (.string (imag ((Rat.divInt 3 2)).num))).setCell (p := ⟨b_x, 6, none⟩) (by show wR.heap.size ≤ b_x; omega) (.bool (ineg (((Rat.divInt 3 2)).den : Int)))).setCell (p := ⟨b_x, 7, none⟩) (by show wR.heap.size ≤ b_x; omega) (.string (imag (((Rat.divInt 3 2)).den : Int))))
     clear HBL hw_ HX
     clear x_0 x_f0 x_1 x_f1 x_2 x_f2 x_3 x_f3 x_4 x_f4 x_5 x_f5 x_6 x_f6 x_7 x_f7
     obtain ⟨x_0, x_f0, x_1, x_f1, x_2, x_f2, x_3, x_f3, x_4, x_f4, x_5, x_f5, x_6, x_f6, x_7, x_f7⟩ := k_x.f8
     have HX := zh k_x; clear k_x
     have HBL := zh tl; clear tl
     go_wp2_with fail
     go_meet
     exact ⟨b_x, rfl, rfl, HBL.out, HX.out⟩
 case rest =>
  obtain ⟨bx, rfl, rfl, tl, k_x⟩ := hcut
  clear HBL HB b_0 b_f0 b_1 b_f1 hci8
  obtain ⟨x_0, x_f0, x_1, x_f1, x_2, x_f2, x_3, x_f3, x_4, x_f4, x_5, x_f5, x_6, x_f6, x_7, x_f7⟩ := k_x.f8
  have HX := zh k_x; clear k_x
  have HBL := zh tl; clear tl
  have hra := fun w' => lratio_any 1 1 w' (by decide) (by decide) (by decide) (by decide) (by decide)
  have HRA := zh hra; clear hra
  have hra := fun w' => lratio_any 3 2 w' (by decide) (by decide) (by decide) (by decide) (by decide)
  have HRB := zh hra; clear hra
  have hra := fun w' => lratio_any (-2) 1 w' (by decide) (by decide) (by decide) (by decide) (by decide)
  have HRC := zh hra; clear hra
  have hra := fun w' => lratio_any 2 1 w' (by decide) (by decide) (by decide) (by decide) (by decide)
  have HRD := zh hra; clear hra
  have hca : ∀ w', Tab w' (.slice a2 3 c2) rA → Calls Try.prog 18 #[.slice a2 3 c2, .agg #[.bool (ineg ((Rat.divInt (-2) 1)).num), .string (imag ((Rat.divInt (-2) 1)).num), .bool (ineg (((Rat.divInt (-2) 1)).den : Int)), .string (imag (((Rat.divInt (-2) 1)).den : Int))]] w' (Ret w' (.int .i64 2)) := fun w' h => by
   have h2 := schanges_any rA (.slice a2 3 c2) (ineg (Rat.divInt (-2) 1).num) (ineg ((Rat.divInt (-2) 1).den : Int)) (imag (Rat.divInt (-2) 1).num) (imag ((Rat.divInt (-2) 1).den : Int)) w' 10 h (by decide) (by decide +kernel) (by decide) (Nat.le_trans (zs.size (m := 10) (by decide +kernel)) (by decide)) (Nat.le_trans (zs.size (m := 10) (by decide +kernel)) (by decide))
   simp only [ival_canon, Rat.num_divInt_den] at h2
   rw [chg_pA.1] at h2
   exact h2
  have HCA := zh hca; clear hca
  have hca : ∀ w', Tab w' (.slice a2 3 c2) rA → Calls Try.prog 18 #[.slice a2 3 c2, .agg #[.bool (ineg ((Rat.divInt 2 1)).num), .string (imag ((Rat.divInt 2 1)).num), .bool (ineg (((Rat.divInt 2 1)).den : Int)), .string (imag (((Rat.divInt 2 1)).den : Int))]] w' (Ret w' (.int .i64 0)) := fun w' h => by
   have h2 := schanges_any rA (.slice a2 3 c2) (ineg (Rat.divInt 2 1).num) (ineg ((Rat.divInt 2 1).den : Int)) (imag (Rat.divInt 2 1).num) (imag ((Rat.divInt 2 1).den : Int)) w' 10 h (by decide) (by decide +kernel) (by decide) (Nat.le_trans (zs.size (m := 10) (by decide +kernel)) (by decide)) (Nat.le_trans (zs.size (m := 10) (by decide +kernel)) (by decide))
   simp only [ival_canon, Rat.num_divInt_den] at h2
   rw [chg_pA.2] at h2
   exact h2
  have HCB := zh hca; clear hca
  have heqv := fun w' => eqIn_ivl_same (ineg (Rat.divInt 1 1).num) (ineg ((Rat.divInt 1 1).den : Int)) (ineg (Rat.divInt 3 2).num) (ineg ((Rat.divInt 3 2).den : Int)) (imag (Rat.divInt 1 1).num) (imag ((Rat.divInt 1 1).den : Int)) (imag (Rat.divInt 3 2).num) (imag ((Rat.divInt 3 2).den : Int)) w'
  go_wp2_with fail
  have HX := zh HX.out.drew
  have HBL := zh HBL.out.drew
  refine wp_region_held_drew (S := fun w' => w'.cell? ⟨bx, 0, none⟩ = some (.bool (ineg ((Rat.divInt 1 1)).num)) ∧ w'.cell? ⟨bx, 1, none⟩ = some (.string (imag ((Rat.divInt 1 1)).num)) ∧ w'.cell? ⟨bx, 2, none⟩ = some (.bool (ineg (((Rat.divInt 1 1)).den : Int))) ∧ w'.cell? ⟨bx, 3, none⟩ = some (.string (imag (((Rat.divInt 1 1)).den : Int))) ∧ w'.cell? ⟨bx, 4, none⟩ = some (.bool (ineg ((Rat.divInt 3 2)).num)) ∧ w'.cell? ⟨bx, 5, none⟩ = some (.string (imag ((Rat.divInt 3 2)).num)) ∧ w'.cell? ⟨bx, 6, none⟩ = some (.bool (ineg (((Rat.divInt 3 2)).den : Int))) ∧ w'.cell? ⟨bx, 7, none⟩ = some (.string (imag (((Rat.divInt 3 2)).den : Int)))) (by kernel_rfl) ?_ (fun hHeld0 => ?_)
  ·
   go_keep
  refine zT 0 (h := ?_)
  (try simp only [Act.put, zA, zB, zC])
  refine zT 1 (h := ?_)
  (try simp only [Act.put, zA, zB, zC])
  refine zT 2 (h := ?_)
  (try simp only [Act.put, zA, zB, zC])
  refine zT 3 (h := ?_)
  (try simp only [Act.put, zA, zB, zC])
  refine zR 4 (h := fun K hK => ?_)
  rw [if_pos (by kernel_rfl)]
  go_simp
  go_at_call 7
  refine (HRA.out _).mono ?_
  rintro e w101 ⟨hq, rfl⟩
  dsimp only
  have z0 := zK hq HX.out.lt hHeld0.1
  have z1 := zK hq HX.out.lt hHeld0.2.1
  have z2 := zK hq HX.out.lt hHeld0.2.2.1
  have z3 := zK hq HX.out.lt hHeld0.2.2.2.1
  have z4 := zK hq HX.out.lt hHeld0.2.2.2.2.1
  have z5 := zK hq HX.out.lt hHeld0.2.2.2.2.2.1
  have z6 := zK hq HX.out.lt hHeld0.2.2.2.2.2.2.1
  have z7 := zK hq HX.out.lt hHeld0.2.2.2.2.2.2.2
  refine hK.out _ _ ⟨z0, z1, z2, z3, z4, z5, z6, z7⟩ (fun hHeld1 => ?_)
  clear hK K hHeld0 z0 z1 z2 z3 z4 z5 z6 z7
  (try simp only [Act.put, zA, zB, zC])
  have k_x := HX.out.keep hq
  have tl := HBL.out.trans ((hq).mono HBL.out.size)
  clear HBL HX
  clear x_0 x_f0 x_1 x_f1 x_2 x_f2 x_3 x_f3 x_4 x_f4 x_5 x_f5 x_6 x_f6 x_7 x_f7
  obtain ⟨x_0, x_f0, x_1, x_f1, x_2, x_f2, x_3, x_f3, x_4, x_f4, x_5, x_f5, x_6, x_f6, x_7, x_f7⟩ := k_x.f8
  have HX := zh k_x; clear k_x
  have HBL := zh tl; clear tl
  clear hq
  refine zR 5 (h := fun K hK => ?_)
  rw [if_pos (by kernel_rfl)]
  go_simp
  go_at_call 7
  refine (HRB.out _).mono ?_
  rintro e w102 ⟨hq, rfl⟩
  dsimp only
  have z0 := zK hq HX.out.lt hHeld1.1
  have z1 := zK hq HX.out.lt hHeld1.2.1
  have z2 := zK hq HX.out.lt hHeld1.2.2.1
  have z3 := zK hq HX.out.lt hHeld1.2.2.2.1
  have z4 := zK hq HX.out.lt hHeld1.2.2.2.2.1
  have z5 := zK hq HX.out.lt hHeld1.2.2.2.2.2.1
  have z6 := zK hq HX.out.lt hHeld1.2.2.2.2.2.2.1
  have z7 := zK hq HX.out.lt hHeld1.2.2.2.2.2.2.2
  refine hK.out _ _ ⟨z0, z1, z2, z3, z4, z5, z6, z7⟩ (fun hHeld2 => ?_)
  clear hK K hHeld1 z0 z1 z2 z3 z4 z5 z6 z7
  (try simp only [Act.put, zA, zB, zC])
  have k_x := HX.out.keep hq
  have tl := HBL.out.trans ((hq).mono HBL.out.size)
  clear HBL HX
  clear x_0 x_f0 x_1 x_f1 x_2 x_f2 x_3 x_f3 x_4 x_f4 x_5 x_f5 x_6 x_f6 x_7 x_f7
  obtain ⟨x_0, x_f0, x_1, x_f1, x_2, x_f2, x_3, x_f3, x_4, x_f4, x_5, x_f5, x_6, x_f6, x_7, x_f7⟩ := k_x.f8
  have HX := zh k_x; clear k_x
  have HBL := zh tl; clear tl
  clear hq
  refine zT 6 (h := ?_)
  (try simp only [Act.put, zA, zB, zC])
  refine zT 7 (h := ?_)
  (try simp only [Act.put, zA, zB, zC])
  refine zT 8 (h := ?_)
  (try simp only [Act.put, zA, zB, zC])
  refine zT 9 (h := ?_)
  (try simp only [Act.put, zA, zB, zC])
  refine zT 10 (h := ?_)
  (try simp only [Act.put, zA, zB, zC])
  refine zR 11 (h := fun K hK => ?_)
  rw [if_pos (by kernel_rfl)]
  go_simp
  go_at_call 7
  refine (HRC.out _).mono ?_
  rintro e w103 ⟨hq, rfl⟩
  dsimp only
  have z0 := zK hq HX.out.lt hHeld2.1
  have z1 := zK hq HX.out.lt hHeld2.2.1
  have z2 := zK hq HX.out.lt hHeld2.2.2.1
  have z3 := zK hq HX.out.lt hHeld2.2.2.2.1
  have z4 := zK hq HX.out.lt hHeld2.2.2.2.2.1
  have z5 := zK hq HX.out.lt hHeld2.2.2.2.2.2.1
  have z6 := zK hq HX.out.lt hHeld2.2.2.2.2.2.2.1
  have z7 := zK hq HX.out.lt hHeld2.2.2.2.2.2.2.2
  refine hK.out _ _ ⟨z0, z1, z2, z3, z4, z5, z6, z7⟩ (fun hHeld3 => ?_)
  clear hK K hHeld2 z0 z1 z2 z3 z4 z5 z6 z7
  (try simp only [Act.put, zA, zB, zC])
  have k_x := HX.out.keep hq
  have tl := HBL.out.trans ((hq).mono HBL.out.size)
  clear HBL HX
  clear x_0 x_f0 x_1 x_f1 x_2 x_f2 x_3 x_f3 x_4 x_f4 x_5 x_f5 x_6 x_f6 x_7 x_f7
  obtain ⟨x_0, x_f0, x_1, x_f1, x_2, x_f2, x_3, x_f3, x_4, x_f4, x_5, x_f5, x_6, x_f6, x_7, x_f7⟩ := k_x.f8
  have HX := zh k_x; clear k_x
  have HBL := zh tl; clear tl
  clear hq
  have hca := HCA.out _ (HT2.out.below HBL.out (Nat.le_refl _))
  have HCA1 := zh hca; clear hca
  refine zR 12 (h := fun K hK => ?_)
  rw [if_pos (by kernel_rfl)]
  go_simp
  go_at_call 18
  refine (HCA1.out).mono ?_
  rintro e w104 ⟨hq, rfl⟩
  dsimp only
  have z0 := zK hq HX.out.lt hHeld3.1
  have z1 := zK hq HX.out.lt hHeld3.2.1
  have z2 := zK hq HX.out.lt hHeld3.2.2.1
  have z3 := zK hq HX.out.lt hHeld3.2.2.2.1
  have z4 := zK hq HX.out.lt hHeld3.2.2.2.2.1
  have z5 := zK hq HX.out.lt hHeld3.2.2.2.2.2.1
  have z6 := zK hq HX.out.lt hHeld3.2.2.2.2.2.2.1
  have z7 := zK hq HX.out.lt hHeld3.2.2.2.2.2.2.2
  refine hK.out _ _ ⟨z0, z1, z2, z3, z4, z5, z6, z7⟩ (fun hHeld4 => ?_)
  clear hK K hHeld3 z0 z1 z2 z3 z4 z5 z6 z7
  (try simp only [Act.put, zA, zB, zC])
  have k_x := HX.out.keep hq
  have tl := HBL.out.trans ((hq).mono HBL.out.size)
  clear HBL HX
  clear x_0 x_f0 x_1 x_f1 x_2 x_f2 x_3 x_f3 x_4 x_f4 x_5 x_f5 x_6 x_f6 x_7 x_f7
  obtain ⟨x_0, x_f0, x_1, x_f1, x_2, x_f2, x_3, x_f3, x_4, x_f4, x_5, x_f5, x_6, x_f6, x_7, x_f7⟩ := k_x.f8
  have HX := zh k_x; clear k_x
  have HBL := zh tl; clear tl
  clear hq
  refine zT 13 (h := ?_)
  (try simp only [Act.put, zA, zB, zC])
  refine zT 14 (h := ?_)
  (try simp only [Act.put, zA, zB, zC])
  refine zT 15 (h := ?_)
  (try simp only [Act.put, zA, zB, zC])
  refine zT 16 (h := ?_)
  (try simp only [Act.put, zA, zB, zC])
  refine zR 17 (h := fun K hK => ?_)
  rw [if_pos (by kernel_rfl)]
  go_simp
  go_at_call 7
  refine (HRD.out _).mono ?_
  rintro e w105 ⟨hq, rfl⟩
  dsimp only
  have z0 := zK hq HX.out.lt hHeld4.1
  have z1 := zK hq HX.out.lt hHeld4.2.1
  have z2 := zK hq HX.out.lt hHeld4.2.2.1
  have z3 := zK hq HX.out.lt hHeld4.2.2.2.1
  have z4 := zK hq HX.out.lt hHeld4.2.2.2.2.1
  have z5 := zK hq HX.out.lt hHeld4.2.2.2.2.2.1
  have z6 := zK hq HX.out.lt hHeld4.2.2.2.2.2.2.1
  have z7 := zK hq HX.out.lt hHeld4.2.2.2.2.2.2.2
  refine hK.out _ _ ⟨z0, z1, z2, z3, z4, z5, z6, z7⟩ (fun hHeld5 => ?_)
  clear hK K hHeld4 z0 z1 z2 z3 z4 z5 z6 z7
  (try simp only [Act.put, zA, zB, zC])
  have k_x := HX.out.keep hq
  have tl := HBL.out.trans ((hq).mono HBL.out.size)
  clear HBL HX
  clear x_0 x_f0 x_1 x_f1 x_2 x_f2 x_3 x_f3 x_4 x_f4 x_5 x_f5 x_6 x_f6 x_7 x_f7
  obtain ⟨x_0, x_f0, x_1, x_f1, x_2, x_f2, x_3, x_f3, x_4, x_f4, x_5, x_f5, x_6, x_f6, x_7, x_f7⟩ := k_x.f8
  have HX := zh k_x; clear k_x
  have HBL := zh tl; clear tl
  clear hq
  have hcb := HCB.out _ (HT2.out.below HBL.out (Nat.le_refl _))
  have HCB1 := zh hcb; clear hcb
  refine zR 18 (h := fun K hK => ?_)
  rw [if_pos (by kernel_rfl)]
  go_simp
  go_at_call 18
  refine (HCB1.out).mono ?_
  rintro e w106 ⟨hq, rfl⟩
  dsimp only
  have z0 := zK hq HX.out.lt hHeld5.1
  have z1 := zK hq HX.out.lt hHeld5.2.1
  have z2 := zK hq HX.out.lt hHeld5.2.2.1
  have z3 := zK hq HX.out.lt hHeld5.2.2.2.1
  have z4 := zK hq HX.out.lt hHeld5.2.2.2.2.1
  have z5 := zK hq HX.out.lt hHeld5.2.2.2.2.2.1
  have z6 := zK hq HX.out.lt hHeld5.2.2.2.2.2.2.1
  have z7 := zK hq HX.out.lt hHeld5.2.2.2.2.2.2.2
  refine hK.out _ _ ⟨z0, z1, z2, z3, z4, z5, z6, z7⟩ (fun hHeld6 => ?_)
  clear hK K hHeld5 z0 z1 z2 z3 z4 z5 z6 z7
  (try simp only [Act.put, zA, zB, zC])
  have k_x := HX.out.keep hq
  have tl := HBL.out.trans ((hq).mono HBL.out.size)
  clear HBL HX
  clear x_0 x_f0 x_1 x_f1 x_2 x_f2 x_3 x_f3 x_4 x_f4 x_5 x_f5 x_6 x_f6 x_7 x_f7
  obtain ⟨x_0, x_f0, x_1, x_f1, x_2, x_f2, x_3, x_f3, x_4, x_f4, x_5, x_f5, x_6, x_f6, x_7, x_f7⟩ := k_x.f8
  have HX := zh k_x; clear k_x
  have HBL := zh tl; clear tl
  clear hq
  refine zT 19 (h := ?_)
  (try simp only [Act.put, zA, zB, zC])
  refine zT 20 (h := ?_)
  (try simp only [Act.put, zA, zB, zC])
  refine zT 21 (h := ?_)
  (try simp only [Act.put, zA, zB, zC])
  refine wpAnyH_done (by kernel_rfl) ?_ _
  (try simp only [List.getElem_toArray, List.getElem_cons_zero, List.getElem_cons_succ, Act.put, zA, zB, zC])
  go_wp2_with fail
  go_ret
  exact ⟨S8.out.trans (HBL.out.mono S8.out.size), rfl⟩
end Go.Proofs.Ytjpalbonclgflaa

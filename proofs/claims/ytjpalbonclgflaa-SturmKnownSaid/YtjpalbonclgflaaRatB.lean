/- rational.table, its functions, the operations (printed by gen_rtab.py). -/
import Derived.Laws.EntriesVeiled
import Derived.Test.YtjpalbonclgflaaRatA
namespace Go.Proofs.Ytjpalbonclgflaa
open Go.RowKit

set_option maxRecDepth 100000 in
set_option maxHeartbeats 3200000 in
theorem table_any (w : World) :
  Calls Try.prog 74 #[] w (Ret w (.agg #[.func (.func 77) #[] #[], .func (.func 78) #[] #[], .func (.func 79) #[] #[], .func (.func 80) #[] #[]])) := by
 go_enter Try.func74, Try.ntmps74
 go_wp2_with fail
 refine bodyPost_ret (v := .agg #[.func (.func 77) #[] #[], .func (.func 78) #[] #[], .func (.func 79) #[] #[], .func (.func 80) #[] #[]]) (by simp [results, Try.results74, go_sem]) rfl ⟨?_, rfl⟩
 exact ((Below.refl _ w).alloc (Nat.le_refl _) _).alloc (by simp) _
set_option maxRecDepth 100000 in
set_option maxHeartbeats 3200000 in
theorem tab1_any (na ma : Bool) (sa ta : ByteArray) (nb mb : Bool) (sb tb : ByteArray) (w : World) (h1 : sa.size ≤ 20000000000) (h2 : ta.size ≤ 20000000000) (h3 : sb.size ≤ 20000000000) (h4 : tb.size ≤ 20000000000) :
  Calls Try.prog 77 #[.agg #[.bool na, .string sa, .bool ma, .string ta], .agg #[.bool nb, .string sb, .bool mb, .string tb]] w (Ret w (.tuple #[IntV (ival na sa * ival mb tb + ival nb sb * ival ma ta), IntV (ival ma ta * ival mb tb)])) := by
 obtain ⟨w4, hw4⟩ : ∃ w4, w4 = (((w.alloc (.cells #[.bool na, .string sa, .bool ma, .string ta] 35)).alloc (.cells #[.bool nb, .string sb, .bool mb, .string tb] 35)).alloc (.cells #[.bool false, .string ⟨#[]⟩] 33)).alloc (.cells #[.bool false, .string ⟨#[]⟩] 33) := ⟨_, rfl⟩
 have k_a : Blk w4 (w.heap.size) 35 [.bool na, .string sa, .bool ma, .string ta] := by
  rw [hw4]
  have h := ((((Blk.new (w) 35 [.bool na, .string sa, .bool ma, .string ta]).alloc (.cells #[.bool nb, .string sb, .bool mb, .string tb] 35)).alloc (.cells #[.bool false, .string ⟨#[]⟩] 33)).alloc (.cells #[.bool false, .string ⟨#[]⟩] 33))
  (try simp only [World.size_alloc, Nat.add_assoc, Nat.reduceAdd] at h)
  exact h
 have k_b : Blk w4 (w.heap.size + 1) 35 [.bool nb, .string sb, .bool mb, .string tb] := by
  rw [hw4]
  have h := (((Blk.new (w.alloc (.cells #[.bool na, .string sa, .bool ma, .string ta] 35)) 35 [.bool nb, .string sb, .bool mb, .string tb]).alloc (.cells #[.bool false, .string ⟨#[]⟩] 33)).alloc (.cells #[.bool false, .string ⟨#[]⟩] 33))
  (try simp only [World.size_alloc, Nat.add_assoc, Nat.reduceAdd] at h)
  exact h
 have k_c : Blk w4 (w.heap.size + 2) 33 [.bool false, .string ⟨#[]⟩] := by
  rw [hw4]
  have h := ((Blk.new ((w.alloc (.cells #[.bool na, .string sa, .bool ma, .string ta] 35)).alloc (.cells #[.bool nb, .string sb, .bool mb, .string tb] 35)) 33 [.bool false, .string ⟨#[]⟩]).alloc (.cells #[.bool false, .string ⟨#[]⟩] 33))
  (try simp only [World.size_alloc, Nat.add_assoc, Nat.reduceAdd] at h)
  exact h
 have k_d : Blk w4 (w.heap.size + 3) 33 [.bool false, .string ⟨#[]⟩] := by
  rw [hw4]
  have h := (Blk.new (((w.alloc (.cells #[.bool na, .string sa, .bool ma, .string ta] 35)).alloc (.cells #[.bool nb, .string sb, .bool mb, .string tb] 35)).alloc (.cells #[.bool false, .string ⟨#[]⟩] 33)) 33 [.bool false, .string ⟨#[]⟩])
  (try simp only [World.size_alloc, Nat.add_assoc, Nat.reduceAdd] at h)
  exact h
 have tl : Below w.heap.size w w4 := by
  rw [hw4]
  exact (((((Below.refl w.heap.size w).alloc (by simp <;> omega) (.cells #[.bool na, .string sa, .bool ma, .string ta] 35)).alloc (by simp <;> omega) (.cells #[.bool nb, .string sb, .bool mb, .string tb] 35)).alloc (by simp <;> omega) (.cells #[.bool false, .string ⟨#[]⟩] 33)).alloc (by simp <;> omega) (.cells #[.bool false, .string ⟨#[]⟩] 33))
 have hs4 : w4.heap.size = w.heap.size + 4 := by rw [hw4]; simp only [World.size_alloc]
 obtain ⟨a_0, a_f0, a_1, a_f1, a_2, a_f2, a_3, a_f3⟩ := k_a.f4
 have HA := zh k_a; clear k_a
 obtain ⟨b_0, b_f0, b_1, b_f1, b_2, b_f2, b_3, b_f3⟩ := k_b.f4
 have HB := zh k_b; clear k_b
 obtain ⟨c_0, c_f0, c_1, c_f1⟩ := k_c.f2
 have HC := zh k_c; clear k_c
 obtain ⟨d_0, d_f0, d_1, d_f1⟩ := k_d.f2
 have HD := zh k_d; clear k_d
 have HBL := zh tl; clear tl
 have hm1 := fun w' => imul_any na mb sa tb w' (by omega) (by omega)
 have hm2 := fun w' => imul_any nb ma sb ta w' (by omega) (by omega)
 have hm3 := fun w' => imul_any ma mb ta tb w' (by omega) (by omega)
 have z1 := (ival_sized h1 na).mul (ival_sized h4 mb)
 have z2 := (ival_sized h3 nb).mul (ival_sized h2 ma)
 obtain ⟨x, hx⟩ : ∃ x, x = ival na sa * ival mb tb := ⟨_, rfl⟩
 obtain ⟨y, hy⟩ : ∃ y, y = ival nb sb * ival ma ta := ⟨_, rfl⟩
 obtain ⟨z, hz⟩ : ∃ z, z = ival ma ta * ival mb tb := ⟨_, rfl⟩
 rw [← hx] at hm1 z1 ⊢
 rw [← hy] at hm2 z2 ⊢
 rw [← hz] at hm3 ⊢
 have ha := fun w' => iadd_any (ineg x) (ineg y) (imag x) (imag y) w' (Nat.le_trans z1.size (by decide)) (Nat.le_trans z2.size (by decide))
 simp only [ival_canon] at ha
 obtain ⟨s, hs⟩ : ∃ s, s = x + y := ⟨_, rfl⟩
 rw [← hs] at ha ⊢
 clear z1 z2 hx hy hz hs h1 h2 h3 h4
 have HM1 := zh hm1; clear hm1
 have HM2 := zh hm2; clear hm2
 have HM3 := zh hm3; clear hm3
 have HAD := zh ha; clear ha
 go_enter Try.func77, Try.ntmps77
 go_wp2_with fail
 (try rw [← hw4])
 clear hw4
 (try simp only [Nat.add_assoc, Nat.reduceAdd])
 have HA := zh HA.out.drew
 have HB := zh HB.out.drew
 have HC := zh HC.out.drew
 have HD := zh HD.out.drew
 have HBL := zh HBL.out.drew
 refine wp_region_held_drew (S := fun w' => w'.cell? ⟨w.heap.size, 0, none⟩ = some (.bool na) ∧ w'.cell? ⟨w.heap.size, 1, none⟩ = some (.string sa) ∧ w'.cell? ⟨w.heap.size, 2, none⟩ = some (.bool ma) ∧ w'.cell? ⟨w.heap.size, 3, none⟩ = some (.string ta) ∧ w'.cell? ⟨w.heap.size + 1, 0, none⟩ = some (.bool nb) ∧ w'.cell? ⟨w.heap.size + 1, 1, none⟩ = some (.string sb) ∧ w'.cell? ⟨w.heap.size + 1, 2, none⟩ = some (.bool mb) ∧ w'.cell? ⟨w.heap.size + 1, 3, none⟩ = some (.string tb)) (by kernel_rfl) ?_ (fun hHeld0 => ?_)
 ·
  go_keep
 refine zT 0 (h := ?_)
 (try simp only [Act.put, zA, zB, zC])
 refine zT 1 (h := ?_)
 (try simp only [Act.put, zA, zB, zC])
 refine zT 2 (h := ?_)
 (try simp only [Act.put, zA, zB, zC])
 refine zT 3 (h := ?_)
 (try simp only [Act.put, zA, zB, zC])
 refine zT 5 (h := ?_)
 (try simp only [Act.put, zA, zB, zC])
 refine zT 6 (h := ?_)
 (try simp only [Act.put, zA, zB, zC])
 refine zT 7 (h := ?_)
 (try simp only [Act.put, zA, zB, zC])
 refine zT 8 (h := ?_)
 (try simp only [Act.put, zA, zB, zC])
 refine zT 11 (h := ?_)
 (try simp only [Act.put, zA, zB, zC])
 refine zT 12 (h := ?_)
 (try simp only [Act.put, zA, zB, zC])
 refine zT 13 (h := ?_)
 (try simp only [Act.put, zA, zB, zC])
 refine zT 14 (h := ?_)
 (try simp only [Act.put, zA, zB, zC])
 refine zR 4 (h := fun K hK => ?_)
 go_simp
 go_at_call 21
 refine (HM1.out _).mono ?_
 rintro e w5 ⟨hq, rfl⟩
 dsimp only
 have z0 := zK hq HA.out.lt hHeld0.1
 have z1 := zK hq HA.out.lt hHeld0.2.1
 have z2 := zK hq HA.out.lt hHeld0.2.2.1
 have z3 := zK hq HA.out.lt hHeld0.2.2.2.1
 have z4 := zK hq HB.out.lt hHeld0.2.2.2.2.1
 have z5 := zK hq HB.out.lt hHeld0.2.2.2.2.2.1
 have z6 := zK hq HB.out.lt hHeld0.2.2.2.2.2.2.1
 have z7 := zK hq HB.out.lt hHeld0.2.2.2.2.2.2.2
 refine hK.out _ _ ⟨z0, z1, z2, z3, z4, z5, z6, z7⟩ (fun hHeld1 => ?_)
 clear hK K hHeld0 z0 z1 z2 z3 z4 z5 z6 z7
 (try simp only [Act.put, zA, zB, zC])
 have k_a := HA.out.keep hq
 have k_b := HB.out.keep hq
 have k_c := HC.out.keep hq
 have k_d := HD.out.keep hq
 have tl := HBL.out.trans ((hq).mono HBL.out.size)
 clear HBL HA HB HC HD
 clear a_0 a_f0 a_1 a_f1 a_2 a_f2 a_3 a_f3
 obtain ⟨a_0, a_f0, a_1, a_f1, a_2, a_f2, a_3, a_f3⟩ := k_a.f4
 have HA := zh k_a; clear k_a
 clear b_0 b_f0 b_1 b_f1 b_2 b_f2 b_3 b_f3
 obtain ⟨b_0, b_f0, b_1, b_f1, b_2, b_f2, b_3, b_f3⟩ := k_b.f4
 have HB := zh k_b; clear k_b
 clear c_0 c_f0 c_1 c_f1
 obtain ⟨c_0, c_f0, c_1, c_f1⟩ := k_c.f2
 have HC := zh k_c; clear k_c
 clear d_0 d_f0 d_1 d_f1
 obtain ⟨d_0, d_f0, d_1, d_f1⟩ := k_d.f2
 have HD := zh k_d; clear k_d
 have HBL := zh tl; clear tl
 clear hq
 refine zR 9 (h := fun K hK => ?_)
 go_simp
 go_at_call 21
 refine (HM2.out _).mono ?_
 rintro e w6 ⟨hq, rfl⟩
 dsimp only
 have z0 := zK hq HA.out.lt hHeld1.1
 have z1 := zK hq HA.out.lt hHeld1.2.1
 have z2 := zK hq HA.out.lt hHeld1.2.2.1
 have z3 := zK hq HA.out.lt hHeld1.2.2.2.1
 have z4 := zK hq HB.out.lt hHeld1.2.2.2.2.1
 have z5 := zK hq HB.out.lt hHeld1.2.2.2.2.2.1
 have z6 := zK hq HB.out.lt hHeld1.2.2.2.2.2.2.1
 have z7 := zK hq HB.out.lt hHeld1.2.2.2.2.2.2.2
 refine hK.out _ _ ⟨z0, z1, z2, z3, z4, z5, z6, z7⟩ (fun hHeld2 => ?_)
 clear hK K hHeld1 z0 z1 z2 z3 z4 z5 z6 z7
 (try simp only [Act.put, zA, zB, zC])
 have k_a := HA.out.keep hq
 have k_b := HB.out.keep hq
 have k_c := HC.out.keep hq
 have k_d := HD.out.keep hq
 have tl := HBL.out.trans ((hq).mono HBL.out.size)
 clear HBL HA HB HC HD
 clear a_0 a_f0 a_1 a_f1 a_2 a_f2 a_3 a_f3
 obtain ⟨a_0, a_f0, a_1, a_f1, a_2, a_f2, a_3, a_f3⟩ := k_a.f4
 have HA := zh k_a; clear k_a
 clear b_0 b_f0 b_1 b_f1 b_2 b_f2 b_3 b_f3
 obtain ⟨b_0, b_f0, b_1, b_f1, b_2, b_f2, b_3, b_f3⟩ := k_b.f4
 have HB := zh k_b; clear k_b
 clear c_0 c_f0 c_1 c_f1
 obtain ⟨c_0, c_f0, c_1, c_f1⟩ := k_c.f2
 have HC := zh k_c; clear k_c
 clear d_0 d_f0 d_1 d_f1
 obtain ⟨d_0, d_f0, d_1, d_f1⟩ := k_d.f2
 have HD := zh k_d; clear k_d
 have HBL := zh tl; clear tl
 clear hq
 refine zR 10 (h := fun K hK => ?_)
 go_simp
 go_at_call 20
 refine (HAD.out _).mono ?_
 rintro e w7 ⟨hq, rfl⟩
 dsimp only
 have z0 := zK hq HA.out.lt hHeld2.1
 have z1 := zK hq HA.out.lt hHeld2.2.1
 have z2 := zK hq HA.out.lt hHeld2.2.2.1
 have z3 := zK hq HA.out.lt hHeld2.2.2.2.1
 have z4 := zK hq HB.out.lt hHeld2.2.2.2.2.1
 have z5 := zK hq HB.out.lt hHeld2.2.2.2.2.2.1
 have z6 := zK hq HB.out.lt hHeld2.2.2.2.2.2.2.1
 have z7 := zK hq HB.out.lt hHeld2.2.2.2.2.2.2.2
 refine hK.out _ _ ⟨z0, z1, z2, z3, z4, z5, z6, z7⟩ (fun hHeld3 => ?_)
 clear hK K hHeld2 z0 z1 z2 z3 z4 z5 z6 z7
 (try simp only [Act.put, zA, zB, zC])
 have k_a := HA.out.keep hq
 have k_b := HB.out.keep hq
 have k_c := HC.out.keep hq
 have k_d := HD.out.keep hq
 have tl := HBL.out.trans ((hq).mono HBL.out.size)
 clear HBL HA HB HC HD
 clear a_0 a_f0 a_1 a_f1 a_2 a_f2 a_3 a_f3
 obtain ⟨a_0, a_f0, a_1, a_f1, a_2, a_f2, a_3, a_f3⟩ := k_a.f4
 have HA := zh k_a; clear k_a
 clear b_0 b_f0 b_1 b_f1 b_2 b_f2 b_3 b_f3
 obtain ⟨b_0, b_f0, b_1, b_f1, b_2, b_f2, b_3, b_f3⟩ := k_b.f4
 have HB := zh k_b; clear k_b
 clear c_0 c_f0 c_1 c_f1
 obtain ⟨c_0, c_f0, c_1, c_f1⟩ := k_c.f2
 have HC := zh k_c; clear k_c
 clear d_0 d_f0 d_1 d_f1
 obtain ⟨d_0, d_f0, d_1, d_f1⟩ := k_d.f2
 have HD := zh k_d; clear k_d
 have HBL := zh tl; clear tl
 clear hq
 refine zR 15 (h := fun K hK => ?_)
 go_simp
 go_at_call 21
 refine (HM3.out _).mono ?_
 rintro e w8 ⟨hq, rfl⟩
 dsimp only
 have z0 := zK hq HA.out.lt hHeld3.1
 have z1 := zK hq HA.out.lt hHeld3.2.1
 have z2 := zK hq HA.out.lt hHeld3.2.2.1
 have z3 := zK hq HA.out.lt hHeld3.2.2.2.1
 have z4 := zK hq HB.out.lt hHeld3.2.2.2.2.1
 have z5 := zK hq HB.out.lt hHeld3.2.2.2.2.2.1
 have z6 := zK hq HB.out.lt hHeld3.2.2.2.2.2.2.1
 have z7 := zK hq HB.out.lt hHeld3.2.2.2.2.2.2.2
 refine hK.out _ _ ⟨z0, z1, z2, z3, z4, z5, z6, z7⟩ (fun hHeld4 => ?_)
 clear hK K hHeld3 z0 z1 z2 z3 z4 z5 z6 z7
 (try simp only [Act.put, zA, zB, zC])
 have k_a := HA.out.keep hq
 have k_b := HB.out.keep hq
 have k_c := HC.out.keep hq
 have k_d := HD.out.keep hq
 have tl := HBL.out.trans ((hq).mono HBL.out.size)
 clear HBL HA HB HC HD
 clear a_0 a_f0 a_1 a_f1 a_2 a_f2 a_3 a_f3
 obtain ⟨a_0, a_f0, a_1, a_f1, a_2, a_f2, a_3, a_f3⟩ := k_a.f4
 have HA := zh k_a; clear k_a
 clear b_0 b_f0 b_1 b_f1 b_2 b_f2 b_3 b_f3
 obtain ⟨b_0, b_f0, b_1, b_f1, b_2, b_f2, b_3, b_f3⟩ := k_b.f4
 have HB := zh k_b; clear k_b
 clear c_0 c_f0 c_1 c_f1
 obtain ⟨c_0, c_f0, c_1, c_f1⟩ := k_c.f2
 have HC := zh k_c; clear k_c
 clear d_0 d_f0 d_1 d_f1
 obtain ⟨d_0, d_f0, d_1, d_f1⟩ := k_d.f2
 have HD := zh k_d; clear k_d
 have HBL := zh tl; clear tl
 clear hq
 refine zR 16 (h := fun K hK => ?_)
 go_simp
 refine hK.out _ _ ?_ (fun hHeld5 => ?_)
 ·
  ((try dsimp only); go_keep)
 clear hK K
 (try simp only [Act.put, zA, zB, zC])
 refine zR 17 (h := fun K hK => ?_)
 go_simp
 refine hK.out _ _ ?_ (fun hHeld6 => ?_)
 ·
  ((try dsimp only); go_keep)
 clear hK K
 (try simp only [Act.put, zA, zB, zC])
 refine wpAnyH_done (by kernel_rfl) ?_ _
 (try simp only [List.getElem_toArray, List.getElem_cons_zero, List.getElem_cons_succ, Act.put, zA, zB, zC])
 go_wp2_with fail
 have kz_c := ((((HC.out.set 0 (.bool (ineg s))).set 1 (.string (imag s))).setOther (a := ⟨w.heap.size + 3, 0, none⟩) (by show w.heap.size + 3 ≠ w.heap.size + 2; omega) (.bool (ineg z))).setOther (a := ⟨w.heap.size + 3, 1, none⟩) (by show w.heap.size + 3 ≠ w.heap.size + 2; omega) (.string (imag z)))
 have kz_d := ((((HD.out.setOther (a := ⟨w.heap.size + 2, 0, none⟩) (by show w.heap.size + 2 ≠ w.heap.size + 3; omega) (.bool (ineg s))).setOther (a := ⟨w.heap.size + 2, 1, none⟩) (by show w.heap.size + 2 ≠ w.heap.size + 3; omega) (.string (imag s))).set 0 (.bool (ineg z))).set 1 (.string (imag z)))
 have sz := ((((HBL.out.setCell (p := ⟨w.heap.size + 2, 0, none⟩) (by show w.heap.size ≤ w.heap.size + 2; omega) (.bool (ineg s))).setCell (p := ⟨w.heap.size + 2, 1, none⟩) (by show w.heap.size ≤ w.heap.size + 2; omega) (.string (imag s))).setCell (p := ⟨w.heap.size + 3, 0, none⟩) (by show w.heap.size ≤ w.heap.size + 3; omega) (.bool (ineg z))).setCell (p := ⟨w.heap.size + 3, 1, none⟩) (by show w.heap.size ≤ w.heap.size + 3; omega) (.string (imag z)))
 have ec_0 := kz_c.c 0 rfl
 have ec_1 := kz_c.c 1 rfl
 have ed_0 := kz_d.c 0 rfl
 have ed_1 := kz_d.c 1 rfl
 refine bodyPost_ret (v := .tuple #[IntV s, IntV z]) (by simp [results, Try.results77, go_sem, ec_0, ec_1, ed_0, ed_1]) rfl ⟨sz, rfl⟩
set_option maxRecDepth 100000 in
set_option maxHeartbeats 3200000 in
theorem tab2_any (na ma : Bool) (sa ta : ByteArray) (nb mb : Bool) (sb tb : ByteArray) (w : World) (h1 : sa.size ≤ 20000000000) (h2 : ta.size ≤ 20000000000) (h3 : sb.size ≤ 20000000000) (h4 : tb.size ≤ 20000000000) :
  Calls Try.prog 78 #[.agg #[.bool na, .string sa, .bool ma, .string ta], .agg #[.bool nb, .string sb, .bool mb, .string tb]] w (Ret w (.tuple #[IntV (ival na sa * ival mb tb - ival nb sb * ival ma ta), IntV (ival ma ta * ival mb tb)])) := by
 obtain ⟨w4, hw4⟩ : ∃ w4, w4 = (((w.alloc (.cells #[.bool na, .string sa, .bool ma, .string ta] 35)).alloc (.cells #[.bool nb, .string sb, .bool mb, .string tb] 35)).alloc (.cells #[.bool false, .string ⟨#[]⟩] 33)).alloc (.cells #[.bool false, .string ⟨#[]⟩] 33) := ⟨_, rfl⟩
 have k_a : Blk w4 (w.heap.size) 35 [.bool na, .string sa, .bool ma, .string ta] := by
  rw [hw4]
  have h := ((((Blk.new (w) 35 [.bool na, .string sa, .bool ma, .string ta]).alloc (.cells #[.bool nb, .string sb, .bool mb, .string tb] 35)).alloc (.cells #[.bool false, .string ⟨#[]⟩] 33)).alloc (.cells #[.bool false, .string ⟨#[]⟩] 33))
  (try simp only [World.size_alloc, Nat.add_assoc, Nat.reduceAdd] at h)
  exact h
 have k_b : Blk w4 (w.heap.size + 1) 35 [.bool nb, .string sb, .bool mb, .string tb] := by
  rw [hw4]
  have h := (((Blk.new (w.alloc (.cells #[.bool na, .string sa, .bool ma, .string ta] 35)) 35 [.bool nb, .string sb, .bool mb, .string tb]).alloc (.cells #[.bool false, .string ⟨#[]⟩] 33)).alloc (.cells #[.bool false, .string ⟨#[]⟩] 33))
  (try simp only [World.size_alloc, Nat.add_assoc, Nat.reduceAdd] at h)
  exact h
 have k_c : Blk w4 (w.heap.size + 2) 33 [.bool false, .string ⟨#[]⟩] := by
  rw [hw4]
  have h := ((Blk.new ((w.alloc (.cells #[.bool na, .string sa, .bool ma, .string ta] 35)).alloc (.cells #[.bool nb, .string sb, .bool mb, .string tb] 35)) 33 [.bool false, .string ⟨#[]⟩]).alloc (.cells #[.bool false, .string ⟨#[]⟩] 33))
  (try simp only [World.size_alloc, Nat.add_assoc, Nat.reduceAdd] at h)
  exact h
 have k_d : Blk w4 (w.heap.size + 3) 33 [.bool false, .string ⟨#[]⟩] := by
  rw [hw4]
  have h := (Blk.new (((w.alloc (.cells #[.bool na, .string sa, .bool ma, .string ta] 35)).alloc (.cells #[.bool nb, .string sb, .bool mb, .string tb] 35)).alloc (.cells #[.bool false, .string ⟨#[]⟩] 33)) 33 [.bool false, .string ⟨#[]⟩])
  (try simp only [World.size_alloc, Nat.add_assoc, Nat.reduceAdd] at h)
  exact h
 have tl : Below w.heap.size w w4 := by
  rw [hw4]
  exact (((((Below.refl w.heap.size w).alloc (by simp <;> omega) (.cells #[.bool na, .string sa, .bool ma, .string ta] 35)).alloc (by simp <;> omega) (.cells #[.bool nb, .string sb, .bool mb, .string tb] 35)).alloc (by simp <;> omega) (.cells #[.bool false, .string ⟨#[]⟩] 33)).alloc (by simp <;> omega) (.cells #[.bool false, .string ⟨#[]⟩] 33))
 have hs4 : w4.heap.size = w.heap.size + 4 := by rw [hw4]; simp only [World.size_alloc]
 obtain ⟨a_0, a_f0, a_1, a_f1, a_2, a_f2, a_3, a_f3⟩ := k_a.f4
 have HA := zh k_a; clear k_a
 obtain ⟨b_0, b_f0, b_1, b_f1, b_2, b_f2, b_3, b_f3⟩ := k_b.f4
 have HB := zh k_b; clear k_b
 obtain ⟨c_0, c_f0, c_1, c_f1⟩ := k_c.f2
 have HC := zh k_c; clear k_c
 obtain ⟨d_0, d_f0, d_1, d_f1⟩ := k_d.f2
 have HD := zh k_d; clear k_d
 have HBL := zh tl; clear tl
 have hm1 := fun w' => imul_any na mb sa tb w' (by omega) (by omega)
 have hm2 := fun w' => imul_any nb ma sb ta w' (by omega) (by omega)
 have hm3 := fun w' => imul_any ma mb ta tb w' (by omega) (by omega)
 have z1 := (ival_sized h1 na).mul (ival_sized h4 mb)
 have z2 := (ival_sized h3 nb).mul (ival_sized h2 ma)
 obtain ⟨x, hx⟩ : ∃ x, x = ival na sa * ival mb tb := ⟨_, rfl⟩
 obtain ⟨y, hy⟩ : ∃ y, y = ival nb sb * ival ma ta := ⟨_, rfl⟩
 obtain ⟨z, hz⟩ : ∃ z, z = ival ma ta * ival mb tb := ⟨_, rfl⟩
 rw [← hx] at hm1 z1 ⊢
 rw [← hy] at hm2 z2 ⊢
 rw [← hz] at hm3 ⊢
 have ha := fun w' => isub_any (ineg x) (ineg y) (imag x) (imag y) w' (Nat.le_trans z1.size (by decide)) (Nat.le_trans z2.size (by decide))
 simp only [ival_canon] at ha
 obtain ⟨s, hs⟩ : ∃ s, s = x - y := ⟨_, rfl⟩
 rw [← hs] at ha ⊢
 clear z1 z2 hx hy hz hs h1 h2 h3 h4
 have HM1 := zh hm1; clear hm1
 have HM2 := zh hm2; clear hm2
 have HM3 := zh hm3; clear hm3
 have HAD := zh ha; clear ha
 go_enter Try.func78, Try.ntmps78
 go_wp2_with fail
 (try rw [← hw4])
 clear hw4
 (try simp only [Nat.add_assoc, Nat.reduceAdd])
 have HA := zh HA.out.drew
 have HB := zh HB.out.drew
 have HC := zh HC.out.drew
 have HD := zh HD.out.drew
 have HBL := zh HBL.out.drew
 refine wp_region_held_drew (S := fun w' => w'.cell? ⟨w.heap.size, 0, none⟩ = some (.bool na) ∧ w'.cell? ⟨w.heap.size, 1, none⟩ = some (.string sa) ∧ w'.cell? ⟨w.heap.size, 2, none⟩ = some (.bool ma) ∧ w'.cell? ⟨w.heap.size, 3, none⟩ = some (.string ta) ∧ w'.cell? ⟨w.heap.size + 1, 0, none⟩ = some (.bool nb) ∧ w'.cell? ⟨w.heap.size + 1, 1, none⟩ = some (.string sb) ∧ w'.cell? ⟨w.heap.size + 1, 2, none⟩ = some (.bool mb) ∧ w'.cell? ⟨w.heap.size + 1, 3, none⟩ = some (.string tb)) (by kernel_rfl) ?_ (fun hHeld0 => ?_)
 ·
  go_keep
 refine zT 0 (h := ?_)
 (try simp only [Act.put, zA, zB, zC])
 refine zT 1 (h := ?_)
 (try simp only [Act.put, zA, zB, zC])
 refine zT 2 (h := ?_)
 (try simp only [Act.put, zA, zB, zC])
 refine zT 3 (h := ?_)
 (try simp only [Act.put, zA, zB, zC])
 refine zT 5 (h := ?_)
 (try simp only [Act.put, zA, zB, zC])
 refine zT 6 (h := ?_)
 (try simp only [Act.put, zA, zB, zC])
 refine zT 7 (h := ?_)
 (try simp only [Act.put, zA, zB, zC])
 refine zT 8 (h := ?_)
 (try simp only [Act.put, zA, zB, zC])
 refine zT 11 (h := ?_)
 (try simp only [Act.put, zA, zB, zC])
 refine zT 12 (h := ?_)
 (try simp only [Act.put, zA, zB, zC])
 refine zT 13 (h := ?_)
 (try simp only [Act.put, zA, zB, zC])
 refine zT 14 (h := ?_)
 (try simp only [Act.put, zA, zB, zC])
 refine zR 4 (h := fun K hK => ?_)
 go_simp
 go_at_call 21
 refine (HM1.out _).mono ?_
 rintro e w5 ⟨hq, rfl⟩
 dsimp only
 have z0 := zK hq HA.out.lt hHeld0.1
 have z1 := zK hq HA.out.lt hHeld0.2.1
 have z2 := zK hq HA.out.lt hHeld0.2.2.1
 have z3 := zK hq HA.out.lt hHeld0.2.2.2.1
 have z4 := zK hq HB.out.lt hHeld0.2.2.2.2.1
 have z5 := zK hq HB.out.lt hHeld0.2.2.2.2.2.1
 have z6 := zK hq HB.out.lt hHeld0.2.2.2.2.2.2.1
 have z7 := zK hq HB.out.lt hHeld0.2.2.2.2.2.2.2
 refine hK.out _ _ ⟨z0, z1, z2, z3, z4, z5, z6, z7⟩ (fun hHeld1 => ?_)
 clear hK K hHeld0 z0 z1 z2 z3 z4 z5 z6 z7
 (try simp only [Act.put, zA, zB, zC])
 have k_a := HA.out.keep hq
 have k_b := HB.out.keep hq
 have k_c := HC.out.keep hq
 have k_d := HD.out.keep hq
 have tl := HBL.out.trans ((hq).mono HBL.out.size)
 clear HBL HA HB HC HD
 clear a_0 a_f0 a_1 a_f1 a_2 a_f2 a_3 a_f3
 obtain ⟨a_0, a_f0, a_1, a_f1, a_2, a_f2, a_3, a_f3⟩ := k_a.f4
 have HA := zh k_a; clear k_a
 clear b_0 b_f0 b_1 b_f1 b_2 b_f2 b_3 b_f3
 obtain ⟨b_0, b_f0, b_1, b_f1, b_2, b_f2, b_3, b_f3⟩ := k_b.f4
 have HB := zh k_b; clear k_b
 clear c_0 c_f0 c_1 c_f1
 obtain ⟨c_0, c_f0, c_1, c_f1⟩ := k_c.f2
 have HC := zh k_c; clear k_c
 clear d_0 d_f0 d_1 d_f1
 obtain ⟨d_0, d_f0, d_1, d_f1⟩ := k_d.f2
 have HD := zh k_d; clear k_d
 have HBL := zh tl; clear tl
 clear hq
 refine zR 9 (h := fun K hK => ?_)
 go_simp
 go_at_call 21
 refine (HM2.out _).mono ?_
 rintro e w6 ⟨hq, rfl⟩
 dsimp only
 have z0 := zK hq HA.out.lt hHeld1.1
 have z1 := zK hq HA.out.lt hHeld1.2.1
 have z2 := zK hq HA.out.lt hHeld1.2.2.1
 have z3 := zK hq HA.out.lt hHeld1.2.2.2.1
 have z4 := zK hq HB.out.lt hHeld1.2.2.2.2.1
 have z5 := zK hq HB.out.lt hHeld1.2.2.2.2.2.1
 have z6 := zK hq HB.out.lt hHeld1.2.2.2.2.2.2.1
 have z7 := zK hq HB.out.lt hHeld1.2.2.2.2.2.2.2
 refine hK.out _ _ ⟨z0, z1, z2, z3, z4, z5, z6, z7⟩ (fun hHeld2 => ?_)
 clear hK K hHeld1 z0 z1 z2 z3 z4 z5 z6 z7
 (try simp only [Act.put, zA, zB, zC])
 have k_a := HA.out.keep hq
 have k_b := HB.out.keep hq
 have k_c := HC.out.keep hq
 have k_d := HD.out.keep hq
 have tl := HBL.out.trans ((hq).mono HBL.out.size)
 clear HBL HA HB HC HD
 clear a_0 a_f0 a_1 a_f1 a_2 a_f2 a_3 a_f3
 obtain ⟨a_0, a_f0, a_1, a_f1, a_2, a_f2, a_3, a_f3⟩ := k_a.f4
 have HA := zh k_a; clear k_a
 clear b_0 b_f0 b_1 b_f1 b_2 b_f2 b_3 b_f3
 obtain ⟨b_0, b_f0, b_1, b_f1, b_2, b_f2, b_3, b_f3⟩ := k_b.f4
 have HB := zh k_b; clear k_b
 clear c_0 c_f0 c_1 c_f1
 obtain ⟨c_0, c_f0, c_1, c_f1⟩ := k_c.f2
 have HC := zh k_c; clear k_c
 clear d_0 d_f0 d_1 d_f1
 obtain ⟨d_0, d_f0, d_1, d_f1⟩ := k_d.f2
 have HD := zh k_d; clear k_d
 have HBL := zh tl; clear tl
 clear hq
 refine zR 10 (h := fun K hK => ?_)
 go_simp
 go_at_call 47
 refine (HAD.out _).mono ?_
 rintro e w7 ⟨hq, rfl⟩
 dsimp only
 have z0 := zK hq HA.out.lt hHeld2.1
 have z1 := zK hq HA.out.lt hHeld2.2.1
 have z2 := zK hq HA.out.lt hHeld2.2.2.1
 have z3 := zK hq HA.out.lt hHeld2.2.2.2.1
 have z4 := zK hq HB.out.lt hHeld2.2.2.2.2.1
 have z5 := zK hq HB.out.lt hHeld2.2.2.2.2.2.1
 have z6 := zK hq HB.out.lt hHeld2.2.2.2.2.2.2.1
 have z7 := zK hq HB.out.lt hHeld2.2.2.2.2.2.2.2
 refine hK.out _ _ ⟨z0, z1, z2, z3, z4, z5, z6, z7⟩ (fun hHeld3 => ?_)
 clear hK K hHeld2 z0 z1 z2 z3 z4 z5 z6 z7
 (try simp only [Act.put, zA, zB, zC])
 have k_a := HA.out.keep hq
 have k_b := HB.out.keep hq
 have k_c := HC.out.keep hq
 have k_d := HD.out.keep hq
 have tl := HBL.out.trans ((hq).mono HBL.out.size)
 clear HBL HA HB HC HD
 clear a_0 a_f0 a_1 a_f1 a_2 a_f2 a_3 a_f3
 obtain ⟨a_0, a_f0, a_1, a_f1, a_2, a_f2, a_3, a_f3⟩ := k_a.f4
 have HA := zh k_a; clear k_a
 clear b_0 b_f0 b_1 b_f1 b_2 b_f2 b_3 b_f3
 obtain ⟨b_0, b_f0, b_1, b_f1, b_2, b_f2, b_3, b_f3⟩ := k_b.f4
 have HB := zh k_b; clear k_b
 clear c_0 c_f0 c_1 c_f1
 obtain ⟨c_0, c_f0, c_1, c_f1⟩ := k_c.f2
 have HC := zh k_c; clear k_c
 clear d_0 d_f0 d_1 d_f1
 obtain ⟨d_0, d_f0, d_1, d_f1⟩ := k_d.f2
 have HD := zh k_d; clear k_d
 have HBL := zh tl; clear tl
 clear hq
 refine zR 15 (h := fun K hK => ?_)
 go_simp
 go_at_call 21
 refine (HM3.out _).mono ?_
 rintro e w8 ⟨hq, rfl⟩
 dsimp only
 have z0 := zK hq HA.out.lt hHeld3.1
 have z1 := zK hq HA.out.lt hHeld3.2.1
 have z2 := zK hq HA.out.lt hHeld3.2.2.1
 have z3 := zK hq HA.out.lt hHeld3.2.2.2.1
 have z4 := zK hq HB.out.lt hHeld3.2.2.2.2.1
 have z5 := zK hq HB.out.lt hHeld3.2.2.2.2.2.1
 have z6 := zK hq HB.out.lt hHeld3.2.2.2.2.2.2.1
 have z7 := zK hq HB.out.lt hHeld3.2.2.2.2.2.2.2
 refine hK.out _ _ ⟨z0, z1, z2, z3, z4, z5, z6, z7⟩ (fun hHeld4 => ?_)
 clear hK K hHeld3 z0 z1 z2 z3 z4 z5 z6 z7
 (try simp only [Act.put, zA, zB, zC])
 have k_a := HA.out.keep hq
 have k_b := HB.out.keep hq
 have k_c := HC.out.keep hq
 have k_d := HD.out.keep hq
 have tl := HBL.out.trans ((hq).mono HBL.out.size)
 clear HBL HA HB HC HD
 clear a_0 a_f0 a_1 a_f1 a_2 a_f2 a_3 a_f3
 obtain ⟨a_0, a_f0, a_1, a_f1, a_2, a_f2, a_3, a_f3⟩ := k_a.f4
 have HA := zh k_a; clear k_a
 clear b_0 b_f0 b_1 b_f1 b_2 b_f2 b_3 b_f3
 obtain ⟨b_0, b_f0, b_1, b_f1, b_2, b_f2, b_3, b_f3⟩ := k_b.f4
 have HB := zh k_b; clear k_b
 clear c_0 c_f0 c_1 c_f1
 obtain ⟨c_0, c_f0, c_1, c_f1⟩ := k_c.f2
 have HC := zh k_c; clear k_c
 clear d_0 d_f0 d_1 d_f1
 obtain ⟨d_0, d_f0, d_1, d_f1⟩ := k_d.f2
 have HD := zh k_d; clear k_d
 have HBL := zh tl; clear tl
 clear hq
 refine zR 16 (h := fun K hK => ?_)
 go_simp
 refine hK.out _ _ ?_ (fun hHeld5 => ?_)
 ·
  ((try dsimp only); go_keep)
 clear hK K
 (try simp only [Act.put, zA, zB, zC])
 refine zR 17 (h := fun K hK => ?_)
 go_simp
 refine hK.out _ _ ?_ (fun hHeld6 => ?_)
 ·
  ((try dsimp only); go_keep)
 clear hK K
 (try simp only [Act.put, zA, zB, zC])
 refine wpAnyH_done (by kernel_rfl) ?_ _
 (try simp only [List.getElem_toArray, List.getElem_cons_zero, List.getElem_cons_succ, Act.put, zA, zB, zC])
 go_wp2_with fail
 have kz_c := ((((HC.out.set 0 (.bool (ineg s))).set 1 (.string (imag s))).setOther (a := ⟨w.heap.size + 3, 0, none⟩) (by show w.heap.size + 3 ≠ w.heap.size + 2; omega) (.bool (ineg z))).setOther (a := ⟨w.heap.size + 3, 1, none⟩) (by show w.heap.size + 3 ≠ w.heap.size + 2; omega) (.string (imag z)))
 have kz_d := ((((HD.out.setOther (a := ⟨w.heap.size + 2, 0, none⟩) (by show w.heap.size + 2 ≠ w.heap.size + 3; omega) (.bool (ineg s))).setOther (a := ⟨w.heap.size + 2, 1, none⟩) (by show w.heap.size + 2 ≠ w.heap.size + 3; omega) (.string (imag s))).set 0 (.bool (ineg z))).set 1 (.string (imag z)))
 have sz := ((((HBL.out.setCell (p := ⟨w.heap.size + 2, 0, none⟩) (by show w.heap.size ≤ w.heap.size + 2; omega) (.bool (ineg s))).setCell (p := ⟨w.heap.size + 2, 1, none⟩) (by show w.heap.size ≤ w.heap.size + 2; omega) (.string (imag s))).setCell (p := ⟨w.heap.size + 3, 0, none⟩) (by show w.heap.size ≤ w.heap.size + 3; omega) (.bool (ineg z))).setCell (p := ⟨w.heap.size + 3, 1, none⟩) (by show w.heap.size ≤ w.heap.size + 3; omega) (.string (imag z)))
 have ec_0 := kz_c.c 0 rfl
 have ec_1 := kz_c.c 1 rfl
 have ed_0 := kz_d.c 0 rfl
 have ed_1 := kz_d.c 1 rfl
 refine bodyPost_ret (v := .tuple #[IntV s, IntV z]) (by simp [results, Try.results78, go_sem, ec_0, ec_1, ed_0, ed_1]) rfl ⟨sz, rfl⟩
set_option maxRecDepth 100000 in
set_option maxHeartbeats 3200000 in
theorem tab4_any (na ma : Bool) (sa ta : ByteArray) (nb mb : Bool) (sb tb : ByteArray) (w : World) (h1 : sa.size ≤ 20000000000) (h2 : ta.size ≤ 20000000000) (h3 : sb.size ≤ 20000000000) (h4 : tb.size ≤ 20000000000) :
  Calls Try.prog 80 #[.agg #[.bool na, .string sa, .bool ma, .string ta], .agg #[.bool nb, .string sb, .bool mb, .string tb]] w (Ret w (.tuple #[IntV (ival na sa * ival mb tb), IntV (ival ma ta * ival nb sb)])) := by
 obtain ⟨w4, hw4⟩ : ∃ w4, w4 = (((w.alloc (.cells #[.bool na, .string sa, .bool ma, .string ta] 35)).alloc (.cells #[.bool nb, .string sb, .bool mb, .string tb] 35)).alloc (.cells #[.bool false, .string ⟨#[]⟩] 33)).alloc (.cells #[.bool false, .string ⟨#[]⟩] 33) := ⟨_, rfl⟩
 have k_a : Blk w4 (w.heap.size) 35 [.bool na, .string sa, .bool ma, .string ta] := by
  rw [hw4]
  have h := ((((Blk.new (w) 35 [.bool na, .string sa, .bool ma, .string ta]).alloc (.cells #[.bool nb, .string sb, .bool mb, .string tb] 35)).alloc (.cells #[.bool false, .string ⟨#[]⟩] 33)).alloc (.cells #[.bool false, .string ⟨#[]⟩] 33))
  (try simp only [World.size_alloc, Nat.add_assoc, Nat.reduceAdd] at h)
  exact h
 have k_b : Blk w4 (w.heap.size + 1) 35 [.bool nb, .string sb, .bool mb, .string tb] := by
  rw [hw4]
  have h := (((Blk.new (w.alloc (.cells #[.bool na, .string sa, .bool ma, .string ta] 35)) 35 [.bool nb, .string sb, .bool mb, .string tb]).alloc (.cells #[.bool false, .string ⟨#[]⟩] 33)).alloc (.cells #[.bool false, .string ⟨#[]⟩] 33))
  (try simp only [World.size_alloc, Nat.add_assoc, Nat.reduceAdd] at h)
  exact h
 have k_c : Blk w4 (w.heap.size + 2) 33 [.bool false, .string ⟨#[]⟩] := by
  rw [hw4]
  have h := ((Blk.new ((w.alloc (.cells #[.bool na, .string sa, .bool ma, .string ta] 35)).alloc (.cells #[.bool nb, .string sb, .bool mb, .string tb] 35)) 33 [.bool false, .string ⟨#[]⟩]).alloc (.cells #[.bool false, .string ⟨#[]⟩] 33))
  (try simp only [World.size_alloc, Nat.add_assoc, Nat.reduceAdd] at h)
  exact h
 have k_d : Blk w4 (w.heap.size + 3) 33 [.bool false, .string ⟨#[]⟩] := by
  rw [hw4]
  have h := (Blk.new (((w.alloc (.cells #[.bool na, .string sa, .bool ma, .string ta] 35)).alloc (.cells #[.bool nb, .string sb, .bool mb, .string tb] 35)).alloc (.cells #[.bool false, .string ⟨#[]⟩] 33)) 33 [.bool false, .string ⟨#[]⟩])
  (try simp only [World.size_alloc, Nat.add_assoc, Nat.reduceAdd] at h)
  exact h
 have tl : Below w.heap.size w w4 := by
  rw [hw4]
  exact (((((Below.refl w.heap.size w).alloc (by simp <;> omega) (.cells #[.bool na, .string sa, .bool ma, .string ta] 35)).alloc (by simp <;> omega) (.cells #[.bool nb, .string sb, .bool mb, .string tb] 35)).alloc (by simp <;> omega) (.cells #[.bool false, .string ⟨#[]⟩] 33)).alloc (by simp <;> omega) (.cells #[.bool false, .string ⟨#[]⟩] 33))
 have hs4 : w4.heap.size = w.heap.size + 4 := by rw [hw4]; simp only [World.size_alloc]
 obtain ⟨a_0, a_f0, a_1, a_f1, a_2, a_f2, a_3, a_f3⟩ := k_a.f4
 have HA := zh k_a; clear k_a
 obtain ⟨b_0, b_f0, b_1, b_f1, b_2, b_f2, b_3, b_f3⟩ := k_b.f4
 have HB := zh k_b; clear k_b
 obtain ⟨c_0, c_f0, c_1, c_f1⟩ := k_c.f2
 have HC := zh k_c; clear k_c
 obtain ⟨d_0, d_f0, d_1, d_f1⟩ := k_d.f2
 have HD := zh k_d; clear k_d
 have HBL := zh tl; clear tl
 have hm1 := fun w' => imul_any na mb sa tb w' (by omega) (by omega)
 have hm2 := fun w' => imul_any ma nb ta sb w' (by omega) (by omega)
 obtain ⟨s, hs⟩ : ∃ x, x = ival na sa * ival mb tb := ⟨_, rfl⟩
 obtain ⟨z, hz⟩ : ∃ z, z = ival ma ta * ival nb sb := ⟨_, rfl⟩
 rw [← hs] at hm1 ⊢
 rw [← hz] at hm2 ⊢
 clear hs hz h1 h2 h3 h4
 have HM1 := zh hm1; clear hm1
 have HM2 := zh hm2; clear hm2
 go_enter Try.func80, Try.ntmps80
 go_wp2_with fail
 (try rw [← hw4])
 clear hw4
 (try simp only [Nat.add_assoc, Nat.reduceAdd])
 have HA := zh HA.out.drew
 have HB := zh HB.out.drew
 have HC := zh HC.out.drew
 have HD := zh HD.out.drew
 have HBL := zh HBL.out.drew
 refine wp_region_held_drew (S := fun w' => w'.cell? ⟨w.heap.size, 0, none⟩ = some (.bool na) ∧ w'.cell? ⟨w.heap.size, 1, none⟩ = some (.string sa) ∧ w'.cell? ⟨w.heap.size, 2, none⟩ = some (.bool ma) ∧ w'.cell? ⟨w.heap.size, 3, none⟩ = some (.string ta) ∧ w'.cell? ⟨w.heap.size + 1, 0, none⟩ = some (.bool nb) ∧ w'.cell? ⟨w.heap.size + 1, 1, none⟩ = some (.string sb) ∧ w'.cell? ⟨w.heap.size + 1, 2, none⟩ = some (.bool mb) ∧ w'.cell? ⟨w.heap.size + 1, 3, none⟩ = some (.string tb)) (by kernel_rfl) ?_ (fun hHeld0 => ?_)
 ·
  go_keep
 refine zT 0 (h := ?_)
 (try simp only [Act.put, zA, zB, zC])
 refine zT 1 (h := ?_)
 (try simp only [Act.put, zA, zB, zC])
 refine zT 2 (h := ?_)
 (try simp only [Act.put, zA, zB, zC])
 refine zT 3 (h := ?_)
 (try simp only [Act.put, zA, zB, zC])
 refine zT 5 (h := ?_)
 (try simp only [Act.put, zA, zB, zC])
 refine zT 6 (h := ?_)
 (try simp only [Act.put, zA, zB, zC])
 refine zT 7 (h := ?_)
 (try simp only [Act.put, zA, zB, zC])
 refine zT 8 (h := ?_)
 (try simp only [Act.put, zA, zB, zC])
 refine zR 4 (h := fun K hK => ?_)
 go_simp
 go_at_call 21
 refine (HM1.out _).mono ?_
 rintro e w5 ⟨hq, rfl⟩
 dsimp only
 have z0 := zK hq HA.out.lt hHeld0.1
 have z1 := zK hq HA.out.lt hHeld0.2.1
 have z2 := zK hq HA.out.lt hHeld0.2.2.1
 have z3 := zK hq HA.out.lt hHeld0.2.2.2.1
 have z4 := zK hq HB.out.lt hHeld0.2.2.2.2.1
 have z5 := zK hq HB.out.lt hHeld0.2.2.2.2.2.1
 have z6 := zK hq HB.out.lt hHeld0.2.2.2.2.2.2.1
 have z7 := zK hq HB.out.lt hHeld0.2.2.2.2.2.2.2
 refine hK.out _ _ ⟨z0, z1, z2, z3, z4, z5, z6, z7⟩ (fun hHeld1 => ?_)
 clear hK K hHeld0 z0 z1 z2 z3 z4 z5 z6 z7
 (try simp only [Act.put, zA, zB, zC])
 have k_a := HA.out.keep hq
 have k_b := HB.out.keep hq
 have k_c := HC.out.keep hq
 have k_d := HD.out.keep hq
 have tl := HBL.out.trans ((hq).mono HBL.out.size)
 clear HBL HA HB HC HD
 clear a_0 a_f0 a_1 a_f1 a_2 a_f2 a_3 a_f3
 obtain ⟨a_0, a_f0, a_1, a_f1, a_2, a_f2, a_3, a_f3⟩ := k_a.f4
 have HA := zh k_a; clear k_a
 clear b_0 b_f0 b_1 b_f1 b_2 b_f2 b_3 b_f3
 obtain ⟨b_0, b_f0, b_1, b_f1, b_2, b_f2, b_3, b_f3⟩ := k_b.f4
 have HB := zh k_b; clear k_b
 clear c_0 c_f0 c_1 c_f1
 obtain ⟨c_0, c_f0, c_1, c_f1⟩ := k_c.f2
 have HC := zh k_c; clear k_c
 clear d_0 d_f0 d_1 d_f1
 obtain ⟨d_0, d_f0, d_1, d_f1⟩ := k_d.f2
 have HD := zh k_d; clear k_d
 have HBL := zh tl; clear tl
 clear hq
 refine zR 9 (h := fun K hK => ?_)
 go_simp
 go_at_call 21
 refine (HM2.out _).mono ?_
 rintro e w6 ⟨hq, rfl⟩
 dsimp only
 have z0 := zK hq HA.out.lt hHeld1.1
 have z1 := zK hq HA.out.lt hHeld1.2.1
 have z2 := zK hq HA.out.lt hHeld1.2.2.1
 have z3 := zK hq HA.out.lt hHeld1.2.2.2.1
 have z4 := zK hq HB.out.lt hHeld1.2.2.2.2.1
 have z5 := zK hq HB.out.lt hHeld1.2.2.2.2.2.1
 have z6 := zK hq HB.out.lt hHeld1.2.2.2.2.2.2.1
 have z7 := zK hq HB.out.lt hHeld1.2.2.2.2.2.2.2
 refine hK.out _ _ ⟨z0, z1, z2, z3, z4, z5, z6, z7⟩ (fun hHeld2 => ?_)
 clear hK K hHeld1 z0 z1 z2 z3 z4 z5 z6 z7
 (try simp only [Act.put, zA, zB, zC])
 have k_a := HA.out.keep hq
 have k_b := HB.out.keep hq
 have k_c := HC.out.keep hq
 have k_d := HD.out.keep hq
 have tl := HBL.out.trans ((hq).mono HBL.out.size)
 clear HBL HA HB HC HD
 clear a_0 a_f0 a_1 a_f1 a_2 a_f2 a_3 a_f3
 obtain ⟨a_0, a_f0, a_1, a_f1, a_2, a_f2, a_3, a_f3⟩ := k_a.f4
 have HA := zh k_a; clear k_a
 clear b_0 b_f0 b_1 b_f1 b_2 b_f2 b_3 b_f3
 obtain ⟨b_0, b_f0, b_1, b_f1, b_2, b_f2, b_3, b_f3⟩ := k_b.f4
 have HB := zh k_b; clear k_b
 clear c_0 c_f0 c_1 c_f1
 obtain ⟨c_0, c_f0, c_1, c_f1⟩ := k_c.f2
 have HC := zh k_c; clear k_c
 clear d_0 d_f0 d_1 d_f1
 obtain ⟨d_0, d_f0, d_1, d_f1⟩ := k_d.f2
 have HD := zh k_d; clear k_d
 have HBL := zh tl; clear tl
 clear hq
 refine zR 10 (h := fun K hK => ?_)
 go_simp
 refine hK.out _ _ ?_ (fun hHeld3 => ?_)
 ·
  ((try dsimp only); go_keep)
 clear hK K
 (try simp only [Act.put, zA, zB, zC])
 refine zR 11 (h := fun K hK => ?_)
 go_simp
 refine hK.out _ _ ?_ (fun hHeld4 => ?_)
 ·
  ((try dsimp only); go_keep)
 clear hK K
 (try simp only [Act.put, zA, zB, zC])
 refine wpAnyH_done (by kernel_rfl) ?_ _
 (try simp only [List.getElem_toArray, List.getElem_cons_zero, List.getElem_cons_succ, Act.put, zA, zB, zC])
 go_wp2_with fail
 have kz_c := ((((HC.out.set 0 (.bool (ineg s))).set 1 (.string (imag s))).setOther (a := ⟨w.heap.size + 3, 0, none⟩) (by show w.heap.size + 3 ≠ w.heap.size + 2; omega) (.bool (ineg z))).setOther (a := ⟨w.heap.size + 3, 1, none⟩) (by show w.heap.size + 3 ≠ w.heap.size + 2; omega) (.string (imag z)))
 have kz_d := ((((HD.out.setOther (a := ⟨w.heap.size + 2, 0, none⟩) (by show w.heap.size + 2 ≠ w.heap.size + 3; omega) (.bool (ineg s))).setOther (a := ⟨w.heap.size + 2, 1, none⟩) (by show w.heap.size + 2 ≠ w.heap.size + 3; omega) (.string (imag s))).set 0 (.bool (ineg z))).set 1 (.string (imag z)))
 have sz := ((((HBL.out.setCell (p := ⟨w.heap.size + 2, 0, none⟩) (by show w.heap.size ≤ w.heap.size + 2; omega) (.bool (ineg s))).setCell (p := ⟨w.heap.size + 2, 1, none⟩) (by show w.heap.size ≤ w.heap.size + 2; omega) (.string (imag s))).setCell (p := ⟨w.heap.size + 3, 0, none⟩) (by show w.heap.size ≤ w.heap.size + 3; omega) (.bool (ineg z))).setCell (p := ⟨w.heap.size + 3, 1, none⟩) (by show w.heap.size ≤ w.heap.size + 3; omega) (.string (imag z)))
 have ec_0 := kz_c.c 0 rfl
 have ec_1 := kz_c.c 1 rfl
 have ed_0 := kz_d.c 0 rfl
 have ed_1 := kz_d.c 1 rfl
 refine bodyPost_ret (v := .tuple #[IntV s, IntV z]) (by simp [results, Try.results80, go_sem, ec_0, ec_1, ed_0, ed_1]) rfl ⟨sz, rfl⟩
end Go.Proofs.Ytjpalbonclgflaa

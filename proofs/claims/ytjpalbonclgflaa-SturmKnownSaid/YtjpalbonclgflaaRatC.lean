/- rational.do, Add, Sub, Mul (printed by gen_rdo.py). -/
import Derived.Test.YtjpalbonclgflaaPart6
namespace Go.Proofs.Ytjpalbonclgflaa
open Go.RowKit

attribute [local go_sem] idx0 idx1 idx2 idx3 fld0

theorem rat_add (a b : Rat) : Rat.divInt (a.num * (b.den : Int) + b.num * (a.den : Int)) ((a.den : Int) * (b.den : Int)) = a + b := by
 have h := Rat.divInt_add_divInt a.num b.num (d₁ := (a.den : Int)) (d₂ := (b.den : Int)) (by have := a.den_nz; omega) (by have := b.den_nz; omega)
 rw [← h, Rat.num_divInt_den, Rat.num_divInt_den]
theorem rat_sub (a b : Rat) : Rat.divInt (a.num * (b.den : Int) - b.num * (a.den : Int)) ((a.den : Int) * (b.den : Int)) = a - b := by
 have h := Rat.divInt_sub_divInt a.num b.num (d₁ := (a.den : Int)) (d₂ := (b.den : Int)) (by have := a.den_nz; omega) (by have := b.den_nz; omega)
 rw [← h, Rat.num_divInt_den, Rat.num_divInt_den]
theorem rat_div (a b : Rat) : Rat.divInt (a.num * (b.den : Int)) ((a.den : Int) * b.num) = a / b := by
 rw [← Rat.divInt_mul_divInt, Rat.num_divInt_den, Rat.div_def, Rat.inv_def]
set_option maxRecDepth 100000 in
set_option maxHeartbeats 3200000 in
theorem do0_any (na ma : Bool) (sa ta : ByteArray) (nb mb : Bool) (sb tb : ByteArray) (w : World) (h1 : sa.size ≤ 20000000000) (h2 : ta.size ≤ 20000000000) (h3 : sb.size ≤ 20000000000) (h4 : tb.size ≤ 20000000000) :
  Calls Try.prog 59 #[.int .i64 0, .agg #[.bool na, .string sa, .bool ma, .string ta], .agg #[.bool nb, .string sb, .bool mb, .string tb]] w (Ret w (RatV (Rat.divInt (ival na sa) (ival ma ta) + Rat.divInt (ival nb sb) (ival mb tb)))) := by
 obtain ⟨w4, hw4⟩ : ∃ w4, w4 = ((w.alloc (.cells #[.bool na, .string sa, .bool ma, .string ta] 35)).alloc (.cells #[.bool nb, .string sb, .bool mb, .string tb] 35)).alloc (.cells #[.bool false, .string ⟨#[]⟩, .bool false, .string ⟨#[]⟩] 35) := ⟨_, rfl⟩
 have k_a : Blk w4 (w.heap.size) 35 [.bool na, .string sa, .bool ma, .string ta] := by
  rw [hw4]
  have h := (((Blk.new (w) 35 [.bool na, .string sa, .bool ma, .string ta]).alloc (.cells #[.bool nb, .string sb, .bool mb, .string tb] 35)).alloc (.cells #[.bool false, .string ⟨#[]⟩, .bool false, .string ⟨#[]⟩] 35))
  (try simp only [World.size_alloc, Nat.add_assoc, Nat.reduceAdd] at h)
  exact h
 have k_b : Blk w4 (w.heap.size + 1) 35 [.bool nb, .string sb, .bool mb, .string tb] := by
  rw [hw4]
  have h := ((Blk.new (w.alloc (.cells #[.bool na, .string sa, .bool ma, .string ta] 35)) 35 [.bool nb, .string sb, .bool mb, .string tb]).alloc (.cells #[.bool false, .string ⟨#[]⟩, .bool false, .string ⟨#[]⟩] 35))
  (try simp only [World.size_alloc, Nat.add_assoc, Nat.reduceAdd] at h)
  exact h
 have k_r : Blk w4 (w.heap.size + 2) 35 [.bool false, .string ⟨#[]⟩, .bool false, .string ⟨#[]⟩] := by
  rw [hw4]
  have h := (Blk.new ((w.alloc (.cells #[.bool na, .string sa, .bool ma, .string ta] 35)).alloc (.cells #[.bool nb, .string sb, .bool mb, .string tb] 35)) 35 [.bool false, .string ⟨#[]⟩, .bool false, .string ⟨#[]⟩])
  (try simp only [World.size_alloc, Nat.add_assoc, Nat.reduceAdd] at h)
  exact h
 have tl : Below w.heap.size w w4 := by
  rw [hw4]
  exact ((((Below.refl w.heap.size w).alloc (by simp <;> omega) (.cells #[.bool na, .string sa, .bool ma, .string ta] 35)).alloc (by simp <;> omega) (.cells #[.bool nb, .string sb, .bool mb, .string tb] 35)).alloc (by simp <;> omega) (.cells #[.bool false, .string ⟨#[]⟩, .bool false, .string ⟨#[]⟩] 35))
 have hs4 : w4.heap.size = w.heap.size + 3 := by rw [hw4]; simp only [World.size_alloc]
 obtain ⟨a_0, a_f0, a_1, a_f1, a_2, a_f2, a_3, a_f3⟩ := k_a.f4
 have HA := zh k_a; clear k_a
 obtain ⟨b_0, b_f0, b_1, b_f1, b_2, b_f2, b_3, b_f3⟩ := k_b.f4
 have HB := zh k_b; clear k_b
 obtain ⟨r_0, r_f0, r_1, r_f1, r_2, r_f2, r_3, r_f3⟩ := k_r.f4
 have HR := zh k_r; clear k_r
 have HBL := zh tl; clear tl
 have hca := fun w' => canonical_any na ma sa ta w' (by omega) (by omega)
 have hcb := fun w' => canonical_any nb mb sb tb w' (by omega) (by omega)
 have hqa := divInt_sized (ival_sized h1 na) (ival_sized h2 ma) (by decide)
 have hqb := divInt_sized (ival_sized h3 nb) (ival_sized h4 mb) (by decide)
 obtain ⟨qa, ha⟩ : ∃ q, q = Rat.divInt (ival na sa) (ival ma ta) := ⟨_, rfl⟩
 obtain ⟨qb, hb⟩ : ∃ q, q = Rat.divInt (ival nb sb) (ival mb tb) := ⟨_, rfl⟩
 rw [← ha] at hca hqa ⊢
 rw [← hb] at hcb hqb ⊢
 obtain ⟨z1, z3⟩ := hqa
 obtain ⟨z2, z4⟩ := hqb
 have htab := fun w' => tab1_any (ineg qa.num) (ineg (qa.den : Int)) (imag qa.num) (imag (qa.den : Int)) (ineg qb.num) (ineg (qb.den : Int)) (imag qb.num) (imag (qb.den : Int)) w' z1.size z3.size z2.size z4.size
 simp only [ival_canon] at htab
 obtain ⟨x, hx⟩ : ∃ x, x = qa.num * (qb.den : Int) + qb.num * (qa.den : Int) := ⟨_, rfl⟩
 obtain ⟨y, hy⟩ : ∃ y, y = (qa.den : Int) * (qb.den : Int) := ⟨_, rfl⟩
 have zx : zs 100000000000 x := by rw [hx]; exact ((z1.mul z4).add (z2.mul z3)).mono (by decide)
 have zy : zs 100000000000 y := by rw [hy]; exact (z3.mul z4).mono (by decide)
 have hlo := fun w' => lowest_any (ineg x) (ineg y) (imag x) (imag y) w' zx.size zy.size
 simp only [ival_canon] at hlo
 have he : Rat.divInt x y = qa + qb := by rw [hx, hy]; exact rat_add qa qb
 rw [he] at hlo
 rw [← hx, ← hy] at htab
 obtain ⟨q, hq'⟩ : ∃ q, q = qa + qb := ⟨_, rfl⟩
 rw [← hq'] at hlo ⊢
 clear hq' he zx zy hx hy z1 z2 z3 z4 ha hb h1 h2 h3 h4
 have HCA := zh hca; clear hca
 have HCB := zh hcb; clear hcb
 have HTAB := zh htab; clear htab
 have HLO := zh hlo; clear hlo
 go_enter Try.func59, Try.ntmps59
 go_wp2_with fail
 (try rw [← hw4])
 clear hw4
 (try simp only [Nat.add_assoc, Nat.reduceAdd])
 have HA := zh HA.out.drew
 have HB := zh HB.out.drew
 have HR := zh HR.out.drew
 have HBL := zh HBL.out.drew
 refine wp_region_held_drew (S := fun w' => w'.cell? ⟨w.heap.size, 0, none⟩ = some (.bool na) ∧ w'.cell? ⟨w.heap.size, 1, none⟩ = some (.string sa) ∧ w'.cell? ⟨w.heap.size, 2, none⟩ = some (.bool ma) ∧ w'.cell? ⟨w.heap.size, 3, none⟩ = some (.string ta) ∧ w'.cell? ⟨w.heap.size + 1, 0, none⟩ = some (.bool nb) ∧ w'.cell? ⟨w.heap.size + 1, 1, none⟩ = some (.string sb) ∧ w'.cell? ⟨w.heap.size + 1, 2, none⟩ = some (.bool mb) ∧ w'.cell? ⟨w.heap.size + 1, 3, none⟩ = some (.string tb)) (by kernel_rfl) ?_ (fun hHeld0 => ?_)
 ·
  go_keep
 refine zT 1 (h := ?_)
 (try simp only [Act.put, zA, zB, zC])
 refine zT 4 (h := ?_)
 (try simp only [Act.put, zA, zB, zC])
 refine zT 6 (h := ?_)
 (try simp only [Act.put, zA, zB, zC])
 refine zR 0 (h := fun K hK => ?_)
 go_simp
 go_at_call 74
 refine (table_any _).mono ?_
 rintro e w5 ⟨hq, rfl⟩
 dsimp only
 have z0 := zK hq HA.out.lt hHeld0.1
 have z1 := zK hq HA.out.lt hHeld0.2.1
 have z2 := zK hq HA.out.lt hHeld0.2.2.1
 have z3 := zK hq HA.out.lt hHeld0.2.2.2.1
 have z4 := zK hq HB.out.lt hHeld0.2.2.2.2.1
 have z5 := zK hq HB.out.lt hHeld0.2.2.2.2.2.1
 have z6 := zK hq HB.out.lt hHeld0.2.2.2.2.2.2.1
 have z7 := zK hq HB.out.lt hHeld0.2.2.2.2.2.2.2
 refine hK.out _ _ ⟨z0, z1, z2, z3, z4, z5, z6, z7⟩ (fun hHeld1 => ?_)
 clear hK K hHeld0 z0 z1 z2 z3 z4 z5 z6 z7
 (try simp only [Act.put, zA, zB, zC])
 have k_a := HA.out.keep hq
 have k_b := HB.out.keep hq
 have k_r := HR.out.keep hq
 have tl := HBL.out.trans ((hq).mono HBL.out.size)
 clear HBL HA HB HR
 clear a_0 a_f0 a_1 a_f1 a_2 a_f2 a_3 a_f3
 obtain ⟨a_0, a_f0, a_1, a_f1, a_2, a_f2, a_3, a_f3⟩ := k_a.f4
 have HA := zh k_a; clear k_a
 clear b_0 b_f0 b_1 b_f1 b_2 b_f2 b_3 b_f3
 obtain ⟨b_0, b_f0, b_1, b_f1, b_2, b_f2, b_3, b_f3⟩ := k_b.f4
 have HB := zh k_b; clear k_b
 clear r_0 r_f0 r_1 r_f1 r_2 r_f2 r_3 r_f3
 obtain ⟨r_0, r_f0, r_1, r_f1, r_2, r_f2, r_3, r_f3⟩ := k_r.f4
 have HR := zh k_r; clear k_r
 have HBL := zh tl; clear tl
 clear hq
 refine zT 2 (h := ?_)
 (try simp only [Act.put, zA, zB, zC])
 refine zT 3 (h := ?_)
 (try simp only [Act.put, zA, zB, zC])
 refine zR 5 (h := fun K hK => ?_)
 go_simp
 go_at_call 24
 refine (HCA.out _).mono ?_
 rintro e w6 ⟨hq, rfl⟩
 dsimp only
 have z0 := zK hq HA.out.lt hHeld1.1
 have z1 := zK hq HA.out.lt hHeld1.2.1
 have z2 := zK hq HA.out.lt hHeld1.2.2.1
 have z3 := zK hq HA.out.lt hHeld1.2.2.2.1
 have z4 := zK hq HB.out.lt hHeld1.2.2.2.2.1
 have z5 := zK hq HB.out.lt hHeld1.2.2.2.2.2.1
 have z6 := zK hq HB.out.lt hHeld1.2.2.2.2.2.2.1
 have z7 := zK hq HB.out.lt hHeld1.2.2.2.2.2.2.2
 refine hK.out _ _ ⟨z0, z1, z2, z3, z4, z5, z6, z7⟩ (fun hHeld2 => ?_)
 clear hK K hHeld1 z0 z1 z2 z3 z4 z5 z6 z7
 (try simp only [Act.put, zA, zB, zC])
 have k_a := HA.out.keep hq
 have k_b := HB.out.keep hq
 have k_r := HR.out.keep hq
 have tl := HBL.out.trans ((hq).mono HBL.out.size)
 clear HBL HA HB HR
 clear a_0 a_f0 a_1 a_f1 a_2 a_f2 a_3 a_f3
 obtain ⟨a_0, a_f0, a_1, a_f1, a_2, a_f2, a_3, a_f3⟩ := k_a.f4
 have HA := zh k_a; clear k_a
 clear b_0 b_f0 b_1 b_f1 b_2 b_f2 b_3 b_f3
 obtain ⟨b_0, b_f0, b_1, b_f1, b_2, b_f2, b_3, b_f3⟩ := k_b.f4
 have HB := zh k_b; clear k_b
 clear r_0 r_f0 r_1 r_f1 r_2 r_f2 r_3 r_f3
 obtain ⟨r_0, r_f0, r_1, r_f1, r_2, r_f2, r_3, r_f3⟩ := k_r.f4
 have HR := zh k_r; clear k_r
 have HBL := zh tl; clear tl
 clear hq
 refine zR 7 (h := fun K hK => ?_)
 go_simp
 go_at_call 24
 refine (HCB.out _).mono ?_
 rintro e w7 ⟨hq, rfl⟩
 dsimp only
 have z0 := zK hq HA.out.lt hHeld2.1
 have z1 := zK hq HA.out.lt hHeld2.2.1
 have z2 := zK hq HA.out.lt hHeld2.2.2.1
 have z3 := zK hq HA.out.lt hHeld2.2.2.2.1
 have z4 := zK hq HB.out.lt hHeld2.2.2.2.2.1
 have z5 := zK hq HB.out.lt hHeld2.2.2.2.2.2.1
 have z6 := zK hq HB.out.lt hHeld2.2.2.2.2.2.2.1
 have z7 := zK hq HB.out.lt hHeld2.2.2.2.2.2.2.2
 refine hK.out _ _ ⟨z0, z1, z2, z3, z4, z5, z6, z7⟩ (fun hHeld3 => ?_)
 clear hK K hHeld2 z0 z1 z2 z3 z4 z5 z6 z7
 (try simp only [Act.put, zA, zB, zC])
 have k_a := HA.out.keep hq
 have k_b := HB.out.keep hq
 have k_r := HR.out.keep hq
 have tl := HBL.out.trans ((hq).mono HBL.out.size)
 clear HBL HA HB HR
 clear a_0 a_f0 a_1 a_f1 a_2 a_f2 a_3 a_f3
 obtain ⟨a_0, a_f0, a_1, a_f1, a_2, a_f2, a_3, a_f3⟩ := k_a.f4
 have HA := zh k_a; clear k_a
 clear b_0 b_f0 b_1 b_f1 b_2 b_f2 b_3 b_f3
 obtain ⟨b_0, b_f0, b_1, b_f1, b_2, b_f2, b_3, b_f3⟩ := k_b.f4
 have HB := zh k_b; clear k_b
 clear r_0 r_f0 r_1 r_f1 r_2 r_f2 r_3 r_f3
 obtain ⟨r_0, r_f0, r_1, r_f1, r_2, r_f2, r_3, r_f3⟩ := k_r.f4
 have HR := zh k_r; clear k_r
 have HBL := zh tl; clear tl
 clear hq
 refine zR 8 (h := fun K hK => ?_)
 go_simp
 go_at_call 77
 refine (HTAB.out _).mono ?_
 rintro e w8 ⟨hq, rfl⟩
 dsimp only
 have z0 := zK hq HA.out.lt hHeld3.1
 have z1 := zK hq HA.out.lt hHeld3.2.1
 have z2 := zK hq HA.out.lt hHeld3.2.2.1
 have z3 := zK hq HA.out.lt hHeld3.2.2.2.1
 have z4 := zK hq HB.out.lt hHeld3.2.2.2.2.1
 have z5 := zK hq HB.out.lt hHeld3.2.2.2.2.2.1
 have z6 := zK hq HB.out.lt hHeld3.2.2.2.2.2.2.1
 have z7 := zK hq HB.out.lt hHeld3.2.2.2.2.2.2.2
 refine hK.out _ _ ⟨z0, z1, z2, z3, z4, z5, z6, z7⟩ (fun hHeld4 => ?_)
 clear hK K hHeld3 z0 z1 z2 z3 z4 z5 z6 z7
 (try simp only [Act.put, zA, zB, zC])
 have k_a := HA.out.keep hq
 have k_b := HB.out.keep hq
 have k_r := HR.out.keep hq
 have tl := HBL.out.trans ((hq).mono HBL.out.size)
 clear HBL HA HB HR
 clear a_0 a_f0 a_1 a_f1 a_2 a_f2 a_3 a_f3
 obtain ⟨a_0, a_f0, a_1, a_f1, a_2, a_f2, a_3, a_f3⟩ := k_a.f4
 have HA := zh k_a; clear k_a
 clear b_0 b_f0 b_1 b_f1 b_2 b_f2 b_3 b_f3
 obtain ⟨b_0, b_f0, b_1, b_f1, b_2, b_f2, b_3, b_f3⟩ := k_b.f4
 have HB := zh k_b; clear k_b
 clear r_0 r_f0 r_1 r_f1 r_2 r_f2 r_3 r_f3
 obtain ⟨r_0, r_f0, r_1, r_f1, r_2, r_f2, r_3, r_f3⟩ := k_r.f4
 have HR := zh k_r; clear k_r
 have HBL := zh tl; clear tl
 clear hq
 refine zT 9 (h := ?_)
 (try simp only [Act.put, zA, zB, zC])
 refine zT 10 (h := ?_)
 (try simp only [Act.put, zA, zB, zC])
 refine zR 11 (h := fun K hK => ?_)
 go_simp
 go_at_call 46
 refine (HLO.out _).mono ?_
 rintro e w9 ⟨hq, rfl⟩
 dsimp only
 have z0 := zK hq HA.out.lt hHeld4.1
 have z1 := zK hq HA.out.lt hHeld4.2.1
 have z2 := zK hq HA.out.lt hHeld4.2.2.1
 have z3 := zK hq HA.out.lt hHeld4.2.2.2.1
 have z4 := zK hq HB.out.lt hHeld4.2.2.2.2.1
 have z5 := zK hq HB.out.lt hHeld4.2.2.2.2.2.1
 have z6 := zK hq HB.out.lt hHeld4.2.2.2.2.2.2.1
 have z7 := zK hq HB.out.lt hHeld4.2.2.2.2.2.2.2
 refine hK.out _ _ ⟨z0, z1, z2, z3, z4, z5, z6, z7⟩ (fun hHeld5 => ?_)
 clear hK K hHeld4 z0 z1 z2 z3 z4 z5 z6 z7
 (try simp only [Act.put, zA, zB, zC])
 have k_a := HA.out.keep hq
 have k_b := HB.out.keep hq
 have k_r := HR.out.keep hq
 have tl := HBL.out.trans ((hq).mono HBL.out.size)
 clear HBL HA HB HR
 clear a_0 a_f0 a_1 a_f1 a_2 a_f2 a_3 a_f3
 obtain ⟨a_0, a_f0, a_1, a_f1, a_2, a_f2, a_3, a_f3⟩ := k_a.f4
 have HA := zh k_a; clear k_a
 clear b_0 b_f0 b_1 b_f1 b_2 b_f2 b_3 b_f3
 obtain ⟨b_0, b_f0, b_1, b_f1, b_2, b_f2, b_3, b_f3⟩ := k_b.f4
 have HB := zh k_b; clear k_b
 clear r_0 r_f0 r_1 r_f1 r_2 r_f2 r_3 r_f3
 obtain ⟨r_0, r_f0, r_1, r_f1, r_2, r_f2, r_3, r_f3⟩ := k_r.f4
 have HR := zh k_r; clear k_r
 have HBL := zh tl; clear tl
 clear hq
 refine zR 12 (h := fun K hK => ?_)
 go_simp
 refine hK.out _ _ ?_ (fun hHeld6 => ?_)
 ·
  ((try dsimp only); go_keep)
 clear hK K
 (try simp only [Act.put, zA, zB, zC])
 refine wpAnyH_done (by kernel_rfl) ?_ _
 (try simp only [List.getElem_toArray, List.getElem_cons_zero, List.getElem_cons_succ, Act.put, zA, zB, zC])
 go_wp2_with fail
 have hrv : RatV q = .agg #[.bool (ineg q.num), .string (imag q.num), .bool (ineg (q.den : Int)), .string (imag (q.den : Int))] := rfl
 have kz := ((((HR.out.set 0 (.bool (ineg q.num))).set 1 (.string (imag q.num))).set 2 (.bool (ineg (q.den : Int)))).set 3 (.string (imag (q.den : Int))))
 have sz := ((((HBL.out.setCell (p := ⟨w.heap.size + 2, 0, none⟩) (by show w.heap.size ≤ w.heap.size + 2; omega) (.bool (ineg q.num))).setCell (p := ⟨w.heap.size + 2, 1, none⟩) (by show w.heap.size ≤ w.heap.size + 2; omega) (.string (imag q.num))).setCell (p := ⟨w.heap.size + 2, 2, none⟩) (by show w.heap.size ≤ w.heap.size + 2; omega) (.bool (ineg (q.den : Int)))).setCell (p := ⟨w.heap.size + 2, 3, none⟩) (by show w.heap.size ≤ w.heap.size + 2; omega) (.string (imag (q.den : Int))))
 have e0 := kz.c 0 rfl
 have e1 := kz.c 1 rfl
 have e2 := kz.c 2 rfl
 have e3 := kz.c 3 rfl
 refine bodyPost_ret (v := RatV q) (by rw [hrv]; simp [results, Try.results59, go_sem, e0, e1, e2, e3]) rfl ⟨sz, rfl⟩
set_option maxRecDepth 100000 in
set_option maxHeartbeats 3200000 in
theorem do1_any (na ma : Bool) (sa ta : ByteArray) (nb mb : Bool) (sb tb : ByteArray) (w : World) (h1 : sa.size ≤ 20000000000) (h2 : ta.size ≤ 20000000000) (h3 : sb.size ≤ 20000000000) (h4 : tb.size ≤ 20000000000) :
  Calls Try.prog 59 #[.int .i64 1, .agg #[.bool na, .string sa, .bool ma, .string ta], .agg #[.bool nb, .string sb, .bool mb, .string tb]] w (Ret w (RatV (Rat.divInt (ival na sa) (ival ma ta) - Rat.divInt (ival nb sb) (ival mb tb)))) := by
 obtain ⟨w4, hw4⟩ : ∃ w4, w4 = ((w.alloc (.cells #[.bool na, .string sa, .bool ma, .string ta] 35)).alloc (.cells #[.bool nb, .string sb, .bool mb, .string tb] 35)).alloc (.cells #[.bool false, .string ⟨#[]⟩, .bool false, .string ⟨#[]⟩] 35) := ⟨_, rfl⟩
 have k_a : Blk w4 (w.heap.size) 35 [.bool na, .string sa, .bool ma, .string ta] := by
  rw [hw4]
  have h := (((Blk.new (w) 35 [.bool na, .string sa, .bool ma, .string ta]).alloc (.cells #[.bool nb, .string sb, .bool mb, .string tb] 35)).alloc (.cells #[.bool false, .string ⟨#[]⟩, .bool false, .string ⟨#[]⟩] 35))
  (try simp only [World.size_alloc, Nat.add_assoc, Nat.reduceAdd] at h)
  exact h
 have k_b : Blk w4 (w.heap.size + 1) 35 [.bool nb, .string sb, .bool mb, .string tb] := by
  rw [hw4]
  have h := ((Blk.new (w.alloc (.cells #[.bool na, .string sa, .bool ma, .string ta] 35)) 35 [.bool nb, .string sb, .bool mb, .string tb]).alloc (.cells #[.bool false, .string ⟨#[]⟩, .bool false, .string ⟨#[]⟩] 35))
  (try simp only [World.size_alloc, Nat.add_assoc, Nat.reduceAdd] at h)
  exact h
 have k_r : Blk w4 (w.heap.size + 2) 35 [.bool false, .string ⟨#[]⟩, .bool false, .string ⟨#[]⟩] := by
  rw [hw4]
  have h := (Blk.new ((w.alloc (.cells #[.bool na, .string sa, .bool ma, .string ta] 35)).alloc (.cells #[.bool nb, .string sb, .bool mb, .string tb] 35)) 35 [.bool false, .string ⟨#[]⟩, .bool false, .string ⟨#[]⟩])
  (try simp only [World.size_alloc, Nat.add_assoc, Nat.reduceAdd] at h)
  exact h
 have tl : Below w.heap.size w w4 := by
  rw [hw4]
  exact ((((Below.refl w.heap.size w).alloc (by simp <;> omega) (.cells #[.bool na, .string sa, .bool ma, .string ta] 35)).alloc (by simp <;> omega) (.cells #[.bool nb, .string sb, .bool mb, .string tb] 35)).alloc (by simp <;> omega) (.cells #[.bool false, .string ⟨#[]⟩, .bool false, .string ⟨#[]⟩] 35))
 have hs4 : w4.heap.size = w.heap.size + 3 := by rw [hw4]; simp only [World.size_alloc]
 obtain ⟨a_0, a_f0, a_1, a_f1, a_2, a_f2, a_3, a_f3⟩ := k_a.f4
 have HA := zh k_a; clear k_a
 obtain ⟨b_0, b_f0, b_1, b_f1, b_2, b_f2, b_3, b_f3⟩ := k_b.f4
 have HB := zh k_b; clear k_b
 obtain ⟨r_0, r_f0, r_1, r_f1, r_2, r_f2, r_3, r_f3⟩ := k_r.f4
 have HR := zh k_r; clear k_r
 have HBL := zh tl; clear tl
 have hca := fun w' => canonical_any na ma sa ta w' (by omega) (by omega)
 have hcb := fun w' => canonical_any nb mb sb tb w' (by omega) (by omega)
 have hqa := divInt_sized (ival_sized h1 na) (ival_sized h2 ma) (by decide)
 have hqb := divInt_sized (ival_sized h3 nb) (ival_sized h4 mb) (by decide)
 obtain ⟨qa, ha⟩ : ∃ q, q = Rat.divInt (ival na sa) (ival ma ta) := ⟨_, rfl⟩
 obtain ⟨qb, hb⟩ : ∃ q, q = Rat.divInt (ival nb sb) (ival mb tb) := ⟨_, rfl⟩
 rw [← ha] at hca hqa ⊢
 rw [← hb] at hcb hqb ⊢
 obtain ⟨z1, z3⟩ := hqa
 obtain ⟨z2, z4⟩ := hqb
 have htab := fun w' => tab2_any (ineg qa.num) (ineg (qa.den : Int)) (imag qa.num) (imag (qa.den : Int)) (ineg qb.num) (ineg (qb.den : Int)) (imag qb.num) (imag (qb.den : Int)) w' z1.size z3.size z2.size z4.size
 simp only [ival_canon] at htab
 obtain ⟨x, hx⟩ : ∃ x, x = qa.num * (qb.den : Int) - qb.num * (qa.den : Int) := ⟨_, rfl⟩
 obtain ⟨y, hy⟩ : ∃ y, y = (qa.den : Int) * (qb.den : Int) := ⟨_, rfl⟩
 have zx : zs 100000000000 x := by rw [hx]; exact ((z1.mul z4).sub (z2.mul z3)).mono (by decide)
 have zy : zs 100000000000 y := by rw [hy]; exact (z3.mul z4).mono (by decide)
 have hlo := fun w' => lowest_any (ineg x) (ineg y) (imag x) (imag y) w' zx.size zy.size
 simp only [ival_canon] at hlo
 have he : Rat.divInt x y = qa - qb := by rw [hx, hy]; exact rat_sub qa qb
 rw [he] at hlo
 rw [← hx, ← hy] at htab
 obtain ⟨q, hq'⟩ : ∃ q, q = qa - qb := ⟨_, rfl⟩
 rw [← hq'] at hlo ⊢
 clear hq' he zx zy hx hy z1 z2 z3 z4 ha hb h1 h2 h3 h4
 have HCA := zh hca; clear hca
 have HCB := zh hcb; clear hcb
 have HTAB := zh htab; clear htab
 have HLO := zh hlo; clear hlo
 go_enter Try.func59, Try.ntmps59
 go_wp2_with fail
 (try rw [← hw4])
 clear hw4
 (try simp only [Nat.add_assoc, Nat.reduceAdd])
 have HA := zh HA.out.drew
 have HB := zh HB.out.drew
 have HR := zh HR.out.drew
 have HBL := zh HBL.out.drew
 refine wp_region_held_drew (S := fun w' => w'.cell? ⟨w.heap.size, 0, none⟩ = some (.bool na) ∧ w'.cell? ⟨w.heap.size, 1, none⟩ = some (.string sa) ∧ w'.cell? ⟨w.heap.size, 2, none⟩ = some (.bool ma) ∧ w'.cell? ⟨w.heap.size, 3, none⟩ = some (.string ta) ∧ w'.cell? ⟨w.heap.size + 1, 0, none⟩ = some (.bool nb) ∧ w'.cell? ⟨w.heap.size + 1, 1, none⟩ = some (.string sb) ∧ w'.cell? ⟨w.heap.size + 1, 2, none⟩ = some (.bool mb) ∧ w'.cell? ⟨w.heap.size + 1, 3, none⟩ = some (.string tb)) (by kernel_rfl) ?_ (fun hHeld0 => ?_)
 ·
  go_keep
 refine zT 1 (h := ?_)
 (try simp only [Act.put, zA, zB, zC])
 refine zT 4 (h := ?_)
 (try simp only [Act.put, zA, zB, zC])
 refine zT 6 (h := ?_)
 (try simp only [Act.put, zA, zB, zC])
 refine zR 0 (h := fun K hK => ?_)
 go_simp
 go_at_call 74
 refine (table_any _).mono ?_
 rintro e w5 ⟨hq, rfl⟩
 dsimp only
 have z0 := zK hq HA.out.lt hHeld0.1
 have z1 := zK hq HA.out.lt hHeld0.2.1
 have z2 := zK hq HA.out.lt hHeld0.2.2.1
 have z3 := zK hq HA.out.lt hHeld0.2.2.2.1
 have z4 := zK hq HB.out.lt hHeld0.2.2.2.2.1
 have z5 := zK hq HB.out.lt hHeld0.2.2.2.2.2.1
 have z6 := zK hq HB.out.lt hHeld0.2.2.2.2.2.2.1
 have z7 := zK hq HB.out.lt hHeld0.2.2.2.2.2.2.2
 refine hK.out _ _ ⟨z0, z1, z2, z3, z4, z5, z6, z7⟩ (fun hHeld1 => ?_)
 clear hK K hHeld0 z0 z1 z2 z3 z4 z5 z6 z7
 (try simp only [Act.put, zA, zB, zC])
 have k_a := HA.out.keep hq
 have k_b := HB.out.keep hq
 have k_r := HR.out.keep hq
 have tl := HBL.out.trans ((hq).mono HBL.out.size)
 clear HBL HA HB HR
 clear a_0 a_f0 a_1 a_f1 a_2 a_f2 a_3 a_f3
 obtain ⟨a_0, a_f0, a_1, a_f1, a_2, a_f2, a_3, a_f3⟩ := k_a.f4
 have HA := zh k_a; clear k_a
 clear b_0 b_f0 b_1 b_f1 b_2 b_f2 b_3 b_f3
 obtain ⟨b_0, b_f0, b_1, b_f1, b_2, b_f2, b_3, b_f3⟩ := k_b.f4
 have HB := zh k_b; clear k_b
 clear r_0 r_f0 r_1 r_f1 r_2 r_f2 r_3 r_f3
 obtain ⟨r_0, r_f0, r_1, r_f1, r_2, r_f2, r_3, r_f3⟩ := k_r.f4
 have HR := zh k_r; clear k_r
 have HBL := zh tl; clear tl
 clear hq
 refine zT 2 (h := ?_)
 (try simp only [Act.put, zA, zB, zC])
 refine zT 3 (h := ?_)
 (try simp only [Act.put, zA, zB, zC])
 refine zR 5 (h := fun K hK => ?_)
 go_simp
 go_at_call 24
 refine (HCA.out _).mono ?_
 rintro e w6 ⟨hq, rfl⟩
 dsimp only
 have z0 := zK hq HA.out.lt hHeld1.1
 have z1 := zK hq HA.out.lt hHeld1.2.1
 have z2 := zK hq HA.out.lt hHeld1.2.2.1
 have z3 := zK hq HA.out.lt hHeld1.2.2.2.1
 have z4 := zK hq HB.out.lt hHeld1.2.2.2.2.1
 have z5 := zK hq HB.out.lt hHeld1.2.2.2.2.2.1
 have z6 := zK hq HB.out.lt hHeld1.2.2.2.2.2.2.1
 have z7 := zK hq HB.out.lt hHeld1.2.2.2.2.2.2.2
 refine hK.out _ _ ⟨z0, z1, z2, z3, z4, z5, z6, z7⟩ (fun hHeld2 => ?_)
 clear hK K hHeld1 z0 z1 z2 z3 z4 z5 z6 z7
 (try simp only [Act.put, zA, zB, zC])
 have k_a := HA.out.keep hq
 have k_b := HB.out.keep hq
 have k_r := HR.out.keep hq
 have tl := HBL.out.trans ((hq).mono HBL.out.size)
 clear HBL HA HB HR
 clear a_0 a_f0 a_1 a_f1 a_2 a_f2 a_3 a_f3
 obtain ⟨a_0, a_f0, a_1, a_f1, a_2, a_f2, a_3, a_f3⟩ := k_a.f4
 have HA := zh k_a; clear k_a
 clear b_0 b_f0 b_1 b_f1 b_2 b_f2 b_3 b_f3
 obtain ⟨b_0, b_f0, b_1, b_f1, b_2, b_f2, b_3, b_f3⟩ := k_b.f4
 have HB := zh k_b; clear k_b
 clear r_0 r_f0 r_1 r_f1 r_2 r_f2 r_3 r_f3
 obtain ⟨r_0, r_f0, r_1, r_f1, r_2, r_f2, r_3, r_f3⟩ := k_r.f4
 have HR := zh k_r; clear k_r
 have HBL := zh tl; clear tl
 clear hq
 refine zR 7 (h := fun K hK => ?_)
 go_simp
 go_at_call 24
 refine (HCB.out _).mono ?_
 rintro e w7 ⟨hq, rfl⟩
 dsimp only
 have z0 := zK hq HA.out.lt hHeld2.1
 have z1 := zK hq HA.out.lt hHeld2.2.1
 have z2 := zK hq HA.out.lt hHeld2.2.2.1
 have z3 := zK hq HA.out.lt hHeld2.2.2.2.1
 have z4 := zK hq HB.out.lt hHeld2.2.2.2.2.1
 have z5 := zK hq HB.out.lt hHeld2.2.2.2.2.2.1
 have z6 := zK hq HB.out.lt hHeld2.2.2.2.2.2.2.1
 have z7 := zK hq HB.out.lt hHeld2.2.2.2.2.2.2.2
 refine hK.out _ _ ⟨z0, z1, z2, z3, z4, z5, z6, z7⟩ (fun hHeld3 => ?_)
 clear hK K hHeld2 z0 z1 z2 z3 z4 z5 z6 z7
 (try simp only [Act.put, zA, zB, zC])
 have k_a := HA.out.keep hq
 have k_b := HB.out.keep hq
 have k_r := HR.out.keep hq
 have tl := HBL.out.trans ((hq).mono HBL.out.size)
 clear HBL HA HB HR
 clear a_0 a_f0 a_1 a_f1 a_2 a_f2 a_3 a_f3
 obtain ⟨a_0, a_f0, a_1, a_f1, a_2, a_f2, a_3, a_f3⟩ := k_a.f4
 have HA := zh k_a; clear k_a
 clear b_0 b_f0 b_1 b_f1 b_2 b_f2 b_3 b_f3
 obtain ⟨b_0, b_f0, b_1, b_f1, b_2, b_f2, b_3, b_f3⟩ := k_b.f4
 have HB := zh k_b; clear k_b
 clear r_0 r_f0 r_1 r_f1 r_2 r_f2 r_3 r_f3
 obtain ⟨r_0, r_f0, r_1, r_f1, r_2, r_f2, r_3, r_f3⟩ := k_r.f4
 have HR := zh k_r; clear k_r
 have HBL := zh tl; clear tl
 clear hq
 refine zR 8 (h := fun K hK => ?_)
 go_simp
 go_at_call 78
 refine (HTAB.out _).mono ?_
 rintro e w8 ⟨hq, rfl⟩
 dsimp only
 have z0 := zK hq HA.out.lt hHeld3.1
 have z1 := zK hq HA.out.lt hHeld3.2.1
 have z2 := zK hq HA.out.lt hHeld3.2.2.1
 have z3 := zK hq HA.out.lt hHeld3.2.2.2.1
 have z4 := zK hq HB.out.lt hHeld3.2.2.2.2.1
 have z5 := zK hq HB.out.lt hHeld3.2.2.2.2.2.1
 have z6 := zK hq HB.out.lt hHeld3.2.2.2.2.2.2.1
 have z7 := zK hq HB.out.lt hHeld3.2.2.2.2.2.2.2
 refine hK.out _ _ ⟨z0, z1, z2, z3, z4, z5, z6, z7⟩ (fun hHeld4 => ?_)
 clear hK K hHeld3 z0 z1 z2 z3 z4 z5 z6 z7
 (try simp only [Act.put, zA, zB, zC])
 have k_a := HA.out.keep hq
 have k_b := HB.out.keep hq
 have k_r := HR.out.keep hq
 have tl := HBL.out.trans ((hq).mono HBL.out.size)
 clear HBL HA HB HR
 clear a_0 a_f0 a_1 a_f1 a_2 a_f2 a_3 a_f3
 obtain ⟨a_0, a_f0, a_1, a_f1, a_2, a_f2, a_3, a_f3⟩ := k_a.f4
 have HA := zh k_a; clear k_a
 clear b_0 b_f0 b_1 b_f1 b_2 b_f2 b_3 b_f3
 obtain ⟨b_0, b_f0, b_1, b_f1, b_2, b_f2, b_3, b_f3⟩ := k_b.f4
 have HB := zh k_b; clear k_b
 clear r_0 r_f0 r_1 r_f1 r_2 r_f2 r_3 r_f3
 obtain ⟨r_0, r_f0, r_1, r_f1, r_2, r_f2, r_3, r_f3⟩ := k_r.f4
 have HR := zh k_r; clear k_r
 have HBL := zh tl; clear tl
 clear hq
 refine zT 9 (h := ?_)
 (try simp only [Act.put, zA, zB, zC])
 refine zT 10 (h := ?_)
 (try simp only [Act.put, zA, zB, zC])
 refine zR 11 (h := fun K hK => ?_)
 go_simp
 go_at_call 46
 refine (HLO.out _).mono ?_
 rintro e w9 ⟨hq, rfl⟩
 dsimp only
 have z0 := zK hq HA.out.lt hHeld4.1
 have z1 := zK hq HA.out.lt hHeld4.2.1
 have z2 := zK hq HA.out.lt hHeld4.2.2.1
 have z3 := zK hq HA.out.lt hHeld4.2.2.2.1
 have z4 := zK hq HB.out.lt hHeld4.2.2.2.2.1
 have z5 := zK hq HB.out.lt hHeld4.2.2.2.2.2.1
 have z6 := zK hq HB.out.lt hHeld4.2.2.2.2.2.2.1
 have z7 := zK hq HB.out.lt hHeld4.2.2.2.2.2.2.2
 refine hK.out _ _ ⟨z0, z1, z2, z3, z4, z5, z6, z7⟩ (fun hHeld5 => ?_)
 clear hK K hHeld4 z0 z1 z2 z3 z4 z5 z6 z7
 (try simp only [Act.put, zA, zB, zC])
 have k_a := HA.out.keep hq
 have k_b := HB.out.keep hq
 have k_r := HR.out.keep hq
 have tl := HBL.out.trans ((hq).mono HBL.out.size)
 clear HBL HA HB HR
 clear a_0 a_f0 a_1 a_f1 a_2 a_f2 a_3 a_f3
 obtain ⟨a_0, a_f0, a_1, a_f1, a_2, a_f2, a_3, a_f3⟩ := k_a.f4
 have HA := zh k_a; clear k_a
 clear b_0 b_f0 b_1 b_f1 b_2 b_f2 b_3 b_f3
 obtain ⟨b_0, b_f0, b_1, b_f1, b_2, b_f2, b_3, b_f3⟩ := k_b.f4
 have HB := zh k_b; clear k_b
 clear r_0 r_f0 r_1 r_f1 r_2 r_f2 r_3 r_f3
 obtain ⟨r_0, r_f0, r_1, r_f1, r_2, r_f2, r_3, r_f3⟩ := k_r.f4
 have HR := zh k_r; clear k_r
 have HBL := zh tl; clear tl
 clear hq
 refine zR 12 (h := fun K hK => ?_)
 go_simp
 refine hK.out _ _ ?_ (fun hHeld6 => ?_)
 ·
  ((try dsimp only); go_keep)
 clear hK K
 (try simp only [Act.put, zA, zB, zC])
 refine wpAnyH_done (by kernel_rfl) ?_ _
 (try simp only [List.getElem_toArray, List.getElem_cons_zero, List.getElem_cons_succ, Act.put, zA, zB, zC])
 go_wp2_with fail
 have hrv : RatV q = .agg #[.bool (ineg q.num), .string (imag q.num), .bool (ineg (q.den : Int)), .string (imag (q.den : Int))] := rfl
 have kz := ((((HR.out.set 0 (.bool (ineg q.num))).set 1 (.string (imag q.num))).set 2 (.bool (ineg (q.den : Int)))).set 3 (.string (imag (q.den : Int))))
 have sz := ((((HBL.out.setCell (p := ⟨w.heap.size + 2, 0, none⟩) (by show w.heap.size ≤ w.heap.size + 2; omega) (.bool (ineg q.num))).setCell (p := ⟨w.heap.size + 2, 1, none⟩) (by show w.heap.size ≤ w.heap.size + 2; omega) (.string (imag q.num))).setCell (p := ⟨w.heap.size + 2, 2, none⟩) (by show w.heap.size ≤ w.heap.size + 2; omega) (.bool (ineg (q.den : Int)))).setCell (p := ⟨w.heap.size + 2, 3, none⟩) (by show w.heap.size ≤ w.heap.size + 2; omega) (.string (imag (q.den : Int))))
 have e0 := kz.c 0 rfl
 have e1 := kz.c 1 rfl
 have e2 := kz.c 2 rfl
 have e3 := kz.c 3 rfl
 refine bodyPost_ret (v := RatV q) (by rw [hrv]; simp [results, Try.results59, go_sem, e0, e1, e2, e3]) rfl ⟨sz, rfl⟩
set_option maxRecDepth 100000 in
set_option maxHeartbeats 3200000 in
theorem do3_any (na ma : Bool) (sa ta : ByteArray) (nb mb : Bool) (sb tb : ByteArray) (w : World) (h1 : sa.size ≤ 20000000000) (h2 : ta.size ≤ 20000000000) (h3 : sb.size ≤ 20000000000) (h4 : tb.size ≤ 20000000000) :
  Calls Try.prog 59 #[.int .i64 3, .agg #[.bool na, .string sa, .bool ma, .string ta], .agg #[.bool nb, .string sb, .bool mb, .string tb]] w (Ret w (RatV (Rat.divInt (ival na sa) (ival ma ta) / Rat.divInt (ival nb sb) (ival mb tb)))) := by
 obtain ⟨w4, hw4⟩ : ∃ w4, w4 = ((w.alloc (.cells #[.bool na, .string sa, .bool ma, .string ta] 35)).alloc (.cells #[.bool nb, .string sb, .bool mb, .string tb] 35)).alloc (.cells #[.bool false, .string ⟨#[]⟩, .bool false, .string ⟨#[]⟩] 35) := ⟨_, rfl⟩
 have k_a : Blk w4 (w.heap.size) 35 [.bool na, .string sa, .bool ma, .string ta] := by
  rw [hw4]
  have h := (((Blk.new (w) 35 [.bool na, .string sa, .bool ma, .string ta]).alloc (.cells #[.bool nb, .string sb, .bool mb, .string tb] 35)).alloc (.cells #[.bool false, .string ⟨#[]⟩, .bool false, .string ⟨#[]⟩] 35))
  (try simp only [World.size_alloc, Nat.add_assoc, Nat.reduceAdd] at h)
  exact h
 have k_b : Blk w4 (w.heap.size + 1) 35 [.bool nb, .string sb, .bool mb, .string tb] := by
  rw [hw4]
  have h := ((Blk.new (w.alloc (.cells #[.bool na, .string sa, .bool ma, .string ta] 35)) 35 [.bool nb, .string sb, .bool mb, .string tb]).alloc (.cells #[.bool false, .string ⟨#[]⟩, .bool false, .string ⟨#[]⟩] 35))
  (try simp only [World.size_alloc, Nat.add_assoc, Nat.reduceAdd] at h)
  exact h
 have k_r : Blk w4 (w.heap.size + 2) 35 [.bool false, .string ⟨#[]⟩, .bool false, .string ⟨#[]⟩] := by
  rw [hw4]
  have h := (Blk.new ((w.alloc (.cells #[.bool na, .string sa, .bool ma, .string ta] 35)).alloc (.cells #[.bool nb, .string sb, .bool mb, .string tb] 35)) 35 [.bool false, .string ⟨#[]⟩, .bool false, .string ⟨#[]⟩])
  (try simp only [World.size_alloc, Nat.add_assoc, Nat.reduceAdd] at h)
  exact h
 have tl : Below w.heap.size w w4 := by
  rw [hw4]
  exact ((((Below.refl w.heap.size w).alloc (by simp <;> omega) (.cells #[.bool na, .string sa, .bool ma, .string ta] 35)).alloc (by simp <;> omega) (.cells #[.bool nb, .string sb, .bool mb, .string tb] 35)).alloc (by simp <;> omega) (.cells #[.bool false, .string ⟨#[]⟩, .bool false, .string ⟨#[]⟩] 35))
 have hs4 : w4.heap.size = w.heap.size + 3 := by rw [hw4]; simp only [World.size_alloc]
 obtain ⟨a_0, a_f0, a_1, a_f1, a_2, a_f2, a_3, a_f3⟩ := k_a.f4
 have HA := zh k_a; clear k_a
 obtain ⟨b_0, b_f0, b_1, b_f1, b_2, b_f2, b_3, b_f3⟩ := k_b.f4
 have HB := zh k_b; clear k_b
 obtain ⟨r_0, r_f0, r_1, r_f1, r_2, r_f2, r_3, r_f3⟩ := k_r.f4
 have HR := zh k_r; clear k_r
 have HBL := zh tl; clear tl
 have hca := fun w' => canonical_any na ma sa ta w' (by omega) (by omega)
 have hcb := fun w' => canonical_any nb mb sb tb w' (by omega) (by omega)
 have hqa := divInt_sized (ival_sized h1 na) (ival_sized h2 ma) (by decide)
 have hqb := divInt_sized (ival_sized h3 nb) (ival_sized h4 mb) (by decide)
 obtain ⟨qa, ha⟩ : ∃ q, q = Rat.divInt (ival na sa) (ival ma ta) := ⟨_, rfl⟩
 obtain ⟨qb, hb⟩ : ∃ q, q = Rat.divInt (ival nb sb) (ival mb tb) := ⟨_, rfl⟩
 rw [← ha] at hca hqa ⊢
 rw [← hb] at hcb hqb ⊢
 obtain ⟨z1, z3⟩ := hqa
 obtain ⟨z2, z4⟩ := hqb
 have htab := fun w' => tab4_any (ineg qa.num) (ineg (qa.den : Int)) (imag qa.num) (imag (qa.den : Int)) (ineg qb.num) (ineg (qb.den : Int)) (imag qb.num) (imag (qb.den : Int)) w' z1.size z3.size z2.size z4.size
 simp only [ival_canon] at htab
 obtain ⟨x, hx⟩ : ∃ x, x = qa.num * (qb.den : Int) := ⟨_, rfl⟩
 obtain ⟨y, hy⟩ : ∃ y, y = (qa.den : Int) * qb.num := ⟨_, rfl⟩
 have zx : zs 100000000000 x := by rw [hx]; exact (z1.mul z4).mono (by decide)
 have zy : zs 100000000000 y := by rw [hy]; exact (z3.mul z2).mono (by decide)
 have hlo := fun w' => lowest_any (ineg x) (ineg y) (imag x) (imag y) w' zx.size zy.size
 simp only [ival_canon] at hlo
 have he : Rat.divInt x y = qa / qb := by rw [hx, hy]; exact rat_div qa qb
 rw [he] at hlo
 rw [← hx, ← hy] at htab
 obtain ⟨q, hq'⟩ : ∃ q, q = qa / qb := ⟨_, rfl⟩
 rw [← hq'] at hlo ⊢
 clear hq' he zx zy hx hy z1 z2 z3 z4 ha hb h1 h2 h3 h4
 have HCA := zh hca; clear hca
 have HCB := zh hcb; clear hcb
 have HTAB := zh htab; clear htab
 have HLO := zh hlo; clear hlo
 go_enter Try.func59, Try.ntmps59
 go_wp2_with fail
 (try rw [← hw4])
 clear hw4
 (try simp only [Nat.add_assoc, Nat.reduceAdd])
 have HA := zh HA.out.drew
 have HB := zh HB.out.drew
 have HR := zh HR.out.drew
 have HBL := zh HBL.out.drew
 refine wp_region_held_drew (S := fun w' => w'.cell? ⟨w.heap.size, 0, none⟩ = some (.bool na) ∧ w'.cell? ⟨w.heap.size, 1, none⟩ = some (.string sa) ∧ w'.cell? ⟨w.heap.size, 2, none⟩ = some (.bool ma) ∧ w'.cell? ⟨w.heap.size, 3, none⟩ = some (.string ta) ∧ w'.cell? ⟨w.heap.size + 1, 0, none⟩ = some (.bool nb) ∧ w'.cell? ⟨w.heap.size + 1, 1, none⟩ = some (.string sb) ∧ w'.cell? ⟨w.heap.size + 1, 2, none⟩ = some (.bool mb) ∧ w'.cell? ⟨w.heap.size + 1, 3, none⟩ = some (.string tb)) (by kernel_rfl) ?_ (fun hHeld0 => ?_)
 ·
  go_keep
 refine zT 1 (h := ?_)
 (try simp only [Act.put, zA, zB, zC])
 refine zT 4 (h := ?_)
 (try simp only [Act.put, zA, zB, zC])
 refine zT 6 (h := ?_)
 (try simp only [Act.put, zA, zB, zC])
 refine zR 0 (h := fun K hK => ?_)
 go_simp
 go_at_call 74
 refine (table_any _).mono ?_
 rintro e w5 ⟨hq, rfl⟩
 dsimp only
 have z0 := zK hq HA.out.lt hHeld0.1
 have z1 := zK hq HA.out.lt hHeld0.2.1
 have z2 := zK hq HA.out.lt hHeld0.2.2.1
 have z3 := zK hq HA.out.lt hHeld0.2.2.2.1
 have z4 := zK hq HB.out.lt hHeld0.2.2.2.2.1
 have z5 := zK hq HB.out.lt hHeld0.2.2.2.2.2.1
 have z6 := zK hq HB.out.lt hHeld0.2.2.2.2.2.2.1
 have z7 := zK hq HB.out.lt hHeld0.2.2.2.2.2.2.2
 refine hK.out _ _ ⟨z0, z1, z2, z3, z4, z5, z6, z7⟩ (fun hHeld1 => ?_)
 clear hK K hHeld0 z0 z1 z2 z3 z4 z5 z6 z7
 (try simp only [Act.put, zA, zB, zC])
 have k_a := HA.out.keep hq
 have k_b := HB.out.keep hq
 have k_r := HR.out.keep hq
 have tl := HBL.out.trans ((hq).mono HBL.out.size)
 clear HBL HA HB HR
 clear a_0 a_f0 a_1 a_f1 a_2 a_f2 a_3 a_f3
 obtain ⟨a_0, a_f0, a_1, a_f1, a_2, a_f2, a_3, a_f3⟩ := k_a.f4
 have HA := zh k_a; clear k_a
 clear b_0 b_f0 b_1 b_f1 b_2 b_f2 b_3 b_f3
 obtain ⟨b_0, b_f0, b_1, b_f1, b_2, b_f2, b_3, b_f3⟩ := k_b.f4
 have HB := zh k_b; clear k_b
 clear r_0 r_f0 r_1 r_f1 r_2 r_f2 r_3 r_f3
 obtain ⟨r_0, r_f0, r_1, r_f1, r_2, r_f2, r_3, r_f3⟩ := k_r.f4
 have HR := zh k_r; clear k_r
 have HBL := zh tl; clear tl
 clear hq
 refine zT 2 (h := ?_)
 (try simp only [Act.put, zA, zB, zC])
 refine zT 3 (h := ?_)
 (try simp only [Act.put, zA, zB, zC])
 refine zR 5 (h := fun K hK => ?_)
 go_simp
 go_at_call 24
 refine (HCA.out _).mono ?_
 rintro e w6 ⟨hq, rfl⟩
 dsimp only
 have z0 := zK hq HA.out.lt hHeld1.1
 have z1 := zK hq HA.out.lt hHeld1.2.1
 have z2 := zK hq HA.out.lt hHeld1.2.2.1
 have z3 := zK hq HA.out.lt hHeld1.2.2.2.1
 have z4 := zK hq HB.out.lt hHeld1.2.2.2.2.1
 have z5 := zK hq HB.out.lt hHeld1.2.2.2.2.2.1
 have z6 := zK hq HB.out.lt hHeld1.2.2.2.2.2.2.1
 have z7 := zK hq HB.out.lt hHeld1.2.2.2.2.2.2.2
 refine hK.out _ _ ⟨z0, z1, z2, z3, z4, z5, z6, z7⟩ (fun hHeld2 => ?_)
 clear hK K hHeld1 z0 z1 z2 z3 z4 z5 z6 z7
 (try simp only [Act.put, zA, zB, zC])
 have k_a := HA.out.keep hq
 have k_b := HB.out.keep hq
 have k_r := HR.out.keep hq
 have tl := HBL.out.trans ((hq).mono HBL.out.size)
 clear HBL HA HB HR
 clear a_0 a_f0 a_1 a_f1 a_2 a_f2 a_3 a_f3
 obtain ⟨a_0, a_f0, a_1, a_f1, a_2, a_f2, a_3, a_f3⟩ := k_a.f4
 have HA := zh k_a; clear k_a
 clear b_0 b_f0 b_1 b_f1 b_2 b_f2 b_3 b_f3
 obtain ⟨b_0, b_f0, b_1, b_f1, b_2, b_f2, b_3, b_f3⟩ := k_b.f4
 have HB := zh k_b; clear k_b
 clear r_0 r_f0 r_1 r_f1 r_2 r_f2 r_3 r_f3
 obtain ⟨r_0, r_f0, r_1, r_f1, r_2, r_f2, r_3, r_f3⟩ := k_r.f4
 have HR := zh k_r; clear k_r
 have HBL := zh tl; clear tl
 clear hq
 refine zR 7 (h := fun K hK => ?_)
 go_simp
 go_at_call 24
 refine (HCB.out _).mono ?_
 rintro e w7 ⟨hq, rfl⟩
 dsimp only
 have z0 := zK hq HA.out.lt hHeld2.1
 have z1 := zK hq HA.out.lt hHeld2.2.1
 have z2 := zK hq HA.out.lt hHeld2.2.2.1
 have z3 := zK hq HA.out.lt hHeld2.2.2.2.1
 have z4 := zK hq HB.out.lt hHeld2.2.2.2.2.1
 have z5 := zK hq HB.out.lt hHeld2.2.2.2.2.2.1
 have z6 := zK hq HB.out.lt hHeld2.2.2.2.2.2.2.1
 have z7 := zK hq HB.out.lt hHeld2.2.2.2.2.2.2.2
 refine hK.out _ _ ⟨z0, z1, z2, z3, z4, z5, z6, z7⟩ (fun hHeld3 => ?_)
 clear hK K hHeld2 z0 z1 z2 z3 z4 z5 z6 z7
 (try simp only [Act.put, zA, zB, zC])
 have k_a := HA.out.keep hq
 have k_b := HB.out.keep hq
 have k_r := HR.out.keep hq
 have tl := HBL.out.trans ((hq).mono HBL.out.size)
 clear HBL HA HB HR
 clear a_0 a_f0 a_1 a_f1 a_2 a_f2 a_3 a_f3
 obtain ⟨a_0, a_f0, a_1, a_f1, a_2, a_f2, a_3, a_f3⟩ := k_a.f4
 have HA := zh k_a; clear k_a
 clear b_0 b_f0 b_1 b_f1 b_2 b_f2 b_3 b_f3
 obtain ⟨b_0, b_f0, b_1, b_f1, b_2, b_f2, b_3, b_f3⟩ := k_b.f4
 have HB := zh k_b; clear k_b
 clear r_0 r_f0 r_1 r_f1 r_2 r_f2 r_3 r_f3
 obtain ⟨r_0, r_f0, r_1, r_f1, r_2, r_f2, r_3, r_f3⟩ := k_r.f4
 have HR := zh k_r; clear k_r
 have HBL := zh tl; clear tl
 clear hq
 refine zR 8 (h := fun K hK => ?_)
 go_simp
 go_at_call 80
 refine (HTAB.out _).mono ?_
 rintro e w8 ⟨hq, rfl⟩
 dsimp only
 have z0 := zK hq HA.out.lt hHeld3.1
 have z1 := zK hq HA.out.lt hHeld3.2.1
 have z2 := zK hq HA.out.lt hHeld3.2.2.1
 have z3 := zK hq HA.out.lt hHeld3.2.2.2.1
 have z4 := zK hq HB.out.lt hHeld3.2.2.2.2.1
 have z5 := zK hq HB.out.lt hHeld3.2.2.2.2.2.1
 have z6 := zK hq HB.out.lt hHeld3.2.2.2.2.2.2.1
 have z7 := zK hq HB.out.lt hHeld3.2.2.2.2.2.2.2
 refine hK.out _ _ ⟨z0, z1, z2, z3, z4, z5, z6, z7⟩ (fun hHeld4 => ?_)
 clear hK K hHeld3 z0 z1 z2 z3 z4 z5 z6 z7
 (try simp only [Act.put, zA, zB, zC])
 have k_a := HA.out.keep hq
 have k_b := HB.out.keep hq
 have k_r := HR.out.keep hq
 have tl := HBL.out.trans ((hq).mono HBL.out.size)
 clear HBL HA HB HR
 clear a_0 a_f0 a_1 a_f1 a_2 a_f2 a_3 a_f3
 obtain ⟨a_0, a_f0, a_1, a_f1, a_2, a_f2, a_3, a_f3⟩ := k_a.f4
 have HA := zh k_a; clear k_a
 clear b_0 b_f0 b_1 b_f1 b_2 b_f2 b_3 b_f3
 obtain ⟨b_0, b_f0, b_1, b_f1, b_2, b_f2, b_3, b_f3⟩ := k_b.f4
 have HB := zh k_b; clear k_b
 clear r_0 r_f0 r_1 r_f1 r_2 r_f2 r_3 r_f3
 obtain ⟨r_0, r_f0, r_1, r_f1, r_2, r_f2, r_3, r_f3⟩ := k_r.f4
 have HR := zh k_r; clear k_r
 have HBL := zh tl; clear tl
 clear hq
 refine zT 9 (h := ?_)
 (try simp only [Act.put, zA, zB, zC])
 refine zT 10 (h := ?_)
 (try simp only [Act.put, zA, zB, zC])
 refine zR 11 (h := fun K hK => ?_)
 go_simp
 go_at_call 46
 refine (HLO.out _).mono ?_
 rintro e w9 ⟨hq, rfl⟩
 dsimp only
 have z0 := zK hq HA.out.lt hHeld4.1
 have z1 := zK hq HA.out.lt hHeld4.2.1
 have z2 := zK hq HA.out.lt hHeld4.2.2.1
 have z3 := zK hq HA.out.lt hHeld4.2.2.2.1
 have z4 := zK hq HB.out.lt hHeld4.2.2.2.2.1
 have z5 := zK hq HB.out.lt hHeld4.2.2.2.2.2.1
 have z6 := zK hq HB.out.lt hHeld4.2.2.2.2.2.2.1
 have z7 := zK hq HB.out.lt hHeld4.2.2.2.2.2.2.2
 refine hK.out _ _ ⟨z0, z1, z2, z3, z4, z5, z6, z7⟩ (fun hHeld5 => ?_)
 clear hK K hHeld4 z0 z1 z2 z3 z4 z5 z6 z7
 (try simp only [Act.put, zA, zB, zC])
 have k_a := HA.out.keep hq
 have k_b := HB.out.keep hq
 have k_r := HR.out.keep hq
 have tl := HBL.out.trans ((hq).mono HBL.out.size)
 clear HBL HA HB HR
 clear a_0 a_f0 a_1 a_f1 a_2 a_f2 a_3 a_f3
 obtain ⟨a_0, a_f0, a_1, a_f1, a_2, a_f2, a_3, a_f3⟩ := k_a.f4
 have HA := zh k_a; clear k_a
 clear b_0 b_f0 b_1 b_f1 b_2 b_f2 b_3 b_f3
 obtain ⟨b_0, b_f0, b_1, b_f1, b_2, b_f2, b_3, b_f3⟩ := k_b.f4
 have HB := zh k_b; clear k_b
 clear r_0 r_f0 r_1 r_f1 r_2 r_f2 r_3 r_f3
 obtain ⟨r_0, r_f0, r_1, r_f1, r_2, r_f2, r_3, r_f3⟩ := k_r.f4
 have HR := zh k_r; clear k_r
 have HBL := zh tl; clear tl
 clear hq
 refine zR 12 (h := fun K hK => ?_)
 go_simp
 refine hK.out _ _ ?_ (fun hHeld6 => ?_)
 ·
  ((try dsimp only); go_keep)
 clear hK K
 (try simp only [Act.put, zA, zB, zC])
 refine wpAnyH_done (by kernel_rfl) ?_ _
 (try simp only [List.getElem_toArray, List.getElem_cons_zero, List.getElem_cons_succ, Act.put, zA, zB, zC])
 go_wp2_with fail
 have hrv : RatV q = .agg #[.bool (ineg q.num), .string (imag q.num), .bool (ineg (q.den : Int)), .string (imag (q.den : Int))] := rfl
 have kz := ((((HR.out.set 0 (.bool (ineg q.num))).set 1 (.string (imag q.num))).set 2 (.bool (ineg (q.den : Int)))).set 3 (.string (imag (q.den : Int))))
 have sz := ((((HBL.out.setCell (p := ⟨w.heap.size + 2, 0, none⟩) (by show w.heap.size ≤ w.heap.size + 2; omega) (.bool (ineg q.num))).setCell (p := ⟨w.heap.size + 2, 1, none⟩) (by show w.heap.size ≤ w.heap.size + 2; omega) (.string (imag q.num))).setCell (p := ⟨w.heap.size + 2, 2, none⟩) (by show w.heap.size ≤ w.heap.size + 2; omega) (.bool (ineg (q.den : Int)))).setCell (p := ⟨w.heap.size + 2, 3, none⟩) (by show w.heap.size ≤ w.heap.size + 2; omega) (.string (imag (q.den : Int))))
 have e0 := kz.c 0 rfl
 have e1 := kz.c 1 rfl
 have e2 := kz.c 2 rfl
 have e3 := kz.c 3 rfl
 refine bodyPost_ret (v := RatV q) (by rw [hrv]; simp [results, Try.results59, go_sem, e0, e1, e2, e3]) rfl ⟨sz, rfl⟩
set_option maxRecDepth 100000 in
set_option maxHeartbeats 3200000 in
theorem radd_anyQ (na ma : Bool) (sa ta : ByteArray) (nb mb : Bool) (sb tb : ByteArray) (w : World) (h1 : sa.size ≤ 20000000000) (h2 : ta.size ≤ 20000000000) (h3 : sb.size ≤ 20000000000) (h4 : tb.size ≤ 20000000000) :
  Calls Try.prog 38 #[.agg #[.bool na, .string sa, .bool ma, .string ta], .agg #[.bool nb, .string sb, .bool mb, .string tb]] w (Ret w (RatV (Rat.divInt (ival na sa) (ival ma ta) + Rat.divInt (ival nb sb) (ival mb tb)))) := by
 obtain ⟨w4, hw4⟩ : ∃ w4, w4 = ((w.alloc (.cells #[.bool na, .string sa, .bool ma, .string ta] 35)).alloc (.cells #[.bool nb, .string sb, .bool mb, .string tb] 35)).alloc (.cells #[.bool false, .string ⟨#[]⟩, .bool false, .string ⟨#[]⟩] 35) := ⟨_, rfl⟩
 have k_a : Blk w4 (w.heap.size) 35 [.bool na, .string sa, .bool ma, .string ta] := by
  rw [hw4]
  have h := (((Blk.new (w) 35 [.bool na, .string sa, .bool ma, .string ta]).alloc (.cells #[.bool nb, .string sb, .bool mb, .string tb] 35)).alloc (.cells #[.bool false, .string ⟨#[]⟩, .bool false, .string ⟨#[]⟩] 35))
  (try simp only [World.size_alloc, Nat.add_assoc, Nat.reduceAdd] at h)
  exact h
 have k_b : Blk w4 (w.heap.size + 1) 35 [.bool nb, .string sb, .bool mb, .string tb] := by
  rw [hw4]
  have h := ((Blk.new (w.alloc (.cells #[.bool na, .string sa, .bool ma, .string ta] 35)) 35 [.bool nb, .string sb, .bool mb, .string tb]).alloc (.cells #[.bool false, .string ⟨#[]⟩, .bool false, .string ⟨#[]⟩] 35))
  (try simp only [World.size_alloc, Nat.add_assoc, Nat.reduceAdd] at h)
  exact h
 have k_r : Blk w4 (w.heap.size + 2) 35 [.bool false, .string ⟨#[]⟩, .bool false, .string ⟨#[]⟩] := by
  rw [hw4]
  have h := (Blk.new ((w.alloc (.cells #[.bool na, .string sa, .bool ma, .string ta] 35)).alloc (.cells #[.bool nb, .string sb, .bool mb, .string tb] 35)) 35 [.bool false, .string ⟨#[]⟩, .bool false, .string ⟨#[]⟩])
  (try simp only [World.size_alloc, Nat.add_assoc, Nat.reduceAdd] at h)
  exact h
 have tl : Below w.heap.size w w4 := by
  rw [hw4]
  exact ((((Below.refl w.heap.size w).alloc (by simp <;> omega) (.cells #[.bool na, .string sa, .bool ma, .string ta] 35)).alloc (by simp <;> omega) (.cells #[.bool nb, .string sb, .bool mb, .string tb] 35)).alloc (by simp <;> omega) (.cells #[.bool false, .string ⟨#[]⟩, .bool false, .string ⟨#[]⟩] 35))
 have hs4 : w4.heap.size = w.heap.size + 3 := by rw [hw4]; simp only [World.size_alloc]
 obtain ⟨a_0, a_f0, a_1, a_f1, a_2, a_f2, a_3, a_f3⟩ := k_a.f4
 have HA := zh k_a; clear k_a
 obtain ⟨b_0, b_f0, b_1, b_f1, b_2, b_f2, b_3, b_f3⟩ := k_b.f4
 have HB := zh k_b; clear k_b
 obtain ⟨r_0, r_f0, r_1, r_f1, r_2, r_f2, r_3, r_f3⟩ := k_r.f4
 have HR := zh k_r; clear k_r
 have HBL := zh tl; clear tl
 have hdo := fun w' => do0_any na ma sa ta nb mb sb tb w' h1 h2 h3 h4
 obtain ⟨q, hq'⟩ : ∃ q, q = Rat.divInt (ival na sa) (ival ma ta) + Rat.divInt (ival nb sb) (ival mb tb) := ⟨_, rfl⟩
 rw [← hq'] at hdo ⊢
 clear hq' h1 h2 h3 h4
 have HDO := zh hdo; clear hdo
 go_enter Try.func38, Try.ntmps38
 go_wp2_with fail
 (try rw [← hw4])
 clear hw4
 (try simp only [Nat.add_assoc, Nat.reduceAdd])
 refine (HDO.out _).mono ?_
 rintro e w5 ⟨hq, rfl⟩
 dsimp only
 have k_a := HA.out.keep hq
 have k_b := HB.out.keep hq
 have k_r := HR.out.keep hq
 have tl := HBL.out.trans ((hq).mono HBL.out.size)
 clear HBL HA HB HR
 clear a_0 a_f0 a_1 a_f1 a_2 a_f2 a_3 a_f3
 obtain ⟨a_0, a_f0, a_1, a_f1, a_2, a_f2, a_3, a_f3⟩ := k_a.f4
 have HA := zh k_a; clear k_a
 clear b_0 b_f0 b_1 b_f1 b_2 b_f2 b_3 b_f3
 obtain ⟨b_0, b_f0, b_1, b_f1, b_2, b_f2, b_3, b_f3⟩ := k_b.f4
 have HB := zh k_b; clear k_b
 clear r_0 r_f0 r_1 r_f1 r_2 r_f2 r_3 r_f3
 obtain ⟨r_0, r_f0, r_1, r_f1, r_2, r_f2, r_3, r_f3⟩ := k_r.f4
 have HR := zh k_r; clear k_r
 have HBL := zh tl; clear tl
 clear hq
 go_wp2_with fail
 have hrv : RatV q = .agg #[.bool (ineg q.num), .string (imag q.num), .bool (ineg (q.den : Int)), .string (imag (q.den : Int))] := rfl
 have kz := ((((HR.out.set 0 (.bool (ineg q.num))).set 1 (.string (imag q.num))).set 2 (.bool (ineg (q.den : Int)))).set 3 (.string (imag (q.den : Int))))
 have sz := ((((HBL.out.setCell (p := ⟨w.heap.size + 2, 0, none⟩) (by show w.heap.size ≤ w.heap.size + 2; omega) (.bool (ineg q.num))).setCell (p := ⟨w.heap.size + 2, 1, none⟩) (by show w.heap.size ≤ w.heap.size + 2; omega) (.string (imag q.num))).setCell (p := ⟨w.heap.size + 2, 2, none⟩) (by show w.heap.size ≤ w.heap.size + 2; omega) (.bool (ineg (q.den : Int)))).setCell (p := ⟨w.heap.size + 2, 3, none⟩) (by show w.heap.size ≤ w.heap.size + 2; omega) (.string (imag (q.den : Int))))
 have e0 := kz.c 0 rfl
 have e1 := kz.c 1 rfl
 have e2 := kz.c 2 rfl
 have e3 := kz.c 3 rfl
 refine bodyPost_ret (v := RatV q) (by rw [hrv]; simp [results, Try.results38, go_sem, e0, e1, e2, e3]) rfl ⟨sz, rfl⟩
set_option maxRecDepth 100000 in
set_option maxHeartbeats 3200000 in
theorem rsub_anyQ (na ma : Bool) (sa ta : ByteArray) (nb mb : Bool) (sb tb : ByteArray) (w : World) (h1 : sa.size ≤ 20000000000) (h2 : ta.size ≤ 20000000000) (h3 : sb.size ≤ 20000000000) (h4 : tb.size ≤ 20000000000) :
  Calls Try.prog 37 #[.agg #[.bool na, .string sa, .bool ma, .string ta], .agg #[.bool nb, .string sb, .bool mb, .string tb]] w (Ret w (RatV (Rat.divInt (ival na sa) (ival ma ta) - Rat.divInt (ival nb sb) (ival mb tb)))) := by
 obtain ⟨w4, hw4⟩ : ∃ w4, w4 = ((w.alloc (.cells #[.bool na, .string sa, .bool ma, .string ta] 35)).alloc (.cells #[.bool nb, .string sb, .bool mb, .string tb] 35)).alloc (.cells #[.bool false, .string ⟨#[]⟩, .bool false, .string ⟨#[]⟩] 35) := ⟨_, rfl⟩
 have k_a : Blk w4 (w.heap.size) 35 [.bool na, .string sa, .bool ma, .string ta] := by
  rw [hw4]
  have h := (((Blk.new (w) 35 [.bool na, .string sa, .bool ma, .string ta]).alloc (.cells #[.bool nb, .string sb, .bool mb, .string tb] 35)).alloc (.cells #[.bool false, .string ⟨#[]⟩, .bool false, .string ⟨#[]⟩] 35))
  (try simp only [World.size_alloc, Nat.add_assoc, Nat.reduceAdd] at h)
  exact h
 have k_b : Blk w4 (w.heap.size + 1) 35 [.bool nb, .string sb, .bool mb, .string tb] := by
  rw [hw4]
  have h := ((Blk.new (w.alloc (.cells #[.bool na, .string sa, .bool ma, .string ta] 35)) 35 [.bool nb, .string sb, .bool mb, .string tb]).alloc (.cells #[.bool false, .string ⟨#[]⟩, .bool false, .string ⟨#[]⟩] 35))
  (try simp only [World.size_alloc, Nat.add_assoc, Nat.reduceAdd] at h)
  exact h
 have k_r : Blk w4 (w.heap.size + 2) 35 [.bool false, .string ⟨#[]⟩, .bool false, .string ⟨#[]⟩] := by
  rw [hw4]
  have h := (Blk.new ((w.alloc (.cells #[.bool na, .string sa, .bool ma, .string ta] 35)).alloc (.cells #[.bool nb, .string sb, .bool mb, .string tb] 35)) 35 [.bool false, .string ⟨#[]⟩, .bool false, .string ⟨#[]⟩])
  (try simp only [World.size_alloc, Nat.add_assoc, Nat.reduceAdd] at h)
  exact h
 have tl : Below w.heap.size w w4 := by
  rw [hw4]
  exact ((((Below.refl w.heap.size w).alloc (by simp <;> omega) (.cells #[.bool na, .string sa, .bool ma, .string ta] 35)).alloc (by simp <;> omega) (.cells #[.bool nb, .string sb, .bool mb, .string tb] 35)).alloc (by simp <;> omega) (.cells #[.bool false, .string ⟨#[]⟩, .bool false, .string ⟨#[]⟩] 35))
 have hs4 : w4.heap.size = w.heap.size + 3 := by rw [hw4]; simp only [World.size_alloc]
 obtain ⟨a_0, a_f0, a_1, a_f1, a_2, a_f2, a_3, a_f3⟩ := k_a.f4
 have HA := zh k_a; clear k_a
 obtain ⟨b_0, b_f0, b_1, b_f1, b_2, b_f2, b_3, b_f3⟩ := k_b.f4
 have HB := zh k_b; clear k_b
 obtain ⟨r_0, r_f0, r_1, r_f1, r_2, r_f2, r_3, r_f3⟩ := k_r.f4
 have HR := zh k_r; clear k_r
 have HBL := zh tl; clear tl
 have hdo := fun w' => do1_any na ma sa ta nb mb sb tb w' h1 h2 h3 h4
 obtain ⟨q, hq'⟩ : ∃ q, q = Rat.divInt (ival na sa) (ival ma ta) - Rat.divInt (ival nb sb) (ival mb tb) := ⟨_, rfl⟩
 rw [← hq'] at hdo ⊢
 clear hq' h1 h2 h3 h4
 have HDO := zh hdo; clear hdo
 go_enter Try.func37, Try.ntmps37
 go_wp2_with fail
 (try rw [← hw4])
 clear hw4
 (try simp only [Nat.add_assoc, Nat.reduceAdd])
 refine (HDO.out _).mono ?_
 rintro e w5 ⟨hq, rfl⟩
 dsimp only
 have k_a := HA.out.keep hq
 have k_b := HB.out.keep hq
 have k_r := HR.out.keep hq
 have tl := HBL.out.trans ((hq).mono HBL.out.size)
 clear HBL HA HB HR
 clear a_0 a_f0 a_1 a_f1 a_2 a_f2 a_3 a_f3
 obtain ⟨a_0, a_f0, a_1, a_f1, a_2, a_f2, a_3, a_f3⟩ := k_a.f4
 have HA := zh k_a; clear k_a
 clear b_0 b_f0 b_1 b_f1 b_2 b_f2 b_3 b_f3
 obtain ⟨b_0, b_f0, b_1, b_f1, b_2, b_f2, b_3, b_f3⟩ := k_b.f4
 have HB := zh k_b; clear k_b
 clear r_0 r_f0 r_1 r_f1 r_2 r_f2 r_3 r_f3
 obtain ⟨r_0, r_f0, r_1, r_f1, r_2, r_f2, r_3, r_f3⟩ := k_r.f4
 have HR := zh k_r; clear k_r
 have HBL := zh tl; clear tl
 clear hq
 go_wp2_with fail
 have hrv : RatV q = .agg #[.bool (ineg q.num), .string (imag q.num), .bool (ineg (q.den : Int)), .string (imag (q.den : Int))] := rfl
 have kz := ((((HR.out.set 0 (.bool (ineg q.num))).set 1 (.string (imag q.num))).set 2 (.bool (ineg (q.den : Int)))).set 3 (.string (imag (q.den : Int))))
 have sz := ((((HBL.out.setCell (p := ⟨w.heap.size + 2, 0, none⟩) (by show w.heap.size ≤ w.heap.size + 2; omega) (.bool (ineg q.num))).setCell (p := ⟨w.heap.size + 2, 1, none⟩) (by show w.heap.size ≤ w.heap.size + 2; omega) (.string (imag q.num))).setCell (p := ⟨w.heap.size + 2, 2, none⟩) (by show w.heap.size ≤ w.heap.size + 2; omega) (.bool (ineg (q.den : Int)))).setCell (p := ⟨w.heap.size + 2, 3, none⟩) (by show w.heap.size ≤ w.heap.size + 2; omega) (.string (imag (q.den : Int))))
 have e0 := kz.c 0 rfl
 have e1 := kz.c 1 rfl
 have e2 := kz.c 2 rfl
 have e3 := kz.c 3 rfl
 refine bodyPost_ret (v := RatV q) (by rw [hrv]; simp [results, Try.results37, go_sem, e0, e1, e2, e3]) rfl ⟨sz, rfl⟩
end Go.Proofs.Ytjpalbonclgflaa

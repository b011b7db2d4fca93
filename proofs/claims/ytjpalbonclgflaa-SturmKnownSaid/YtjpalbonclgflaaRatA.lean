/- rational.canonical and the like, at any numbers (printed by gen_rops.py). -/
import Derived.Test.YtjpalbonclgflaaRat
namespace Go.Proofs.Ytjpalbonclgflaa
open Go.RowKit

def zs (m : Nat) (z : Int) : Prop := z.natAbs < 256 ^ m
theorem zs.size {m : Nat} {z : Int} (h : zs m z) : (imag z).size ≤ m := by rw [imag_size]; exact bb_length_le h
theorem zs.mono {m k : Nat} {z : Int} (h : zs m z) (hk : m ≤ k) : zs k z := Nat.lt_of_lt_of_le h (Nat.pow_le_pow_right (by decide) hk)
theorem zs.neg {m : Nat} {z : Int} (h : zs m z) : zs m (-z) := by unfold zs; rw [Int.natAbs_neg]; exact h
theorem zs.mul {m k : Nat} {x y : Int} (h : zs m x) (h' : zs k y) : zs (m + k) (x * y) := by
 unfold zs at *; rw [Int.natAbs_mul, Nat.pow_add]; exact Nat.mul_lt_mul'' h h'
theorem zs.add {m : Nat} {x y : Int} (h : zs m x) (h' : zs m y) : zs (m + 1) (x + y) := by
 unfold zs at *; rw [Nat.pow_succ]; have := Int.natAbs_add_le x y; omega
theorem zs.sub {m : Nat} {x y : Int} (h : zs m x) (h' : zs m y) : zs (m + 1) (x - y) := by rw [Int.sub_eq_add_neg]; exact h.add h'.neg
theorem zs_of {z : Int} {m : Nat} (h : (imag z).size ≤ m) : zs m z := by
 rw [imag_size] at h
 have := bval_lt (bb z.natAbs)
 rw [bval_bb] at this
 exact Nat.lt_of_lt_of_le this (Nat.pow_le_pow_right (by decide) h)
theorem ival_sized {s : ByteArray} {m : Nat} (h : s.size ≤ m) (n : Bool) : zs m (ival n s) := zs_of (Nat.le_trans (imag_size_ival n s) h)
def rs (m : Nat) (q : Rat) : Prop := zs m q.num ∧ zs m (q.den : Int)
theorem divInt_sized {n d : Int} {m : Nat} (hn : zs m n) (hd : zs m d) (hm : 1 ≤ m) : rs m (Rat.divInt n d) := by
 constructor
 ·
  unfold zs at *
  rw [Rat.num_divInt]
  refine Nat.lt_of_le_of_lt ?_ hn
  refine Nat.le_trans (Int.natAbs_ediv_le_natAbs _ _) ?_
  rw [Int.natAbs_mul]
  rcases Int.lt_trichotomy d 0 with h | h | h
  ·
   rw [Int.sign_eq_neg_one_of_neg h]; simp
  ·
   rw [h]; simp
  ·
   rw [Int.sign_eq_one_of_pos h]; simp
 ·
  unfold zs at *
  rw [Rat.den_divInt]
  split
  ·
   have : (256 : Nat) ^ 1 ≤ 256 ^ m := Nat.pow_le_pow_right (by decide) hm
   simp; omega
  ·
   rw [Int.natAbs_natCast]
   exact Nat.lt_of_le_of_lt (Nat.div_le_self _ _) hd

set_option maxRecDepth 100000 in
set_option maxHeartbeats 3200000 in
theorem canonical_any (na ma : Bool) (sa ta : ByteArray) (w : World) (hs : sa.size ≤ 100000000000) (ht : ta.size ≤ 100000000000) :
  Calls Try.prog 24 #[.agg #[.bool na, .string sa, .bool ma, .string ta]] w (Ret w (RatV (Rat.divInt (ival na sa) (ival ma ta)))) := by
 obtain ⟨w4, hw4⟩ : ∃ w4, w4 = (w.alloc (.cells #[.bool na, .string sa, .bool ma, .string ta] 35)).alloc (.cells #[.bool false, .string ⟨#[]⟩, .bool false, .string ⟨#[]⟩] 35) := ⟨_, rfl⟩
 have k_a : Blk w4 (w.heap.size) 35 [.bool na, .string sa, .bool ma, .string ta] := by
  rw [hw4]
  have h := ((Blk.new (w) 35 [.bool na, .string sa, .bool ma, .string ta]).alloc (.cells #[.bool false, .string ⟨#[]⟩, .bool false, .string ⟨#[]⟩] 35))
  (try simp only [World.size_alloc, Nat.add_assoc, Nat.reduceAdd] at h)
  exact h
 have k_r : Blk w4 (w.heap.size + 1) 35 [.bool false, .string ⟨#[]⟩, .bool false, .string ⟨#[]⟩] := by
  rw [hw4]
  have h := (Blk.new (w.alloc (.cells #[.bool na, .string sa, .bool ma, .string ta] 35)) 35 [.bool false, .string ⟨#[]⟩, .bool false, .string ⟨#[]⟩])
  (try simp only [World.size_alloc, Nat.add_assoc, Nat.reduceAdd] at h)
  exact h
 have tl : Below w.heap.size w w4 := by
  rw [hw4]
  exact (((Below.refl w.heap.size w).alloc (by simp <;> omega) (.cells #[.bool na, .string sa, .bool ma, .string ta] 35)).alloc (by simp <;> omega) (.cells #[.bool false, .string ⟨#[]⟩, .bool false, .string ⟨#[]⟩] 35))
 have hs4 : w4.heap.size = w.heap.size + 2 := by rw [hw4]; simp only [World.size_alloc]
 obtain ⟨a_0, a_f0, a_1, a_f1, a_2, a_f2, a_3, a_f3⟩ := k_a.f4
 have HA := zh k_a; clear k_a
 obtain ⟨r_0, r_f0, r_1, r_f1, r_2, r_f2, r_3, r_f3⟩ := k_r.f4
 have HR := zh k_r; clear k_r
 have HBL := zh tl; clear tl
 obtain ⟨q, hq'⟩ : ∃ q, q = Rat.divInt (ival na sa) (ival ma ta) := ⟨_, rfl⟩
 have hl := fun w' => lowest_any na ma sa ta w' hs ht
 rw [← hq'] at hl ⊢
 clear hq' hs ht
 have HL := zh hl; clear hl
 go_enter Try.func24, Try.ntmps24
 go_wp2_with fail
 (try rw [← hw4])
 clear hw4
 (try simp only [Nat.add_assoc, Nat.reduceAdd])
 refine (HL.out _).mono ?_
 rintro e w5 ⟨hq, rfl⟩
 dsimp only
 have k_a := HA.out.keep hq
 have k_r := HR.out.keep hq
 have tl := HBL.out.trans ((hq).mono HBL.out.size)
 clear HBL HA HR
 clear a_0 a_f0 a_1 a_f1 a_2 a_f2 a_3 a_f3
 obtain ⟨a_0, a_f0, a_1, a_f1, a_2, a_f2, a_3, a_f3⟩ := k_a.f4
 have HA := zh k_a; clear k_a
 clear r_0 r_f0 r_1 r_f1 r_2 r_f2 r_3 r_f3
 obtain ⟨r_0, r_f0, r_1, r_f1, r_2, r_f2, r_3, r_f3⟩ := k_r.f4
 have HR := zh k_r; clear k_r
 have HBL := zh tl; clear tl
 clear hq
 go_wp2_with fail
 have hrv : RatV q = .agg #[.bool (ineg q.num), .string (imag q.num), .bool (ineg (q.den : Int)), .string (imag (q.den : Int))] := rfl
 have kz := ((((HR.out.set 0 (.bool (ineg q.num))).set 1 (.string (imag q.num))).set 2 (.bool (ineg (q.den : Int)))).set 3 (.string (imag (q.den : Int))))
 have sz := ((((HBL.out.setCell (p := ⟨w.heap.size + 1, 0, none⟩) (by show w.heap.size ≤ w.heap.size + 1; omega) (.bool (ineg q.num))).setCell (p := ⟨w.heap.size + 1, 1, none⟩) (by show w.heap.size ≤ w.heap.size + 1; omega) (.string (imag q.num))).setCell (p := ⟨w.heap.size + 1, 2, none⟩) (by show w.heap.size ≤ w.heap.size + 1; omega) (.bool (ineg (q.den : Int)))).setCell (p := ⟨w.heap.size + 1, 3, none⟩) (by show w.heap.size ≤ w.heap.size + 1; omega) (.string (imag (q.den : Int))))
 have e0 := kz.c 0 rfl
 have e1 := kz.c 1 rfl
 have e2 := kz.c 2 rfl
 have e3 := kz.c 3 rfl
 refine bodyPost_ret (v := RatV q) (by rw [hrv]; simp [results, Try.results24, go_sem, e0, e1, e2, e3]) rfl ⟨sz, rfl⟩
set_option maxRecDepth 100000 in
set_option maxHeartbeats 3200000 in
theorem qof_any (n : Bool) (s : ByteArray) (w : World) (hs : s.size ≤ 100000000000) :
  Calls Try.prog 29 #[.agg #[.bool n, .string s]] w (Ret w (RatV (Rat.divInt (ival n s) 1))) := by
 obtain ⟨w4, hw4⟩ : ∃ w4, w4 = (w.alloc (.cells #[.bool n, .string s] 33)).alloc (.cells #[.bool false, .string ⟨#[]⟩, .bool false, .string ⟨#[]⟩] 35) := ⟨_, rfl⟩
 have k_a : Blk w4 (w.heap.size) 33 [.bool n, .string s] := by
  rw [hw4]
  have h := ((Blk.new (w) 33 [.bool n, .string s]).alloc (.cells #[.bool false, .string ⟨#[]⟩, .bool false, .string ⟨#[]⟩] 35))
  (try simp only [World.size_alloc, Nat.add_assoc, Nat.reduceAdd] at h)
  exact h
 have k_r : Blk w4 (w.heap.size + 1) 35 [.bool false, .string ⟨#[]⟩, .bool false, .string ⟨#[]⟩] := by
  rw [hw4]
  have h := (Blk.new (w.alloc (.cells #[.bool n, .string s] 33)) 35 [.bool false, .string ⟨#[]⟩, .bool false, .string ⟨#[]⟩])
  (try simp only [World.size_alloc, Nat.add_assoc, Nat.reduceAdd] at h)
  exact h
 have tl : Below w.heap.size w w4 := by
  rw [hw4]
  exact (((Below.refl w.heap.size w).alloc (by simp <;> omega) (.cells #[.bool n, .string s] 33)).alloc (by simp <;> omega) (.cells #[.bool false, .string ⟨#[]⟩, .bool false, .string ⟨#[]⟩] 35))
 have hs4 : w4.heap.size = w.heap.size + 2 := by rw [hw4]; simp only [World.size_alloc]
 obtain ⟨a_0, a_f0, a_1, a_f1⟩ := k_a.f2
 have HA := zh k_a; clear k_a
 obtain ⟨r_0, r_f0, r_1, r_f1, r_2, r_f2, r_3, r_f3⟩ := k_r.f4
 have HR := zh k_r; clear k_r
 have HBL := zh tl; clear tl
 obtain ⟨q, hq'⟩ : ∃ q, q = Rat.divInt (ival n s) 1 := ⟨_, rfl⟩
 have hl := fun w' => lowest_any n (ineg 1) s (imag 1) w' hs (by rw [imag_size]; exact Nat.le_trans (bb_length_le (m := 1) (by decide)) (by decide))
 rw [ival_canon, ← hq'] at hl
 rw [← hq']
 have ho := fun w' => iof_any 1 w' (by decide) (by decide)
 clear hq' hs
 have HL := zh hl; clear hl
 have HO := zh ho; clear ho
 go_enter Try.func29, Try.ntmps29
 go_wp2_with fail
 (try rw [← hw4])
 clear hw4
 (try simp only [Nat.add_assoc, Nat.reduceAdd])
 have HA := zh HA.out.drew
 have HR := zh HR.out.drew
 have HBL := zh HBL.out.drew
 refine wp_region_held_drew (S := fun w' => w'.cell? ⟨w.heap.size, 0, none⟩ = some (.bool n) ∧ w'.cell? ⟨w.heap.size, 1, none⟩ = some (.string s)) (by kernel_rfl) ?_ (fun hHeld0 => ?_)
 ·
  go_keep
 refine zT 0 (h := ?_)
 (try simp only [Act.put, zA, zB, zC])
 refine zR 1 (h := fun K hK => ?_)
 go_simp
 go_at_call 16
 refine (HO.out _).mono ?_
 rintro e w5 ⟨hq, rfl⟩
 dsimp only
 have z0 := zK hq HA.out.lt hHeld0.1
 have z1 := zK hq HA.out.lt hHeld0.2
 refine hK.out _ _ ⟨z0, z1⟩ (fun hHeld1 => ?_)
 clear hK K hHeld0 z0 z1
 (try simp only [Act.put, zA, zB, zC])
 have k_a := HA.out.keep hq
 have k_r := HR.out.keep hq
 have tl := HBL.out.trans ((hq).mono HBL.out.size)
 clear HBL HA HR
 clear a_0 a_f0 a_1 a_f1
 obtain ⟨a_0, a_f0, a_1, a_f1⟩ := k_a.f2
 have HA := zh k_a; clear k_a
 clear r_0 r_f0 r_1 r_f1 r_2 r_f2 r_3 r_f3
 obtain ⟨r_0, r_f0, r_1, r_f1, r_2, r_f2, r_3, r_f3⟩ := k_r.f4
 have HR := zh k_r; clear k_r
 have HBL := zh tl; clear tl
 clear hq
 refine zR 2 (h := fun K hK => ?_)
 go_simp
 go_at_call 46
 refine (HL.out _).mono ?_
 rintro e w6 ⟨hq, rfl⟩
 dsimp only
 have z0 := zK hq HA.out.lt hHeld1.1
 have z1 := zK hq HA.out.lt hHeld1.2
 refine hK.out _ _ ⟨z0, z1⟩ (fun hHeld2 => ?_)
 clear hK K hHeld1 z0 z1
 (try simp only [Act.put, zA, zB, zC])
 have k_a := HA.out.keep hq
 have k_r := HR.out.keep hq
 have tl := HBL.out.trans ((hq).mono HBL.out.size)
 clear HBL HA HR
 clear a_0 a_f0 a_1 a_f1
 obtain ⟨a_0, a_f0, a_1, a_f1⟩ := k_a.f2
 have HA := zh k_a; clear k_a
 clear r_0 r_f0 r_1 r_f1 r_2 r_f2 r_3 r_f3
 obtain ⟨r_0, r_f0, r_1, r_f1, r_2, r_f2, r_3, r_f3⟩ := k_r.f4
 have HR := zh k_r; clear k_r
 have HBL := zh tl; clear tl
 clear hq
 refine zR 3 (h := fun K hK => ?_)
 go_simp
 refine hK.out _ _ ?_ (fun hHeld3 => ?_)
 ·
  ((try dsimp only); go_keep)
 clear hK K
 (try simp only [Act.put, zA, zB, zC])
 refine wpAnyH_done (by kernel_rfl) ?_ _
 (try simp only [List.getElem_toArray, List.getElem_cons_zero, List.getElem_cons_succ, Act.put, zA, zB, zC])
 go_wp2_with fail
 have hrv : RatV q = .agg #[.bool (ineg q.num), .string (imag q.num), .bool (ineg (q.den : Int)), .string (imag (q.den : Int))] := rfl
 have kz := ((((HR.out.set 0 (.bool (ineg q.num))).set 1 (.string (imag q.num))).set 2 (.bool (ineg (q.den : Int)))).set 3 (.string (imag (q.den : Int))))
 have sz := ((((HBL.out.setCell (p := ⟨w.heap.size + 1, 0, none⟩) (by show w.heap.size ≤ w.heap.size + 1; omega) (.bool (ineg q.num))).setCell (p := ⟨w.heap.size + 1, 1, none⟩) (by show w.heap.size ≤ w.heap.size + 1; omega) (.string (imag q.num))).setCell (p := ⟨w.heap.size + 1, 2, none⟩) (by show w.heap.size ≤ w.heap.size + 1; omega) (.bool (ineg (q.den : Int)))).setCell (p := ⟨w.heap.size + 1, 3, none⟩) (by show w.heap.size ≤ w.heap.size + 1; omega) (.string (imag (q.den : Int))))
 have e0 := kz.c 0 rfl
 have e1 := kz.c 1 rfl
 have e2 := kz.c 2 rfl
 have e3 := kz.c 3 rfl
 refine bodyPost_ret (v := RatV q) (by rw [hrv]; simp [results, Try.results29, go_sem, e0, e1, e2, e3]) rfl ⟨sz, rfl⟩
set_option maxRecDepth 100000 in
set_option maxHeartbeats 3200000 in
theorem qnew_any (n m : Bool) (s t : ByteArray) (w : World) (hs : s.size ≤ 100000000000) (ht : t.size ≤ 100000000000) (hd : ival m t ≠ 0) :
  Calls Try.prog 45 #[.agg #[.bool n, .string s], .agg #[.bool m, .string t]] w (Ret w (.tuple #[RatV (Rat.divInt (ival n s) (ival m t)), .int .i64 0])) := by
 obtain ⟨w4, hw4⟩ : ∃ w4, w4 = ((w.alloc (.cells #[.bool n, .string s] 33)).alloc (.cells #[.bool m, .string t] 33)).alloc (.cells #[.bool false, .string ⟨#[]⟩, .bool false, .string ⟨#[]⟩] 35) := ⟨_, rfl⟩
 have k_a : Blk w4 (w.heap.size) 33 [.bool n, .string s] := by
  rw [hw4]
  have h := (((Blk.new (w) 33 [.bool n, .string s]).alloc (.cells #[.bool m, .string t] 33)).alloc (.cells #[.bool false, .string ⟨#[]⟩, .bool false, .string ⟨#[]⟩] 35))
  (try simp only [World.size_alloc, Nat.add_assoc, Nat.reduceAdd] at h)
  exact h
 have k_b : Blk w4 (w.heap.size + 1) 33 [.bool m, .string t] := by
  rw [hw4]
  have h := ((Blk.new (w.alloc (.cells #[.bool n, .string s] 33)) 33 [.bool m, .string t]).alloc (.cells #[.bool false, .string ⟨#[]⟩, .bool false, .string ⟨#[]⟩] 35))
  (try simp only [World.size_alloc, Nat.add_assoc, Nat.reduceAdd] at h)
  exact h
 have k_r : Blk w4 (w.heap.size + 2) 35 [.bool false, .string ⟨#[]⟩, .bool false, .string ⟨#[]⟩] := by
  rw [hw4]
  have h := (Blk.new ((w.alloc (.cells #[.bool n, .string s] 33)).alloc (.cells #[.bool m, .string t] 33)) 35 [.bool false, .string ⟨#[]⟩, .bool false, .string ⟨#[]⟩])
  (try simp only [World.size_alloc, Nat.add_assoc, Nat.reduceAdd] at h)
  exact h
 have tl : Below w.heap.size w w4 := by
  rw [hw4]
  exact ((((Below.refl w.heap.size w).alloc (by simp <;> omega) (.cells #[.bool n, .string s] 33)).alloc (by simp <;> omega) (.cells #[.bool m, .string t] 33)).alloc (by simp <;> omega) (.cells #[.bool false, .string ⟨#[]⟩, .bool false, .string ⟨#[]⟩] 35))
 have hs4 : w4.heap.size = w.heap.size + 3 := by rw [hw4]; simp only [World.size_alloc]
 obtain ⟨a_0, a_f0, a_1, a_f1⟩ := k_a.f2
 have HA := zh k_a; clear k_a
 obtain ⟨b_0, b_f0, b_1, b_f1⟩ := k_b.f2
 have HB := zh k_b; clear k_b
 obtain ⟨r_0, r_f0, r_1, r_f1, r_2, r_f2, r_3, r_f3⟩ := k_r.f4
 have HR := zh k_r; clear k_r
 have HBL := zh tl; clear tl
 have hcm := fun w' => icompare_any m false t ⟨#[]⟩ w' (by omega) (by decide)
 rw [ival_nil] at hcm
 obtain ⟨q, hq'⟩ : ∃ q, q = Rat.divInt (ival n s) (ival m t) := ⟨_, rfl⟩
 have hl := fun w' => lowest_any n m s t w' hs ht
 rw [← hq'] at hl ⊢
 obtain ⟨z, hz⟩ : ∃ z, z = cmpZ (ival m t) 0 := ⟨_, rfl⟩
 have hz0 : ¬ z = 0 := by rw [hz]; simp only [cmpZ, if_neg hd]; split <;> decide
 have hzb : (z == 0) = false := by simpa using hz0
 rw [← hz] at hcm
 clear hq' hs ht hz hd
 have HL := zh hl; clear hl
 have HCM := zh hcm; clear hcm
 go_enter Try.func45, Try.ntmps45
 go_wp2_with fail
 (try rw [← hw4])
 clear hw4
 (try simp only [Nat.add_assoc, Nat.reduceAdd])
 refine (HCM.out _).mono ?_
 rintro e w5 ⟨hq, rfl⟩
 dsimp only
 have k_a := HA.out.keep hq
 have k_b := HB.out.keep hq
 have k_r := HR.out.keep hq
 have tl := HBL.out.trans ((hq).mono HBL.out.size)
 clear HBL HA HB HR
 clear a_0 a_f0 a_1 a_f1
 obtain ⟨a_0, a_f0, a_1, a_f1⟩ := k_a.f2
 have HA := zh k_a; clear k_a
 clear b_0 b_f0 b_1 b_f1
 obtain ⟨b_0, b_f0, b_1, b_f1⟩ := k_b.f2
 have HB := zh k_b; clear k_b
 clear r_0 r_f0 r_1 r_f1 r_2 r_f2 r_3 r_f3
 obtain ⟨r_0, r_f0, r_1, r_f1, r_2, r_f2, r_3, r_f3⟩ := k_r.f4
 have HR := zh k_r; clear k_r
 have HBL := zh tl; clear tl
 clear hq
 go_wp2_with fail
 refine (HL.out _).mono ?_
 rintro e w6 ⟨hq, rfl⟩
 dsimp only
 have k_a := HA.out.keep hq
 have k_b := HB.out.keep hq
 have k_r := HR.out.keep hq
 have tl := HBL.out.trans ((hq).mono HBL.out.size)
 clear HBL HA HB HR
 clear a_0 a_f0 a_1 a_f1
 obtain ⟨a_0, a_f0, a_1, a_f1⟩ := k_a.f2
 have HA := zh k_a; clear k_a
 clear b_0 b_f0 b_1 b_f1
 obtain ⟨b_0, b_f0, b_1, b_f1⟩ := k_b.f2
 have HB := zh k_b; clear k_b
 clear r_0 r_f0 r_1 r_f1 r_2 r_f2 r_3 r_f3
 obtain ⟨r_0, r_f0, r_1, r_f1, r_2, r_f2, r_3, r_f3⟩ := k_r.f4
 have HR := zh k_r; clear k_r
 have HBL := zh tl; clear tl
 clear hq
 go_wp2_with fail
 have hrv : RatV q = .agg #[.bool (ineg q.num), .string (imag q.num), .bool (ineg (q.den : Int)), .string (imag (q.den : Int))] := rfl
 have kz := ((((HR.out.set 0 (.bool (ineg q.num))).set 1 (.string (imag q.num))).set 2 (.bool (ineg (q.den : Int)))).set 3 (.string (imag (q.den : Int))))
 have sz := ((((HBL.out.setCell (p := ⟨w.heap.size + 2, 0, none⟩) (by show w.heap.size ≤ w.heap.size + 2; omega) (.bool (ineg q.num))).setCell (p := ⟨w.heap.size + 2, 1, none⟩) (by show w.heap.size ≤ w.heap.size + 2; omega) (.string (imag q.num))).setCell (p := ⟨w.heap.size + 2, 2, none⟩) (by show w.heap.size ≤ w.heap.size + 2; omega) (.bool (ineg (q.den : Int)))).setCell (p := ⟨w.heap.size + 2, 3, none⟩) (by show w.heap.size ≤ w.heap.size + 2; omega) (.string (imag (q.den : Int))))
 have e0 := kz.c 0 rfl
 have e1 := kz.c 1 rfl
 have e2 := kz.c 2 rfl
 have e3 := kz.c 3 rfl
 refine bodyPost_ret (v := .tuple #[RatV q, .int .i64 0]) (by rw [hrv]; simp [results, Try.results45, go_sem, e0, e1, e2, e3]) rfl ⟨sz, rfl⟩
set_option maxRecDepth 100000 in
set_option maxHeartbeats 3200000 in
theorem ratio_any (n d : Int) (w : World) (hn1 : -9223372036854775808 ≤ n) (hn2 : n ≤ 9223372036854775807) (hd1 : -9223372036854775808 ≤ d) (hd2 : d ≤ 9223372036854775807) (hd0 : d ≠ 0) :
  Calls Try.prog 22 #[.int .i64 n, .int .i64 d] w (Ret w (.tuple #[RatV (Rat.divInt n d), .int .i64 0])) := by
 obtain ⟨w4, hw4⟩ : ∃ w4, w4 = w.alloc (.cells #[.bool false, .string ⟨#[]⟩, .bool false, .string ⟨#[]⟩] 35) := ⟨_, rfl⟩
 have k_r : Blk w4 (w.heap.size) 35 [.bool false, .string ⟨#[]⟩, .bool false, .string ⟨#[]⟩] := by
  rw [hw4]
  have h := (Blk.new (w) 35 [.bool false, .string ⟨#[]⟩, .bool false, .string ⟨#[]⟩])
  (try simp only [World.size_alloc, Nat.add_assoc, Nat.reduceAdd] at h)
  exact h
 have tl : Below w.heap.size w w4 := by
  rw [hw4]
  exact ((Below.refl w.heap.size w).alloc (by simp <;> omega) (.cells #[.bool false, .string ⟨#[]⟩, .bool false, .string ⟨#[]⟩] 35))
 have hs4 : w4.heap.size = w.heap.size + 1 := by rw [hw4]; simp only [World.size_alloc]
 obtain ⟨r_0, r_f0, r_1, r_f1, r_2, r_f2, r_3, r_f3⟩ := k_r.f4
 have HR := zh k_r; clear k_r
 have HBL := zh tl; clear tl
 have h1 := fun w' => iof_any n w' hn1 hn2
 have h2 := fun w' => iof_any d w' hd1 hd2
 have hsn : ∀ z : Int, -9223372036854775808 ≤ z → z ≤ 9223372036854775807 → (imag z).size ≤ 100000000000 := fun z h1 h2 => by
  rw [imag_size]; exact Nat.le_trans (bb_length_le (m := 8) (by omega)) (by decide)
 have h3 := fun w' => qnew_any (ineg n) (ineg d) (imag n) (imag d) w' (hsn n hn1 hn2) (hsn d hd1 hd2) (by rw [ival_canon]; exact hd0)
 simp only [ival_canon] at h3
 obtain ⟨q, hq'⟩ : ∃ q, q = Rat.divInt n d := ⟨_, rfl⟩
 rw [← hq'] at h3 ⊢
 clear hq' hsn hn1 hn2 hd1 hd2 hd0
 have H1 := zh h1; clear h1
 have H2 := zh h2; clear h2
 have H3 := zh h3; clear h3
 go_enter Try.func22, Try.ntmps22
 go_wp2_with fail
 (try rw [← hw4])
 clear hw4
 (try simp only [Nat.add_assoc, Nat.reduceAdd])
 refine (H1.out _).mono ?_
 rintro e w5 ⟨hq, rfl⟩
 dsimp only
 have k_r := HR.out.keep hq
 have tl := HBL.out.trans ((hq).mono HBL.out.size)
 clear HBL HR
 clear r_0 r_f0 r_1 r_f1 r_2 r_f2 r_3 r_f3
 obtain ⟨r_0, r_f0, r_1, r_f1, r_2, r_f2, r_3, r_f3⟩ := k_r.f4
 have HR := zh k_r; clear k_r
 have HBL := zh tl; clear tl
 clear hq
 go_wp2_with fail
 refine (H2.out _).mono ?_
 rintro e w6 ⟨hq, rfl⟩
 dsimp only
 have k_r := HR.out.keep hq
 have tl := HBL.out.trans ((hq).mono HBL.out.size)
 clear HBL HR
 clear r_0 r_f0 r_1 r_f1 r_2 r_f2 r_3 r_f3
 obtain ⟨r_0, r_f0, r_1, r_f1, r_2, r_f2, r_3, r_f3⟩ := k_r.f4
 have HR := zh k_r; clear k_r
 have HBL := zh tl; clear tl
 clear hq
 go_wp2_with fail
 refine (H3.out _).mono ?_
 rintro e w7 ⟨hq, rfl⟩
 dsimp only
 have k_r := HR.out.keep hq
 have tl := HBL.out.trans ((hq).mono HBL.out.size)
 clear HBL HR
 clear r_0 r_f0 r_1 r_f1 r_2 r_f2 r_3 r_f3
 obtain ⟨r_0, r_f0, r_1, r_f1, r_2, r_f2, r_3, r_f3⟩ := k_r.f4
 have HR := zh k_r; clear k_r
 have HBL := zh tl; clear tl
 clear hq
 go_wp2_with fail
 have hrv : RatV q = .agg #[.bool (ineg q.num), .string (imag q.num), .bool (ineg (q.den : Int)), .string (imag (q.den : Int))] := rfl
 have kz := ((((HR.out.set 0 (.bool (ineg q.num))).set 1 (.string (imag q.num))).set 2 (.bool (ineg (q.den : Int)))).set 3 (.string (imag (q.den : Int))))
 have sz := ((((HBL.out.setCell (p := ⟨w.heap.size, 0, none⟩) (by show w.heap.size ≤ w.heap.size; omega) (.bool (ineg q.num))).setCell (p := ⟨w.heap.size, 1, none⟩) (by show w.heap.size ≤ w.heap.size; omega) (.string (imag q.num))).setCell (p := ⟨w.heap.size, 2, none⟩) (by show w.heap.size ≤ w.heap.size; omega) (.bool (ineg (q.den : Int)))).setCell (p := ⟨w.heap.size, 3, none⟩) (by show w.heap.size ≤ w.heap.size; omega) (.string (imag (q.den : Int))))
 have e0 := kz.c 0 rfl
 have e1 := kz.c 1 rfl
 have e2 := kz.c 2 rfl
 have e3 := kz.c 3 rfl
 refine bodyPost_ret (v := .tuple #[RatV q, .int .i64 0]) (by rw [hrv]; simp [results, Try.results22, go_sem, e0, e1, e2, e3]) rfl ⟨sz, rfl⟩
set_option maxRecDepth 100000 in
set_option maxHeartbeats 3200000 in
theorem qneg_any (na ma : Bool) (sa ta : ByteArray) (w : World) (hs : sa.size ≤ 100000000000) (ht : ta.size ≤ 100000000000) :
  Calls Try.prog 31 #[.agg #[.bool na, .string sa, .bool ma, .string ta]] w (Ret w (RatV (-(Rat.divInt (ival na sa) (ival ma ta))))) := by
 obtain ⟨w4, hw4⟩ : ∃ w4, w4 = (w.alloc (.cells #[.bool na, .string sa, .bool ma, .string ta] 35)).alloc (.cells #[.bool false, .string ⟨#[]⟩, .bool false, .string ⟨#[]⟩] 35) := ⟨_, rfl⟩
 have k_a : Blk w4 (w.heap.size) 35 [.bool na, .string sa, .bool ma, .string ta] := by
  rw [hw4]
  have h := ((Blk.new (w) 35 [.bool na, .string sa, .bool ma, .string ta]).alloc (.cells #[.bool false, .string ⟨#[]⟩, .bool false, .string ⟨#[]⟩] 35))
  (try simp only [World.size_alloc, Nat.add_assoc, Nat.reduceAdd] at h)
  exact h
 have k_r : Blk w4 (w.heap.size + 1) 35 [.bool false, .string ⟨#[]⟩, .bool false, .string ⟨#[]⟩] := by
  rw [hw4]
  have h := (Blk.new (w.alloc (.cells #[.bool na, .string sa, .bool ma, .string ta] 35)) 35 [.bool false, .string ⟨#[]⟩, .bool false, .string ⟨#[]⟩])
  (try simp only [World.size_alloc, Nat.add_assoc, Nat.reduceAdd] at h)
  exact h
 have tl : Below w.heap.size w w4 := by
  rw [hw4]
  exact (((Below.refl w.heap.size w).alloc (by simp <;> omega) (.cells #[.bool na, .string sa, .bool ma, .string ta] 35)).alloc (by simp <;> omega) (.cells #[.bool false, .string ⟨#[]⟩, .bool false, .string ⟨#[]⟩] 35))
 have hs4 : w4.heap.size = w.heap.size + 2 := by rw [hw4]; simp only [World.size_alloc]
 obtain ⟨a_0, a_f0, a_1, a_f1, a_2, a_f2, a_3, a_f3⟩ := k_a.f4
 have HA := zh k_a; clear k_a
 obtain ⟨r_0, r_f0, r_1, r_f1, r_2, r_f2, r_3, r_f3⟩ := k_r.f4
 have HR := zh k_r; clear k_r
 have HBL := zh tl; clear tl
 obtain ⟨q, hq'⟩ : ∃ q, q = Rat.divInt (ival na sa) (ival ma ta) := ⟨_, rfl⟩
 have hl := fun w' => canonical_any na ma sa ta w' hs ht
 rw [← hq'] at hl ⊢
 have hz := divInt_sized (ival_sized hs na) (ival_sized ht ma) (by decide)
 rw [← hq'] at hz
 have hn := fun w' => neg_any (ineg q.num) (imag q.num) w' (Nat.le_trans hz.1.size (by decide))
 rw [ival_canon] at hn
 clear hq' hs ht hz
 have HL := zh hl; clear hl
 have HN := zh hn; clear hn
 go_enter Try.func31, Try.ntmps31
 go_wp2_with fail
 (try rw [← hw4])
 clear hw4
 (try simp only [Nat.add_assoc, Nat.reduceAdd])
 refine (HL.out _).mono ?_
 rintro e w5 ⟨hq, rfl⟩
 dsimp only
 have k_a := HA.out.keep hq
 have k_r := HR.out.keep hq
 have tl := HBL.out.trans ((hq).mono HBL.out.size)
 clear HBL HA HR
 clear a_0 a_f0 a_1 a_f1 a_2 a_f2 a_3 a_f3
 obtain ⟨a_0, a_f0, a_1, a_f1, a_2, a_f2, a_3, a_f3⟩ := k_a.f4
 have HA := zh k_a; clear k_a
 clear r_0 r_f0 r_1 r_f1 r_2 r_f2 r_3 r_f3
 obtain ⟨r_0, r_f0, r_1, r_f1, r_2, r_f2, r_3, r_f3⟩ := k_r.f4
 have HR := zh k_r; clear k_r
 have HBL := zh tl; clear tl
 clear hq
 go_wp2_with fail
 obtain ⟨w6, hw_⟩ : ∃ x, x = ((((w5).setCell ⟨w.heap.size, 0, none⟩ (.bool (ineg q.num))).setCell ⟨w.heap.size, 1, none⟩ (.string (imag q.num))).setCell ⟨w.heap.size, 2, none⟩ (.bool (ineg (q.den : Int)))).setCell ⟨w.heap.size, 3, none⟩ (.string (imag (q.den : Int))) := ⟨_, rfl⟩
 (try rw [← hw_])
 have k_a : Blk w6 (w.heap.size) 35 [.bool (ineg q.num), .string (imag q.num), .bool (ineg (q.den : Int)), .string (imag (q.den : Int))] := by rw [hw_]; exact ((((HA.out.set 0 (.bool (ineg q.num))).set 1 (.string (imag q.num))).set 2 (.bool (ineg (q.den : Int)))).set 3 (.string (imag (q.den : Int))))
 have k_r : Blk w6 (w.heap.size + 1) 35 [.bool false, .string ⟨#[]⟩, .bool false, .string ⟨#[]⟩] := by rw [hw_]; exact ((((HR.out.setOther (a := ⟨w.heap.size, 0, none⟩) (by show w.heap.size ≠ w.heap.size + 1; omega) (.bool (ineg q.num))).setOther (a := ⟨w.heap.size, 1, none⟩) (by show w.heap.size ≠ w.heap.size + 1; omega) (.string (imag q.num))).setOther (a := ⟨w.heap.size, 2, none⟩) (by show w.heap.size ≠ w.heap.size + 1; omega) (.bool (ineg (q.den : Int)))).setOther (a := ⟨w.heap.size, 3, none⟩) (by show w.heap.size ≠ w.heap.size + 1; omega) (.string (imag (q.den : Int))))
 have tl : Below w.heap.size w w6 := by rw [hw_]; exact ((((HBL.out.setCell (p := ⟨w.heap.size, 0, none⟩) (by show w.heap.size ≤ w.heap.size; omega) (.bool (ineg q.num))).setCell (p := ⟨w.heap.size, 1, none⟩) (by show w.heap.size ≤ w.heap.size; omega) (.string (imag q.num))).setCell (p := ⟨w.heap.size, 2, none⟩) (by show w.heap.size ≤ w.heap.size; omega) (.bool (ineg (q.den : Int)))).setCell (p := ⟨w.heap.size, 3, none⟩) (by show w.heap.size ≤ w.heap.size; omega) (.string (imag (q.den : Int))))
 clear HBL hw_ HA HR
 clear a_0 a_f0 a_1 a_f1 a_2 a_f2 a_3 a_f3
 obtain ⟨a_0, a_f0, a_1, a_f1, a_2, a_f2, a_3, a_f3⟩ := k_a.f4
 have HA := zh k_a; clear k_a
 clear r_0 r_f0 r_1 r_f1 r_2 r_f2 r_3 r_f3
 obtain ⟨r_0, r_f0, r_1, r_f1, r_2, r_f2, r_3, r_f3⟩ := k_r.f4
 have HR := zh k_r; clear k_r
 have HBL := zh tl; clear tl
 have HA := zh HA.out.drew
 have HR := zh HR.out.drew
 have HBL := zh HBL.out.drew
 refine wp_region_held_drew (S := fun w' => w'.cell? ⟨w.heap.size, 0, none⟩ = some (.bool (ineg q.num)) ∧ w'.cell? ⟨w.heap.size, 1, none⟩ = some (.string (imag q.num)) ∧ w'.cell? ⟨w.heap.size, 2, none⟩ = some (.bool (ineg (q.den : Int))) ∧ w'.cell? ⟨w.heap.size, 3, none⟩ = some (.string (imag (q.den : Int)))) (by kernel_rfl) ?_ (fun hHeld0 => ?_)
 ·
  go_keep
 refine zT 0 (h := ?_)
 (try simp only [Act.put, zA, zB, zC])
 refine zT 1 (h := ?_)
 (try simp only [Act.put, zA, zB, zC])
 refine zT 3 (h := ?_)
 (try simp only [Act.put, zA, zB, zC])
 refine zT 4 (h := ?_)
 (try simp only [Act.put, zA, zB, zC])
 refine zR 2 (h := fun K hK => ?_)
 go_simp
 go_at_call 56
 refine (HN.out _).mono ?_
 rintro e w7 ⟨hq, rfl⟩
 dsimp only
 have z0 := zK hq HA.out.lt hHeld0.1
 have z1 := zK hq HA.out.lt hHeld0.2.1
 have z2 := zK hq HA.out.lt hHeld0.2.2.1
 have z3 := zK hq HA.out.lt hHeld0.2.2.2
 refine hK.out _ _ ⟨z0, z1, z2, z3⟩ (fun hHeld1 => ?_)
 clear hK K hHeld0 z0 z1 z2 z3
 (try simp only [Act.put, zA, zB, zC])
 have k_a := HA.out.keep hq
 have k_r := HR.out.keep hq
 have tl := HBL.out.trans ((hq).mono HBL.out.size)
 clear HBL HA HR
 clear a_0 a_f0 a_1 a_f1 a_2 a_f2 a_3 a_f3
 obtain ⟨a_0, a_f0, a_1, a_f1, a_2, a_f2, a_3, a_f3⟩ := k_a.f4
 have HA := zh k_a; clear k_a
 clear r_0 r_f0 r_1 r_f1 r_2 r_f2 r_3 r_f3
 obtain ⟨r_0, r_f0, r_1, r_f1, r_2, r_f2, r_3, r_f3⟩ := k_r.f4
 have HR := zh k_r; clear k_r
 have HBL := zh tl; clear tl
 clear hq
 refine zT 5 (h := ?_)
 (try simp only [Act.put, zA, zB, zC])
 refine zR 6 (h := fun K hK => ?_)
 go_simp
 refine hK.out _ _ ?_ (fun hHeld2 => ?_)
 ·
  ((try dsimp only); go_keep)
 clear hK K
 (try simp only [Act.put, zA, zB, zC])
 refine wpAnyH_done (by kernel_rfl) ?_ _
 (try simp only [List.getElem_toArray, List.getElem_cons_zero, List.getElem_cons_succ, Act.put, zA, zB, zC])
 go_wp2_with fail
 have hrv : RatV (-q) = .agg #[.bool (ineg (-q.num)), .string (imag (-q.num)), .bool (ineg (q.den : Int)), .string (imag (q.den : Int))] := rfl
 have kz := ((((HR.out.set 0 (.bool (ineg (-q.num)))).set 1 (.string (imag (-q.num)))).set 2 (.bool (ineg (q.den : Int)))).set 3 (.string (imag (q.den : Int))))
 have sz := ((((HBL.out.setCell (p := ⟨w.heap.size + 1, 0, none⟩) (by show w.heap.size ≤ w.heap.size + 1; omega) (.bool (ineg (-q.num)))).setCell (p := ⟨w.heap.size + 1, 1, none⟩) (by show w.heap.size ≤ w.heap.size + 1; omega) (.string (imag (-q.num)))).setCell (p := ⟨w.heap.size + 1, 2, none⟩) (by show w.heap.size ≤ w.heap.size + 1; omega) (.bool (ineg (q.den : Int)))).setCell (p := ⟨w.heap.size + 1, 3, none⟩) (by show w.heap.size ≤ w.heap.size + 1; omega) (.string (imag (q.den : Int))))
 have e0 := kz.c 0 rfl
 have e1 := kz.c 1 rfl
 have e2 := kz.c 2 rfl
 have e3 := kz.c 3 rfl
 refine bodyPost_ret (v := RatV (-q)) (by rw [hrv]; simp [results, Try.results31, go_sem, e0, e1, e2, e3]) rfl ⟨sz, rfl⟩
end Go.Proofs.Ytjpalbonclgflaa

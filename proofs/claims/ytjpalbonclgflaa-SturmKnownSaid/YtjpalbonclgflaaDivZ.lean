/- integer.Div of any two integers: rounded down (printed by gen_divz.py). -/
import Derived.Test.YtjpalbonclgflaaPart8
import Derived.Test.YtjpalbonclgflaaPart13
namespace Go.Proofs.Ytjpalbonclgflaa
open Go.RowKit

theorem fdiv_plain (na nb : Bool) (X D : Nat) (hD : 0 < D) (h : na = nb ∨ X % D = 0) : (sgn na X).fdiv (sgn nb D) = sgn (na != nb) (X / D) ∧ (sgn na X).fmod (sgn nb D) = sgn nb (X % D) := by
 have h1 := Nat.div_add_mod X D
 have h2 := Nat.mod_lt X hD
 obtain ⟨q, hq⟩ : ∃ q, q = X / D := ⟨_, rfl⟩
 obtain ⟨r, hr⟩ : ∃ r, r = X % D := ⟨_, rfl⟩
 rw [← hq, ← hr] at h1 ⊢
 rw [← hr] at h h2
 have h3 : (D : Int) * q + r = X := by rw [← h1]; simp
 cases na <;> cases nb
 ·
  show (X : Int).fdiv (D : Int) = (q : Int) ∧ (X : Int).fmod (D : Int) = (r : Int)
  exact (Int.fdiv_fmod_unique (by omega)).2 ⟨by omega, by omega, by omega⟩
 ·
  have h0 : r = 0 := by simpa using h
  subst h0
  show (X : Int).fdiv (-(D : Int)) = -(q : Int) ∧ (X : Int).fmod (-(D : Int)) = -((0 : Nat) : Int)
  exact (Int.fdiv_fmod_unique' (by omega)).2 ⟨by rw [Int.neg_mul_neg]; omega, by omega, by omega⟩
 ·
  have h0 : r = 0 := by simpa using h
  subst h0
  show (-(X : Int)).fdiv (D : Int) = -(q : Int) ∧ (-(X : Int)).fmod (D : Int) = ((0 : Nat) : Int)
  exact (Int.fdiv_fmod_unique (by omega)).2 ⟨by rw [Int.mul_neg]; omega, by omega, by omega⟩
 ·
  show (-(X : Int)).fdiv (-(D : Int)) = (q : Int) ∧ (-(X : Int)).fmod (-(D : Int)) = -(r : Int)
  exact (Int.fdiv_fmod_unique' (by omega)).2 ⟨by rw [Int.neg_mul]; omega, by omega, by omega⟩
theorem fdiv_up (na nb : Bool) (X D : Nat) (hD : 0 < D) (h : ¬ na = nb) (h0 : 0 < X % D) : (sgn na X).fdiv (sgn nb D) = sgn (na != nb) (X / D + 1) ∧ (sgn na X).fmod (sgn nb D) = sgn nb (D - X % D) := by
 have h1 := Nat.div_add_mod X D
 have h2 := Nat.mod_lt X hD
 obtain ⟨q, hq⟩ : ∃ q, q = X / D := ⟨_, rfl⟩
 obtain ⟨r, hr⟩ : ∃ r, r = X % D := ⟨_, rfl⟩
 rw [← hq, ← hr] at h1 ⊢
 rw [← hr] at h0 h2
 have h3 : (D : Int) * q + r = X := by rw [← h1]; simp
 have h4 : ((D - r : Nat) : Int) = (D : Int) - r := by omega
 cases na <;> cases nb
 ·
  exact absurd rfl h
 ·
  show (X : Int).fdiv (-(D : Int)) = -((q + 1 : Nat) : Int) ∧ (X : Int).fmod (-(D : Int)) = -((D - r : Nat) : Int)
  exact (Int.fdiv_fmod_unique' (by omega)).2 ⟨by rw [Int.neg_mul_neg, Int.natCast_add, Int.mul_add]; omega, by omega, by omega⟩
 ·
  show (-(X : Int)).fdiv (D : Int) = -((q + 1 : Nat) : Int) ∧ (-(X : Int)).fmod (D : Int) = ((D - r : Nat) : Int)
  exact (Int.fdiv_fmod_unique (by omega)).2 ⟨by rw [Int.mul_neg, Int.natCast_add, Int.mul_add]; omega, by omega, by omega⟩
 ·
  exact absurd rfl h
theorem dg_add1 (Q : Nat) : (dg (Q + 1)).length ≤ (dg Q).length + 1 := by
 refine dg_length_le ?_
 have := lt_pow_dg Q
 rw [Nat.pow_succ]
 omega
set_option maxRecDepth 100000 in
set_option maxHeartbeats 6400000 in
theorem idiv_any (na nb : Bool) (sa sb : ByteArray) (w : World) (hsa : sa.size ≤ 100000000000) (hsb : sb.size ≤ 100000000000) (hD0 : 0 < bval sb.data.toList) :
  Calls Try.prog 62 #[.agg #[.bool na, .string sa], .agg #[.bool nb, .string sb]] w (Ret w (.tuple #[IntV ((ival na sa).fdiv (ival nb sb)), IntV ((ival na sa).fmod (ival nb sb)), .int .i64 0])) := by
 have hdx := fun w' => digits_any na sa w' (by omega)
 have hdd := fun w' => digits_any nb sb w' (by omega)
 have hXl := dg_sized (s := sa) (m := 25000000000) (by omega)
 have hDl := dg_sized (s := sb) (m := 25000000000) (by omega)
 unfold ival
 obtain ⟨X, hX⟩ : ∃ X, X = bval sa.data.toList := ⟨_, rfl⟩
 obtain ⟨D, hD⟩ : ∃ D, D = bval sb.data.toList := ⟨_, rfl⟩
 rw [← hX] at hdx hXl ⊢
 rw [← hD] at hdd hDl hD0 ⊢
 have hdv := fun vx vy w' h1 h2 => divide_all X D vx vy w' h1 h2 (Nat.le_trans hXl (by decide)) hD0
 have hdl : ¬ (dg D).length = 0 := by
  intro h
  have := dg_nil (List.length_eq_zero_iff.1 h)
  omega
 have hpl := fdiv_plain na nb X D hD0
 have hup := fdiv_up na nb X D hD0
 obtain ⟨Z1, hZ1⟩ : ∃ Z, Z = (sgn na X).fdiv (sgn nb D) := ⟨_, rfl⟩
 obtain ⟨Z2, hZ2⟩ : ∃ Z, Z = (sgn na X).fmod (sgn nb D) := ⟨_, rfl⟩
 rw [← hZ1, ← hZ2] at hpl hup ⊢
 obtain ⟨Q, hQ⟩ : ∃ Q, Q = X / D := ⟨_, rfl⟩
 obtain ⟨Rr, hRr⟩ : ∃ Rr, Rr = X % D := ⟨_, rfl⟩
 have hRD : Rr < D := by rw [hRr]; exact Nat.mod_lt _ hD0
 have hQX : Q ≤ X := by rw [hQ]; exact Nat.div_le_self _ _
 rw [← hQ, ← hRr] at hdv hpl hup
 have hQll : (dg Q).length ≤ 25000000000 := dg_le_of_le hQX hXl
 have hQl : (dg Q).length ≤ 274877906944 := Nat.le_trans (dg_le_of_le hQX hXl) (by decide)
 have hRl : (dg Rr).length ≤ 274877906944 := Nat.le_trans (dg_le_of_le (Nat.le_of_lt hRD) hDl) (by decide)
 have HDX := zh hdx; clear hdx
 have HDD := zh hdd; clear hdd
 have HDV := zh hdv; clear hdv
 have HDL := zh hdl; clear hdl
 have HQL := zh hQl; clear hQl
 have HQLL := zh hQll; clear hQll
 have HRL := zh hRl; clear hRl
 have HDLL := zh hDl; clear hDl
 have HPL := zh hpl; clear hpl
 have HUP := zh hup; clear hup
 have HRD := zh hRD; clear hRD
 clear hsa hsb hXl hX hD hQ hRr hZ1 hZ2 hQX
 obtain ⟨w4, hw4⟩ : ∃ w4, w4 = ((((w.alloc (.cells #[.bool na, .string sa] 33)).alloc (.cells #[.bool nb, .string sb] 33)).alloc (.cells #[.bool false, .string ⟨#[]⟩] 33)).alloc (.cells #[.bool false, .string ⟨#[]⟩] 33)) := ⟨_, rfl⟩
 have hb0 : Blk w4 w.heap.size 33 [.bool na, .string sa] := by rw [hw4]; exact (((Blk.new w 33 _).alloc _).alloc _).alloc _
 have hb1 : Blk w4 (w.heap.size + 1) 33 [.bool nb, .string sb] := by
  rw [hw4]
  have h := ((Blk.new (w.alloc (.cells #[.bool na, .string sa] 33)) 33 [.bool nb, .string sb]).alloc (.cells #[.bool false, .string ⟨#[]⟩] 33)).alloc (.cells #[.bool false, .string ⟨#[]⟩] 33)
  simp only [World.size_alloc] at h
  exact h
 have hb2 : Blk w4 (w.heap.size + 2) 33 [.bool false, .string ⟨#[]⟩] := by
  rw [hw4]
  have h := (Blk.new ((w.alloc (.cells #[.bool na, .string sa] 33)).alloc (.cells #[.bool nb, .string sb] 33)) 33 [.bool false, .string ⟨#[]⟩]).alloc (.cells #[.bool false, .string ⟨#[]⟩] 33)
  simp only [World.size_alloc] at h
  exact h
 have hb3 : Blk w4 (w.heap.size + 3) 33 [.bool false, .string ⟨#[]⟩] := by
  rw [hw4]
  have h := Blk.new (((w.alloc (.cells #[.bool na, .string sa] 33)).alloc (.cells #[.bool nb, .string sb] 33)).alloc (.cells #[.bool false, .string ⟨#[]⟩] 33)) 33 [.bool false, .string ⟨#[]⟩]
  simp only [World.size_alloc] at h
  exact h
 have hbel : Below w.heap.size w w4 := by
  rw [hw4]
  exact ((((Below.refl w.heap.size w).alloc (Nat.le_refl _) _).alloc (by simp) _).alloc (by simp <;> omega) _).alloc (by simp <;> omega) _
 have hsz4 : w4.heap.size = w.heap.size + 4 := by rw [hw4]; simp only [World.size_alloc]
 have x0 := hb0.c 0 rfl
 have x1 := hb0.c 1 rfl
 have y0 := hb1.c 0 rfl
 have y1 := hb1.c 1 rfl
 have HB0 := zh hb0; clear hb0
 have HB1 := zh hb1; clear hb1
 have HB2 := zh hb2; clear hb2
 have HB3 := zh hb3; clear hb3
 have HB := zh hbel; clear hbel
 go_enter Try.func62, Try.ntmps62
 go_wp2_with fail
 rw [← hw4]
 clear hw4
 simp only [Nat.add_assoc, Nat.reduceAdd]
 refine wp_region_held_drew (S := fun w' => w'.cell? ⟨w.heap.size, 0, none⟩ = some (.bool na) ∧ w'.cell? ⟨w.heap.size, 1, none⟩ = some (.string sa) ∧ w'.cell? ⟨w.heap.size + 1, 0, none⟩ = some (.bool nb) ∧ w'.cell? ⟨w.heap.size + 1, 1, none⟩ = some (.string sb)) (by kernel_rfl) ?_ (fun hHeld => ?_)
 ·
  go_keep
 refine zT 0 (h := ?_)
 (try simp only [Act.put, zA, zB, zC])
 refine zT 2 (h := ?_)
 (try simp only [Act.put, zA, zB, zC])
 refine zR 1 (h := fun K hK => ?_)
 go_simp
 go_at_call 40
 refine (HDX.out _).mono ?_
 rintro e w5 ⟨hq5, v5, rfl, hv5⟩
 dsimp only
 have z0 := zK hq5 (show w.heap.size < w4.drew.heap.size by simp; omega) hHeld.1
 have z1 := zK hq5 (show w.heap.size < w4.drew.heap.size by simp; omega) hHeld.2.1
 have z2 := zK hq5 (show w.heap.size + 1 < w4.drew.heap.size by simp; omega) hHeld.2.2.1
 have z3 := zK hq5 (show w.heap.size + 1 < w4.drew.heap.size by simp; omega) hHeld.2.2.2
 refine hK.out _ _ ⟨z0, z1, z2, z3⟩ (fun hHeld2 => ?_)
 clear hK K x0 x1 y0 y1 z0 z1 z2 z3 hHeld
 have hb5 := HB.out.drew.trans (hq5.mono (by simp; omega))
 have k2 := HB2.out.drew.keep hq5
 have k3 := HB3.out.drew.keep hq5
 have k0 := HB0.out.drew.keep hq5
 have k1 := HB1.out.drew.keep hq5
 have hsz5 := hq5.size
 simp only [World.size_drew] at hsz5
 clear HB HB0 HB1 HB2 HB3 hq5
 have HB5 := zh hb5; clear hb5
 have K0 := zh k0; clear k0
 have K1 := zh k1; clear k1
 have K2 := zh k2; clear k2
 have K3 := zh k3; clear k3
 have HV5 := zh hv5; clear hv5
 (try simp only [Act.put, zA, zB, zC])
 refine zR 3 (h := fun K hK => ?_)
 go_simp
 go_at_call 40
 refine (HDD.out _).mono ?_
 rintro e w6 ⟨hq6, v6, rfl, hv6⟩
 dsimp only
 have z0 := zK hq6 (show w.heap.size < w5.heap.size by omega) hHeld2.1
 have z1 := zK hq6 (show w.heap.size < w5.heap.size by omega) hHeld2.2.1
 have z2 := zK hq6 (show w.heap.size + 1 < w5.heap.size by omega) hHeld2.2.2.1
 have z3 := zK hq6 (show w.heap.size + 1 < w5.heap.size by omega) hHeld2.2.2.2
 refine hK.out _ _ ⟨z0, z1, z2, z3⟩ (fun hHeld3 => ?_)
 clear hK K z0 z1 z2 z3 hHeld2
 have hb6 := HB5.out.trans (hq6.mono (by omega))
 have k0 := K0.out.keep hq6
 have k1 := K1.out.keep hq6
 have k2 := K2.out.keep hq6
 have k3 := K3.out.keep hq6
 have hsz6 := hq6.size
 have hv5 := HV5.out.below hq6 (Nat.le_refl _)
 clear HB5 K0 K1 K2 K3 hq6 HV5
 obtain ⟨a6, c6, rfl, -⟩ := hv6.slice
 have hv6' := hv6
 have HB6 := zh hb6; clear hb6
 have K0 := zh k0; clear k0
 have K1 := zh k1; clear k1
 have K2 := zh k2; clear k2
 have K3 := zh k3; clear k3
 have HV5 := zh hv5; clear hv5
 have HV6 := zh hv6'; clear hv6'
 clear hv6
 (try simp only [Act.put, zA, zB, zC])
 refine zT 4 (h := ?_)
 (try simp only [Act.put, zA, zB, zC])
 refine zT 5 (h := ?_)
 (try simp only [Act.put, zA, zB, zC])
 refine wpAnyH_done (by kernel_rfl) ?_ _
 have hln := HDL.out
 go_wp2_with fail
 go_at_call 76
 refine (HDV.out _ _ _ HV5.out HV6.out).mono ?_
 rintro e w7 ⟨hq7, v7, u7, rfl, hv7, hu7⟩
 dsimp only
 have z0 := zK hq7 (show w.heap.size < w6.heap.size by omega) hHeld3.1
 have z2 := zK hq7 (show w.heap.size + 1 < w6.heap.size by omega) hHeld3.2.2.1
 clear hHeld3
 have hb7 := HB6.out.trans (hq7.mono (by omega))
 have k2 := K2.out.keep hq7
 have k3 := K3.out.keep hq7
 have hv6b := HV6.out.below hq7 (Nat.le_refl _)
 have hsz7 := hq7.size
 clear HB6 K0 K1 K2 K3 hq7 HV5 HV6
 obtain ⟨a7, c7, rfl, -⟩ := hv7.slice
 obtain ⟨a8, c8, rfl, -⟩ := hu7.slice
 have HB7 := zh hb7; clear hb7
 have K2 := zh k2; clear k2
 have K3 := zh k3; clear k3
 have HV7 := zh hv7; clear hv7
 have HU7 := zh hu7; clear hu7
 by_cases hway : na = nb ∨ Rr = 0
 ·
  have hz := HPL.out hway
  have HZ := zh hz; clear hz
  have hflag : na = nb ∨ (¬ na = nb ∧ ¬ 0 < (dg Rr).length) := by
   rcases hway with h | h
   ·
    exact Or.inl h
   ·
    by_cases h2 : na = nb
    ·
     exact Or.inl h2
    ·
     exact Or.inr ⟨h2, by rw [h, dg_zero]; simp⟩
  rcases hflag with hn | ⟨hn, hl⟩
  ·
   have hx1 : (na != nb) = false := by simp [hn]
   have hx2 : (!na == nb) = false := by rw [hn]; cases nb <;> rfl
   clear hway
   go_wp2_with fail
   refine wp_region_held_drew (S := fun w' => w'.cell? ⟨w.heap.size, 0, none⟩ = some (.bool na) ∧ w'.cell? ⟨w.heap.size + 1, 0, none⟩ = some (.bool nb)) (by kernel_rfl) ?_ (fun hHeld => ?_)
   ·
    go_keep
   refine zT 0 (h := ?_)
   (try simp only [Act.put, zA, zB, zC])
   refine zT 1 (h := ?_)
   (try simp only [Act.put, zA, zB, zC])
   refine zT 2 (h := ?_)
   (try simp only [Act.put, zA, zB, zC])
   refine zT 3 (h := ?_)
   (try simp only [Act.put, zA, zB, zC])
   refine zT 4 (h := ?_)
   (try simp only [Act.put, zA, zB, zC])
   refine zT 5 (h := ?_)
   (try simp only [Act.put, zA, zB, zC])
   refine zT 7 (h := ?_)
   (try simp only [Act.put, zA, zB, zC])
   refine zT 8 (h := ?_)
   (try simp only [Act.put, zA, zB, zC])
   refine zT 9 (h := ?_)
   (try simp only [Act.put, zA, zB, zC])
   refine zR 6 (h := fun K hK => ?_)
   go_simp
   go_at_call 35
   refine (number_any _ _ _ _ HV7.out.drew (dg_lt _) HQL.out).mono ?_
   rintro e w8 ⟨hq8, rfl⟩
   dsimp only
   have z4 := zK hq8 (show w.heap.size < w7.drew.heap.size by simp; omega) hHeld.1
   have z5 := zK hq8 (show w.heap.size + 1 < w7.drew.heap.size by simp; omega) hHeld.2
   refine hK.out _ _ ⟨z4, z5⟩ (fun hHeld2 => ?_)
   clear hK K z0 z2 z4 z5 hHeld
   have hb8 := HB7.out.drew.trans (hq8.mono (by simp; omega))
   have k2 := K2.out.drew.keep hq8
   have k3 := K3.out.drew.keep hq8
   have hsz8 := hq8.size
   simp only [World.size_drew] at hsz8
   have hu8 := HU7.out.drew.below hq8 (Nat.le_refl _)
   clear HB7 K2 K3 hq8 HU7 HV7
   have HB8 := zh hb8; clear hb8
   have K2 := zh k2; clear k2
   have K3 := zh k3; clear k3
   have HU8 := zh hu8; clear hu8
   (try simp only [Act.put, zA, zB, zC])
   refine zR 10 (h := fun K hK => ?_)
   go_simp
   go_at_call 35
   refine (number_any _ _ _ _ HU8.out (dg_lt _) HRL.out).mono ?_
   rintro e w9 ⟨hq9, rfl⟩
   dsimp only
   have z4 := zK hq9 (show w.heap.size < w8.heap.size by omega) hHeld2.1
   have z5 := zK hq9 (show w.heap.size + 1 < w8.heap.size by omega) hHeld2.2
   refine hK.out _ _ ⟨z4, z5⟩ (fun hHeld3 => ?_)
   clear hK K z4 z5 hHeld2
   have hb9 := HB8.out.trans (hq9.mono (by omega))
   have k2 := K2.out.keep hq9
   have k3 := K3.out.keep hq9
   have hsz9 := hq9.size
   clear HB8 K2 K3 hq9 HU8
   have u0 := k2.c 0 rfl
   have u1 := k2.c 1 rfl
   have u2 := k3.c 0 rfl
   have u3 := k3.c 1 rfl
   have f0 := k2.frozen 0
   have f1 := k2.frozen 1
   have f2 := k3.frozen 0
   have f3 := k3.frozen 1
   have HB9 := zh hb9; clear hb9
   have K2 := zh k2; clear k2
   have K3 := zh k3; clear k3
   (try simp only [Act.put, zA, zB, zC])
   refine zR 11 (h := fun K hK => ?_)
   go_simp
   refine hK.out _ _ ?_ (fun hHeld => ?_)
   ·
    ((try dsimp only); go_keep)
   clear hK K
   (try simp only [Act.put, zA, zB, zC])
   refine zR 12 (h := fun K hK => ?_)
   go_simp
   refine hK.out _ _ ?_ (fun hHeld => ?_)
   ·
    ((try dsimp only); go_keep)
   clear hK K
   (try simp only [Act.put, zA, zB, zC])
   refine zT 13 (h := ?_)
   (try simp only [Act.put, zA, zB, zC])
   refine wpAnyH_done (by kernel_rfl) ?_ _
   split
   ·
    rename_i d hd
    obtain rfl : (6 : Tmp) = d := Option.some.inj (show some (6 : Tmp) = some d from hd)
    clear hd
    simp only [List.set_cons_zero, List.set_cons_succ]
    go_wp2_with fail
    have hvQ : sgn (na != nb) (val (dg Q)) = Z1 := by rw [val_dg]; exact HZ.out.1.symm
    have hvR : sgn nb (val (dg Rr)) = Z2 := by rw [val_dg]; exact HZ.out.2.symm
    rw [hx1] at hvQ
    rw [hvQ, hvR]
    clear hvQ hvR
    refine bodyPost_ret (v := .tuple #[IntV Z1, IntV Z2, .int .i64 0]) (by simp [results, Try.results62, go_sem, u0, u1, u2, u3]) rfl ⟨?_, rfl⟩
    exact (((HB9.out.setCell (p := ⟨w.heap.size + 2, 0, none⟩) (Nat.le_add_right _ _) _).setCell (p := ⟨w.heap.size + 2, 1, none⟩) (Nat.le_add_right _ _) _).setCell (p := ⟨w.heap.size + 3, 0, none⟩) (Nat.le_add_right _ _) _).setCell (p := ⟨w.heap.size + 3, 1, none⟩) (Nat.le_add_right _ _) _
   ·
    rename_i hd
    exact absurd (show some (6 : Tmp) = none from hd) (by simp)
  ·
   have hx1 : (na != nb) = true := by simp [hn]
   have hx2 : (!na == nb) = true := by revert hn; cases na <;> cases nb <;> simp
   clear hway
   go_wp2_with fail
   refine wp_region_held_drew (S := fun w' => w'.cell? ⟨w.heap.size, 0, none⟩ = some (.bool na) ∧ w'.cell? ⟨w.heap.size + 1, 0, none⟩ = some (.bool nb)) (by kernel_rfl) ?_ (fun hHeld => ?_)
   ·
    go_keep
   refine zT 0 (h := ?_)
   (try simp only [Act.put, zA, zB, zC])
   refine zT 1 (h := ?_)
   (try simp only [Act.put, zA, zB, zC])
   refine zT 2 (h := ?_)
   (try simp only [Act.put, zA, zB, zC])
   refine zT 3 (h := ?_)
   (try simp only [Act.put, zA, zB, zC])
   refine zT 4 (h := ?_)
   (try simp only [Act.put, zA, zB, zC])
   refine zT 5 (h := ?_)
   (try simp only [Act.put, zA, zB, zC])
   refine zT 7 (h := ?_)
   (try simp only [Act.put, zA, zB, zC])
   refine zT 8 (h := ?_)
   (try simp only [Act.put, zA, zB, zC])
   refine zT 9 (h := ?_)
   (try simp only [Act.put, zA, zB, zC])
   refine zR 6 (h := fun K hK => ?_)
   go_simp
   go_at_call 35
   refine (number_any _ _ _ _ HV7.out.drew (dg_lt _) HQL.out).mono ?_
   rintro e w8 ⟨hq8, rfl⟩
   dsimp only
   have z4 := zK hq8 (show w.heap.size < w7.drew.heap.size by simp; omega) hHeld.1
   have z5 := zK hq8 (show w.heap.size + 1 < w7.drew.heap.size by simp; omega) hHeld.2
   refine hK.out _ _ ⟨z4, z5⟩ (fun hHeld2 => ?_)
   clear hK K z0 z2 z4 z5 hHeld
   have hb8 := HB7.out.drew.trans (hq8.mono (by simp; omega))
   have k2 := K2.out.drew.keep hq8
   have k3 := K3.out.drew.keep hq8
   have hsz8 := hq8.size
   simp only [World.size_drew] at hsz8
   have hu8 := HU7.out.drew.below hq8 (Nat.le_refl _)
   clear HB7 K2 K3 hq8 HU7 HV7
   have HB8 := zh hb8; clear hb8
   have K2 := zh k2; clear k2
   have K3 := zh k3; clear k3
   have HU8 := zh hu8; clear hu8
   (try simp only [Act.put, zA, zB, zC])
   refine zR 10 (h := fun K hK => ?_)
   go_simp
   go_at_call 35
   refine (number_any _ _ _ _ HU8.out (dg_lt _) HRL.out).mono ?_
   rintro e w9 ⟨hq9, rfl⟩
   dsimp only
   have z4 := zK hq9 (show w.heap.size < w8.heap.size by omega) hHeld2.1
   have z5 := zK hq9 (show w.heap.size + 1 < w8.heap.size by omega) hHeld2.2
   refine hK.out _ _ ⟨z4, z5⟩ (fun hHeld3 => ?_)
   clear hK K z4 z5 hHeld2
   have hb9 := HB8.out.trans (hq9.mono (by omega))
   have k2 := K2.out.keep hq9
   have k3 := K3.out.keep hq9
   have hsz9 := hq9.size
   clear HB8 K2 K3 hq9 HU8
   have u0 := k2.c 0 rfl
   have u1 := k2.c 1 rfl
   have u2 := k3.c 0 rfl
   have u3 := k3.c 1 rfl
   have f0 := k2.frozen 0
   have f1 := k2.frozen 1
   have f2 := k3.frozen 0
   have f3 := k3.frozen 1
   have HB9 := zh hb9; clear hb9
   have K2 := zh k2; clear k2
   have K3 := zh k3; clear k3
   (try simp only [Act.put, zA, zB, zC])
   refine zR 11 (h := fun K hK => ?_)
   go_simp
   refine hK.out _ _ ?_ (fun hHeld => ?_)
   ·
    ((try dsimp only); go_keep)
   clear hK K
   (try simp only [Act.put, zA, zB, zC])
   refine zR 12 (h := fun K hK => ?_)
   go_simp
   refine hK.out _ _ ?_ (fun hHeld => ?_)
   ·
    ((try dsimp only); go_keep)
   clear hK K
   (try simp only [Act.put, zA, zB, zC])
   refine zT 13 (h := ?_)
   (try simp only [Act.put, zA, zB, zC])
   refine wpAnyH_done (by kernel_rfl) ?_ _
   split
   ·
    rename_i d hd
    obtain rfl : (6 : Tmp) = d := Option.some.inj (show some (6 : Tmp) = some d from hd)
    clear hd
    simp only [List.set_cons_zero, List.set_cons_succ]
    go_wp2_with fail
    have hvQ : sgn (na != nb) (val (dg Q)) = Z1 := by rw [val_dg]; exact HZ.out.1.symm
    have hvR : sgn nb (val (dg Rr)) = Z2 := by rw [val_dg]; exact HZ.out.2.symm
    rw [hx1] at hvQ
    rw [hvQ, hvR]
    clear hvQ hvR
    refine bodyPost_ret (v := .tuple #[IntV Z1, IntV Z2, .int .i64 0]) (by simp [results, Try.results62, go_sem, u0, u1, u2, u3]) rfl ⟨?_, rfl⟩
    exact (((HB9.out.setCell (p := ⟨w.heap.size + 2, 0, none⟩) (Nat.le_add_right _ _) _).setCell (p := ⟨w.heap.size + 2, 1, none⟩) (Nat.le_add_right _ _) _).setCell (p := ⟨w.heap.size + 3, 0, none⟩) (Nat.le_add_right _ _) _).setCell (p := ⟨w.heap.size + 3, 1, none⟩) (Nat.le_add_right _ _) _
   ·
    rename_i hd
    exact absurd (show some (6 : Tmp) = none from hd) (by simp)
 ·
  have hn : ¬ na = nb := fun h => hway (Or.inl h)
  have hR0 : 0 < Rr := by omega
  have hz := HUP.out hn hR0
  have HZ := zh hz; clear hz
  have hx1 : (na != nb) = true := by simp [hn]
  have hx2 : (!na == nb) = true := by revert hn; cases na <;> cases nb <;> simp
  have hl : 0 < (dg Rr).length := by
   rcases Nat.eq_zero_or_pos (dg Rr).length with h | h
   ·
    have := dg_nil (List.length_eq_zero_iff.1 h); omega
   ·
    exact h
  clear hway
  have hone : dg 1 = [1] := dg_one (by decide) (by decide)
  have hv1 : Row (w7.alloc (.cells #[.int .u32 1] 75)) (.slice (some ⟨w7.heap.size, 0, none⟩) 1 1) (dg 1).length (cs32 (dg 1)) := by
   rw [hone]
   exact Row.ofBlk (Blk.new w7 75 [.int .u32 1]) (m := 1) (cap := 1) (Nat.le_refl _) (by decide) 1
  have hal : Below w7.heap.size w7 (w7.alloc (.cells #[.int .u32 1] 75)) := (Below.refl _ _).alloc (Nat.le_refl _) _
  have hvq := HV7.out.below hal (Nat.le_refl _)
  have hlen1 : (dg 1).length ≤ 274877906944 := by rw [hone]; decide
  have hadd := add_any Q 1 _ _ _ hvq hv1 HQL.out hlen1
  have HADD := zh hadd; clear hadd
  have HV6B := zh hv6b; clear hv6b
  clear hone hv1 hvq hlen1
  go_wp2_with fail
  refine (HADD.out).mono ?_
  rintro e w8 ⟨hq8, v8, rfl, hv8⟩
  dsimp only
  have h78 : Below w7.heap.size w7 w8 := hal.trans (hq8.mono hal.size)
  have hsz8 := h78.size
  have hsub := subtract_any D Rr _ _ _ (HV6B.out.below h78 (Nat.le_refl _)) (HU7.out.below h78 (Nat.le_refl _)) (Nat.le_of_lt HRD.out) (Nat.le_trans HDLL.out (by decide))
  have HSUB := zh hsub; clear hsub
  go_wp2_with fail
  refine (HSUB.out).mono ?_
  rintro e w9 ⟨hq9, v9, rfl, hv9⟩
  dsimp only
  have h79 : Below w7.heap.size w7 w9 := h78.trans (hq9.mono h78.size)
  have y0 := (h79.cell (p := ⟨w.heap.size, 0, none⟩) (show w.heap.size < w7.heap.size by omega)).trans z0
  have y2 := (h79.cell (p := ⟨w.heap.size + 1, 0, none⟩) (show w.heap.size + 1 < w7.heap.size by omega)).trans z2
  have hb9 := HB7.out.trans (h79.mono HB7.out.size)
  have k2 := K2.out.keep h79
  have k3 := K3.out.keep h79
  have hsz9 := h79.size
  have hv8 := hv8.below hq9 (Nat.le_refl _)
  have hQ1l : (dg (Q + 1)).length ≤ 274877906944 := Nat.le_trans (dg_add1 Q) (by have := HQLL.out; omega)
  have hR1l : (dg (D - Rr)).length ≤ 274877906944 := Nat.le_trans (dg_le_of_le (Nat.sub_le _ _) HDLL.out) (by decide)
  clear HB7 K2 K3 HV7 HU7 HQL HRL z0 z2 hal hq8 hq9 h78 h79 HADD HSUB HV6B
  obtain ⟨Q', hQ'⟩ : ∃ x, x = Q + 1 := ⟨_, rfl⟩
  obtain ⟨R', hR'⟩ : ∃ x, x = D - Rr := ⟨_, rfl⟩
  rw [← hQ'] at hv8 hQ1l HZ
  rw [← hR'] at hv9 hR1l HZ
  clear hQ' hR'
  obtain ⟨w7, rfl⟩ : ∃ x, x = w9 := ⟨_, rfl⟩
  obtain ⟨a7, c7, rfl, -⟩ := hv8.slice
  obtain ⟨a8, c8, rfl, -⟩ := hv9.slice
  have z0 := y0
  have z2 := y2
  clear y0 y2
  have HB7 := zh hb9; clear hb9
  have K2 := zh k2; clear k2
  have K3 := zh k3; clear k3
  have HV7 := zh hv8; clear hv8
  have HU7 := zh hv9; clear hv9
  have HQL := zh hQ1l; clear hQ1l
  have HRL := zh hR1l; clear hR1l
  go_wp2_with fail
  refine wp_region_held_drew (S := fun w' => w'.cell? ⟨w.heap.size, 0, none⟩ = some (.bool na) ∧ w'.cell? ⟨w.heap.size + 1, 0, none⟩ = some (.bool nb)) (by kernel_rfl) ?_ (fun hHeld => ?_)
  ·
   go_keep
  refine zT 0 (h := ?_)
  (try simp only [Act.put, zA, zB, zC])
  refine zT 1 (h := ?_)
  (try simp only [Act.put, zA, zB, zC])
  refine zT 2 (h := ?_)
  (try simp only [Act.put, zA, zB, zC])
  refine zT 3 (h := ?_)
  (try simp only [Act.put, zA, zB, zC])
  refine zT 4 (h := ?_)
  (try simp only [Act.put, zA, zB, zC])
  refine zT 5 (h := ?_)
  (try simp only [Act.put, zA, zB, zC])
  refine zT 7 (h := ?_)
  (try simp only [Act.put, zA, zB, zC])
  refine zT 8 (h := ?_)
  (try simp only [Act.put, zA, zB, zC])
  refine zT 9 (h := ?_)
  (try simp only [Act.put, zA, zB, zC])
  refine zR 6 (h := fun K hK => ?_)
  go_simp
  go_at_call 35
  refine (number_any _ _ _ _ HV7.out.drew (dg_lt _) HQL.out).mono ?_
  rintro e w8 ⟨hq8, rfl⟩
  dsimp only
  have z4 := zK hq8 (show w.heap.size < w7.drew.heap.size by simp; omega) hHeld.1
  have z5 := zK hq8 (show w.heap.size + 1 < w7.drew.heap.size by simp; omega) hHeld.2
  refine hK.out _ _ ⟨z4, z5⟩ (fun hHeld2 => ?_)
  clear hK K z0 z2 z4 z5 hHeld
  have hb8 := HB7.out.drew.trans (hq8.mono (by simp; omega))
  have k2 := K2.out.drew.keep hq8
  have k3 := K3.out.drew.keep hq8
  have hsz8 := hq8.size
  simp only [World.size_drew] at hsz8
  have hu8 := HU7.out.drew.below hq8 (Nat.le_refl _)
  clear HB7 K2 K3 hq8 HU7 HV7
  have HB8 := zh hb8; clear hb8
  have K2 := zh k2; clear k2
  have K3 := zh k3; clear k3
  have HU8 := zh hu8; clear hu8
  (try simp only [Act.put, zA, zB, zC])
  refine zR 10 (h := fun K hK => ?_)
  go_simp
  go_at_call 35
  refine (number_any _ _ _ _ HU8.out (dg_lt _) HRL.out).mono ?_
  rintro e w9 ⟨hq9, rfl⟩
  dsimp only
  have z4 := zK hq9 (show w.heap.size < w8.heap.size by omega) hHeld2.1
  have z5 := zK hq9 (show w.heap.size + 1 < w8.heap.size by omega) hHeld2.2
  refine hK.out _ _ ⟨z4, z5⟩ (fun hHeld3 => ?_)
  clear hK K z4 z5 hHeld2
  have hb9 := HB8.out.trans (hq9.mono (by omega))
  have k2 := K2.out.keep hq9
  have k3 := K3.out.keep hq9
  have hsz9 := hq9.size
  clear HB8 K2 K3 hq9 HU8
  have u0 := k2.c 0 rfl
  have u1 := k2.c 1 rfl
  have u2 := k3.c 0 rfl
  have u3 := k3.c 1 rfl
  have f0 := k2.frozen 0
  have f1 := k2.frozen 1
  have f2 := k3.frozen 0
  have f3 := k3.frozen 1
  have HB9 := zh hb9; clear hb9
  have K2 := zh k2; clear k2
  have K3 := zh k3; clear k3
  (try simp only [Act.put, zA, zB, zC])
  refine zR 11 (h := fun K hK => ?_)
  go_simp
  refine hK.out _ _ ?_ (fun hHeld => ?_)
  ·
   ((try dsimp only); go_keep)
  clear hK K
  (try simp only [Act.put, zA, zB, zC])
  refine zR 12 (h := fun K hK => ?_)
  go_simp
  refine hK.out _ _ ?_ (fun hHeld => ?_)
  ·
   ((try dsimp only); go_keep)
  clear hK K
  (try simp only [Act.put, zA, zB, zC])
  refine zT 13 (h := ?_)
  (try simp only [Act.put, zA, zB, zC])
  refine wpAnyH_done (by kernel_rfl) ?_ _
  split
  ·
   rename_i d hd
   obtain rfl : (6 : Tmp) = d := Option.some.inj (show some (6 : Tmp) = some d from hd)
   clear hd
   simp only [List.set_cons_zero, List.set_cons_succ]
   go_wp2_with fail
   have hvQ : sgn (na != nb) (val (dg Q')) = Z1 := by rw [val_dg]; exact HZ.out.1.symm
   have hvR : sgn nb (val (dg R')) = Z2 := by rw [val_dg]; exact HZ.out.2.symm
   rw [hx1] at hvQ
   rw [hvQ, hvR]
   clear hvQ hvR
   refine bodyPost_ret (v := .tuple #[IntV Z1, IntV Z2, .int .i64 0]) (by simp [results, Try.results62, go_sem, u0, u1, u2, u3]) rfl ⟨?_, rfl⟩
   exact (((HB9.out.setCell (p := ⟨w.heap.size + 2, 0, none⟩) (Nat.le_add_right _ _) _).setCell (p := ⟨w.heap.size + 2, 1, none⟩) (Nat.le_add_right _ _) _).setCell (p := ⟨w.heap.size + 3, 0, none⟩) (Nat.le_add_right _ _) _).setCell (p := ⟨w.heap.size + 3, 1, none⟩) (Nat.le_add_right _ _) _
  ·
   rename_i hd
   exact absurd (show some (6 : Tmp) = none from hd) (by simp)
end Go.Proofs.Ytjpalbonclgflaa

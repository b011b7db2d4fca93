/- integer.divide and Div at numbers of one digit. -/
import Derived.Test.YtjpalbonclgflaaPart12
import Derived.Test.YtjpalbonclgflaaPart7
namespace Go.Proofs.Ytjpalbonclgflaa
open Go.RowKit

theorem dg_one {X : Nat} (h0 : 0 < X) (h : X < 4294967296) : dg X = [X] := by
 rw [dg_pos h0, Nat.mod_eq_of_lt h, Nat.div_eq_of_lt h, dg_zero]
theorem tz_one {X : Nat} (h : X < 4294967296) : tz [X] = dg X := by
 have h1 := tz_lt (l := [X]) (fun d hd => by rw [List.mem_singleton.1 hd]; exact h)
 rw [← h1]; simp [val]
theorem wp_tail2 {P : Program} {a b rest : Code} {Q : Exit → Act → World → Prop} {s : Act} {w : World} (h : ∀ r : Code, Code.wp P (a.seq (b.seq r)) Q s w) : Code.wp P (a.seq (b.seq rest)) Q s w := h _
theorem wp_tail3 {P : Program} {a b c rest : Code} {Q : Exit → Act → World → Prop} {s : Act} {w : World} (h : ∀ r : Code, Code.wp P (a.seq (b.seq (c.seq r))) Q s w) : Code.wp P (a.seq (b.seq (c.seq rest))) Q s w := h _
def DivRet (q r : Nat) (w : World) (e : Ending) (w' : World) : Prop := Below w.heap.size w w' ∧ ∃ v u, e = .returned (.tuple #[v, u]) ∧ Row w' v (dg q).length (cs32 (dg q)) ∧ Row w' u (dg r).length (cs32 (dg r))
set_option maxRecDepth 100000 in
set_option maxHeartbeats 3200000 in
theorem divide_one (X D : Nat) (vx vy : Value) (w : World) (hx : Row w vx (dg X).length (cs32 (dg X))) (hy : Row w vy (dg D).length (cs32 (dg D))) (hX : X < 4294967296) (hD0 : 0 < D) (hD : D < 4294967296) :
  Calls Try.prog 76 #[vx, vy] w (DivRet (X / D) (X % D) w) := by
 have hcmp := compare_any X D vx vy w hx hy
 have hdl : (dg D).length = 1 := by rw [dg_one hD0 hD]; rfl
 obtain ⟨vb, vd, rfl, hle2⟩ := hy.slice
 by_cases hlt : X < D
 ·
  rw [Nat.div_eq_of_lt hlt, Nat.mod_eq_of_lt hlt]
  have hc : cmpN X D = -1 := by simp [cmpN]; omega
  rw [hc] at hcmp
  have HX := zh hx; clear hx
  have HC := zh hcmp; clear hcmp
  clear hy hdl
  go_enter Try.func76, Try.ntmps76
  refine wp_tail2 (fun code2 => ?_)
  go_wp2_with fail
  go_at_call 42
  refine (HC.out).mono ?_
  rintro e w1 ⟨hq1, rfl⟩
  have hx1 := HX.out.below hq1 (Nat.le_refl _)
  have HX1 := zh hx1; clear hx1
  have HQ1 := zh hq1; clear hq1
  go_wp2_with fail
  go_ret2
  exact ⟨HQ1.out, _, _, rfl, by rw [dg_zero]; exact .inl ⟨rfl, rfl, rfl⟩, HX1.out⟩
 ·
  have hc : ¬ cmpN X D < 0 := by simp only [cmpN]; split <;> (try split) <;> omega
  obtain ⟨z, hz⟩ : ∃ z, z = cmpN X D := ⟨_, rfl⟩
  rw [← hz] at hcmp hc
  rw [dg_one (by omega) hX] at hx
  rw [hdl] at hcmp
  rw [hdl]
  rw [dg_one hD0 hD] at hy
  replace hy : Row w (.slice vb 1 vd) 1 (cs32 [D]) := hy
  replace hx : Row w vx 1 (cs32 [X]) := hx
  clear hdl hle2
  have hsh := fun w' h => short_one X D vx w' h hX hD0 hD
  have htz := tz_one (X := X % D) (by have := Nat.mod_lt X hD0; omega)
  obtain ⟨Q, hQ⟩ : ∃ Q, Q = X / D := ⟨_, rfl⟩
  obtain ⟨Rr, hRr⟩ : ∃ Rr, Rr = X % D := ⟨_, rfl⟩
  rw [← hQ, ← hRr]
  rw [← hQ, ← hRr] at hsh
  rw [← hRr] at htz
  have HX := zh hx; clear hx
  have HY := zh hy; clear hy
  have HC := zh hcmp; clear hcmp
  have HSH := zh hsh; clear hsh
  have HTZ := zh htz; clear htz
  clear hz hQ hRr hlt
  go_enter Try.func76, Try.ntmps76
  refine wp_tail3 (fun code2 => ?_)
  go_wp2_with fail
  go_at_call 42
  refine (HC.out).mono ?_
  rintro e w1 ⟨hq1, rfl⟩
  have hx1 := HX.out.below hq1 (Nat.le_refl _)
  have hy1 := HY.out.below hq1 (Nat.le_refl _)
  obtain ⟨b, off, rfl, hbw, hce⟩ := hy1.at_ (by simp)
  have c0 := hce 0 _ (cs32_get (d := D) (i := 0) rfl)
  rw [Nat.add_zero] at c0
  clear hy1 hce
  have HX1 := zh hx1; clear hx1
  have HQ1 := zh hq1; clear hq1
  go_wp2_with fail
  go_at_call 82
  refine (HSH.out _ HX1.out).mono ?_
  rintro e w2 ⟨hq2, v2, rfl, hv2⟩
  obtain ⟨a2, c2, rfl, -⟩ := hv2.slice
  have HV2 := zh hv2; clear hv2
  have HQ2 := zh hq2; clear hq2
  go_wp2_with fail
  go_at_call 58
  have hr2 : Row (w2.alloc (.cells #[.int .u32 (Rr : Int)] 75)) (.slice (some ⟨w2.heap.size, 0, none⟩) 1 1) 1 (cs32 [Rr]) := Row.ofBlk (Blk.new w2 75 [.int .u32 (Rr : Int)]) (m := 1) (cap := 1) (Nat.le_refl _) (by decide) 1
  refine (trim_any [Rr] _ _ hr2).mono ?_
  rintro e w3 ⟨rfl, v3, rfl, hv3⟩
  rw [HTZ.out] at hv3
  have HV3 := zh hv3; clear hv3
  clear hr2
  go_wp2_with fail
  go_ret2
  have s1 := HQ1.out.trans (HQ2.out.mono HQ1.out.size)
  exact ⟨s1.alloc s1.size _, _, _, rfl, HV2.out.below ((Below.refl _ _).alloc (Nat.le_refl _) _) (Nat.le_refl _), HV3.out⟩
set_option maxRecDepth 100000 in
set_option maxHeartbeats 3200000 in
theorem div_one (X D : Nat) (w : World) (hX : X < 4294967296) (hD0 : 0 < D) (hD : D < 4294967296) :
  Calls Try.prog 62 #[IntV (X : Int), IntV (D : Int)] w (Ret w (.tuple #[IntV ((X / D : Nat) : Int), IntV ((X % D : Nat) : Int), .int .i64 0])) := by
 have hsX : (imag (X : Int)).size ≤ 1099511627776 := by
  rw [imag_size]
  have := bb_length_le (x := X) (m := 4) (by omega)
  simp at this ⊢; omega
 have hsD : (imag (D : Int)).size ≤ 1099511627776 := by
  rw [imag_size]
  have := bb_length_le (x := D) (m := 4) (by omega)
  simp at this ⊢; omega
 have hdx := fun w' => digits_any false (imag (X : Int)) w' hsX
 have hdd := fun w' => digits_any false (imag (D : Int)) w' hsD
 rw [imag_list, bval_bb, Int.natAbs_natCast] at hdx hdd
 have hdv := fun vx vy w' h1 h2 => divide_one X D vx vy w' h1 h2 hX hD0 hD
 have hdl : (dg D).length = 1 := by rw [dg_one hD0 hD]; rfl
 have hnX : ineg (X : Int) = false := by simp [ineg]
 have hnD : ineg (D : Int) = false := by simp [ineg]
 show Calls Try.prog 62 #[.agg #[.bool (ineg (X : Int)), .string (imag (X : Int))], .agg #[.bool (ineg (D : Int)), .string (imag (D : Int))]] w _
 rw [hnX, hnD]
 obtain ⟨sa, hsa⟩ : ∃ sa, sa = imag (X : Int) := ⟨_, rfl⟩
 obtain ⟨sb, hsb⟩ : ∃ sb, sb = imag (D : Int) := ⟨_, rfl⟩
 rw [← hsa, ← hsb]
 rw [← hsa] at hdx
 rw [← hsb] at hdd
 obtain ⟨Q, hQ⟩ : ∃ Q, Q = X / D := ⟨_, rfl⟩
 obtain ⟨Rr, hRr⟩ : ∃ Rr, Rr = X % D := ⟨_, rfl⟩
 rw [← hQ, ← hRr] at hdv ⊢
 have hQl : (dg Q).length ≤ 274877906944 := by
  have := dg_length_le (x := Q) (m := 1) (by have := Nat.div_le_self X D; omega)
  omega
 have hRl : (dg Rr).length ≤ 274877906944 := by
  have := dg_length_le (x := Rr) (m := 1) (by have := Nat.mod_lt X hD0; omega)
  omega
 have HDX := zh hdx; clear hdx
 have HDD := zh hdd; clear hdd
 have HDV := zh hdv; clear hdv
 have HDL := zh hdl; clear hdl
 have HQL := zh hQl; clear hQl
 have HRL := zh hRl; clear hRl
 clear hsX hsD hnX hnD hsa hsb hQ hRr
 obtain ⟨w4, hw4⟩ : ∃ w4, w4 = ((((w.alloc (.cells #[.bool false, .string sa] 33)).alloc (.cells #[.bool false, .string sb] 33)).alloc (.cells #[.bool false, .string ⟨#[]⟩] 33)).alloc (.cells #[.bool false, .string ⟨#[]⟩] 33)) := ⟨_, rfl⟩
 have hb0 : Blk w4 w.heap.size 33 [.bool false, .string sa] := by rw [hw4]; exact (((Blk.new w 33 _).alloc _).alloc _).alloc _
 have hb1 : Blk w4 (w.heap.size + 1) 33 [.bool false, .string sb] := by
  rw [hw4]
  have h := ((Blk.new (w.alloc (.cells #[.bool false, .string sa] 33)) 33 [.bool false, .string sb]).alloc (.cells #[.bool false, .string ⟨#[]⟩] 33)).alloc (.cells #[.bool false, .string ⟨#[]⟩] 33)
  simp only [World.size_alloc] at h
  exact h
 have hb2 : Blk w4 (w.heap.size + 2) 33 [.bool false, .string ⟨#[]⟩] := by
  rw [hw4]
  have h := (Blk.new ((w.alloc (.cells #[.bool false, .string sa] 33)).alloc (.cells #[.bool false, .string sb] 33)) 33 [.bool false, .string ⟨#[]⟩]).alloc (.cells #[.bool false, .string ⟨#[]⟩] 33)
  simp only [World.size_alloc] at h
  exact h
 have hb3 : Blk w4 (w.heap.size + 3) 33 [.bool false, .string ⟨#[]⟩] := by
  rw [hw4]
  have h := Blk.new (((w.alloc (.cells #[.bool false, .string sa] 33)).alloc (.cells #[.bool false, .string sb] 33)).alloc (.cells #[.bool false, .string ⟨#[]⟩] 33)) 33 [.bool false, .string ⟨#[]⟩]
  simp only [World.size_alloc] at h
  exact h
 have hbel : Below w.heap.size w w4 := by
  rw [hw4]
  exact ((((Below.refl w.heap.size w).alloc (Nat.le_refl _) _).alloc (by simp) _).alloc (by simp <;> omega) _).alloc (by simp <;> omega) _
 have hsz4 : w4.heap.size = w.heap.size + 4 := by rw [hw4]; simp only [World.size_alloc]
 have x0 := hb0.c 0 rfl
 have x1 := hb0.c 1 rfl
 have y0 := hb1.c 0 rfl
 have y1 := hb1.c 1 rfl
 have HB0 := zh hb0; clear hb0
 have HB1 := zh hb1; clear hb1
 have HB2 := zh hb2; clear hb2
 have HB3 := zh hb3; clear hb3
 have HB := zh hbel; clear hbel
 go_enter Try.func62, Try.ntmps62
 go_wp2_with fail
 rw [← hw4]
 clear hw4
 simp only [Nat.add_assoc, Nat.reduceAdd]
 refine wp_region_held_drew (S := fun w' => w'.cell? ⟨w.heap.size, 0, none⟩ = some (.bool false) ∧ w'.cell? ⟨w.heap.size, 1, none⟩ = some (.string sa) ∧ w'.cell? ⟨w.heap.size + 1, 0, none⟩ = some (.bool false) ∧ w'.cell? ⟨w.heap.size + 1, 1, none⟩ = some (.string sb)) (by kernel_rfl) ?_ (fun hHeld => ?_)
 ·
  go_keep
 refine zT 0 (h := ?_)
 (try simp only [Act.put, zA, zB, zC])
 refine zT 2 (h := ?_)
 (try simp only [Act.put, zA, zB, zC])
 refine zR 1 (h := fun K hK => ?_)
 go_simp
 go_at_call 40
 refine (HDX.out _).mono ?_
 rintro e w5 ⟨hq5, v5, rfl, hv5⟩
 dsimp only
 have z0 := zK hq5 (show w.heap.size < w4.drew.heap.size by simp; omega) hHeld.1
 have z1 := zK hq5 (show w.heap.size < w4.drew.heap.size by simp; omega) hHeld.2.1
 have z2 := zK hq5 (show w.heap.size + 1 < w4.drew.heap.size by simp; omega) hHeld.2.2.1
 have z3 := zK hq5 (show w.heap.size + 1 < w4.drew.heap.size by simp; omega) hHeld.2.2.2
 refine hK.out _ _ ⟨z0, z1, z2, z3⟩ (fun hHeld2 => ?_)
 clear hK K x0 x1 y0 y1 z0 z1 z2 z3 hHeld
 have hb5 := HB.out.drew.trans (hq5.mono (by simp; omega))
 have k2 := HB2.out.drew.keep hq5
 have k3 := HB3.out.drew.keep hq5
 have k0 := HB0.out.drew.keep hq5
 have k1 := HB1.out.drew.keep hq5
 have hsz5 := hq5.size
 simp only [World.size_drew] at hsz5
 clear HB HB0 HB1 HB2 HB3 hq5
 have HB5 := zh hb5; clear hb5
 have K0 := zh k0; clear k0
 have K1 := zh k1; clear k1
 have K2 := zh k2; clear k2
 have K3 := zh k3; clear k3
 have HV5 := zh hv5; clear hv5
 (try simp only [Act.put, zA, zB, zC])
 refine zR 3 (h := fun K hK => ?_)
 go_simp
 go_at_call 40
 refine (HDD.out _).mono ?_
 rintro e w6 ⟨hq6, v6, rfl, hv6⟩
 dsimp only
 have z0 := zK hq6 (show w.heap.size < w5.heap.size by omega) hHeld2.1
 have z1 := zK hq6 (show w.heap.size < w5.heap.size by omega) hHeld2.2.1
 have z2 := zK hq6 (show w.heap.size + 1 < w5.heap.size by omega) hHeld2.2.2.1
 have z3 := zK hq6 (show w.heap.size + 1 < w5.heap.size by omega) hHeld2.2.2.2
 refine hK.out _ _ ⟨z0, z1, z2, z3⟩ (fun hHeld3 => ?_)
 clear hK K z0 z1 z2 z3 hHeld2
 have hb6 := HB5.out.trans (hq6.mono (by omega))
 have k0 := K0.out.keep hq6
 have k1 := K1.out.keep hq6
 have k2 := K2.out.keep hq6
 have k3 := K3.out.keep hq6
 have hsz6 := hq6.size
 have hv5 := HV5.out.below hq6 (Nat.le_refl _)
 clear HB5 K0 K1 K2 K3 hq6 HV5
 obtain ⟨a6, c6, rfl, -⟩ := hv6.slice
 rw [HDL.out] at hv6 ⊢
 have hv6' : Row w6 (.slice a6 1 c6) (dg D).length (cs32 (dg D)) := by rw [HDL.out]; exact hv6
 have HB6 := zh hb6; clear hb6
 have K0 := zh k0; clear k0
 have K1 := zh k1; clear k1
 have K2 := zh k2; clear k2
 have K3 := zh k3; clear k3
 have HV5 := zh hv5; clear hv5
 have HV6 := zh hv6'; clear hv6'
 clear hv6
 (try simp only [Act.put, zA, zB, zC])
 refine zT 4 (h := ?_)
 (try simp only [Act.put, zA, zB, zC])
 refine zT 5 (h := ?_)
 (try simp only [Act.put, zA, zB, zC])
 refine wpAnyH_done (by kernel_rfl) ?_ _
 go_wp2_with fail
 go_at_call 76
 refine (HDV.out _ _ _ HV5.out HV6.out).mono ?_
 rintro e w7 ⟨hq7, v7, u7, rfl, hv7, hu7⟩
 dsimp only
 have z0 := zK hq7 (show w.heap.size < w6.heap.size by omega) hHeld3.1
 have z2 := zK hq7 (show w.heap.size + 1 < w6.heap.size by omega) hHeld3.2.2.1
 clear hHeld3
 have hb7 := HB6.out.trans (hq7.mono (by omega))
 have k2 := K2.out.keep hq7
 have k3 := K3.out.keep hq7
 have hsz7 := hq7.size
 clear HB6 K0 K1 K2 K3 hq7 HV5 HV6
 obtain ⟨a7, c7, rfl, -⟩ := hv7.slice
 obtain ⟨a8, c8, rfl, -⟩ := hu7.slice
 have HB7 := zh hb7; clear hb7
 have K2 := zh k2; clear k2
 have K3 := zh k3; clear k3
 have HV7 := zh hv7; clear hv7
 have HU7 := zh hu7; clear hu7
 go_wp2_with fail
 refine wp_region_held_drew (S := fun w' => w'.cell? ⟨w.heap.size, 0, none⟩ = some (.bool false) ∧ w'.cell? ⟨w.heap.size + 1, 0, none⟩ = some (.bool false)) (by kernel_rfl) ?_ (fun hHeld => ?_)
 ·
  go_keep
 refine zT 0 (h := ?_)
 (try simp only [Act.put, zA, zB, zC])
 refine zT 1 (h := ?_)
 (try simp only [Act.put, zA, zB, zC])
 refine zT 2 (h := ?_)
 (try simp only [Act.put, zA, zB, zC])
 refine zT 3 (h := ?_)
 (try simp only [Act.put, zA, zB, zC])
 refine zT 4 (h := ?_)
 (try simp only [Act.put, zA, zB, zC])
 refine zT 5 (h := ?_)
 (try simp only [Act.put, zA, zB, zC])
 refine zT 7 (h := ?_)
 (try simp only [Act.put, zA, zB, zC])
 refine zT 8 (h := ?_)
 (try simp only [Act.put, zA, zB, zC])
 refine zT 9 (h := ?_)
 (try simp only [Act.put, zA, zB, zC])
 refine zR 6 (h := fun K hK => ?_)
 go_simp
 go_at_call 35
 refine (number_any _ _ _ _ HV7.out.drew (dg_lt _) HQL.out).mono ?_
 rintro e w8 ⟨hq8, rfl⟩
 dsimp only
 have z4 := zK hq8 (show w.heap.size < w7.drew.heap.size by simp; omega) hHeld.1
 have z5 := zK hq8 (show w.heap.size + 1 < w7.drew.heap.size by simp; omega) hHeld.2
 refine hK.out _ _ ⟨z4, z5⟩ (fun hHeld2 => ?_)
 clear hK K z0 z2 z4 z5 hHeld
 have hb8 := HB7.out.drew.trans (hq8.mono (by simp; omega))
 have k2 := K2.out.drew.keep hq8
 have k3 := K3.out.drew.keep hq8
 have hsz8 := hq8.size
 simp only [World.size_drew] at hsz8
 have hu8 := HU7.out.drew.below hq8 (Nat.le_refl _)
 clear HB7 K2 K3 hq8 HU7 HV7
 have HB8 := zh hb8; clear hb8
 have K2 := zh k2; clear k2
 have K3 := zh k3; clear k3
 have HU8 := zh hu8; clear hu8
 (try simp only [Act.put, zA, zB, zC])
 refine zR 10 (h := fun K hK => ?_)
 go_simp
 go_at_call 35
 refine (number_any _ _ _ _ HU8.out (dg_lt _) HRL.out).mono ?_
 rintro e w9 ⟨hq9, rfl⟩
 dsimp only
 have z4 := zK hq9 (show w.heap.size < w8.heap.size by omega) hHeld2.1
 have z5 := zK hq9 (show w.heap.size + 1 < w8.heap.size by omega) hHeld2.2
 refine hK.out _ _ ⟨z4, z5⟩ (fun hHeld3 => ?_)
 clear hK K z4 z5 hHeld2
 have hb9 := HB8.out.trans (hq9.mono (by omega))
 have k2 := K2.out.keep hq9
 have k3 := K3.out.keep hq9
 have hsz9 := hq9.size
 clear HB8 K2 K3 hq9 HU8
 have u0 := k2.c 0 rfl
 have u1 := k2.c 1 rfl
 have u2 := k3.c 0 rfl
 have u3 := k3.c 1 rfl
 have f0 := k2.frozen 0
 have f1 := k2.frozen 1
 have f2 := k3.frozen 0
 have f3 := k3.frozen 1
 have HB9 := zh hb9; clear hb9
 have K2 := zh k2; clear k2
 have K3 := zh k3; clear k3
 (try simp only [Act.put, zA, zB, zC])
 refine zR 11 (h := fun K hK => ?_)
 go_simp
 refine hK.out _ _ ?_ (fun hHeld => ?_)
 ·
  ((try dsimp only); go_keep)
 clear hK K
 (try simp only [Act.put, zA, zB, zC])
 refine zR 12 (h := fun K hK => ?_)
 go_simp
 refine hK.out _ _ ?_ (fun hHeld => ?_)
 ·
  ((try dsimp only); go_keep)
 clear hK K
 (try simp only [Act.put, zA, zB, zC])
 refine zT 13 (h := ?_)
 (try simp only [Act.put, zA, zB, zC])
 refine wpAnyH_done (by kernel_rfl) ?_ _
 split
 ·
  rename_i d hd
  obtain rfl : (6 : Tmp) = d := Option.some.inj (show some (6 : Tmp) = some d from hd)
  clear hd
  simp only [List.set_cons_zero, List.set_cons_succ]
  go_wp2_with fail
  have hvQ : sgn false (val (dg Q)) = (Q : Int) := by rw [val_dg]; rfl
  have hvR : sgn false (val (dg Rr)) = (Rr : Int) := by rw [val_dg]; rfl
  rw [hvQ, hvR]
  clear hvQ hvR
  refine bodyPost_ret (v := .tuple #[IntV (Q : Int), IntV (Rr : Int), .int .i64 0]) (by simp [results, Try.results62, go_sem, u0, u1, u2, u3]) rfl ⟨?_, rfl⟩
  exact (((HB9.out.setCell (p := ⟨w.heap.size + 2, 0, none⟩) (Nat.le_add_right _ _) _).setCell (p := ⟨w.heap.size + 2, 1, none⟩) (Nat.le_add_right _ _) _).setCell (p := ⟨w.heap.size + 3, 0, none⟩) (Nat.le_add_right _ _) _).setCell (p := ⟨w.heap.size + 3, 1, none⟩) (Nat.le_add_right _ _) _
 ·
  rename_i hd
  exact absurd (show some (6 : Tmp) = none from hd) (by simp)
end Go.Proofs.Ytjpalbonclgflaa

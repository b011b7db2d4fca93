/- sturm.at (printed by gen_at.py). -/
import Derived.Test.YtjpalbonclgflaaPart18
namespace Go.Proofs.Ytjpalbonclgflaa
open Go.RowKit

set_option maxRecDepth 100000 in
set_option maxHeartbeats 6400000 in
theorem sat_any (l : List Int) (v : Value) (q : Rat) (w : World) (m : Nat) (hr : Row w v l.length (civ l)) (hl : l.length ≤ 65) (hs : ∀ x ∈ l, zs m x) (hq : rs m q) (hm : m ≤ 1000000000) :
  Calls Try.prog 39 #[v, RatV q] w (Ret w (.int .i64 (cmpZ (atV l q.num (q.den : Int)).1 0))) := by
 obtain ⟨va, vc, rfl, hle⟩ := hr.slice
 obtain ⟨N, hN⟩ : ∃ N, N = q.num := ⟨_, rfl⟩
 obtain ⟨D, hD⟩ : ∃ D : Int, D = (q.den : Int) := ⟨_, rfl⟩
 have hqs := hq
 obtain ⟨hqn, hqd⟩ := hqs
 rw [← hN] at hqn
 rw [← hD] at hqd
 have hrat : RatV q = .agg #[.bool (ineg N), .string (imag N), .bool (ineg D), .string (imag D)] := by rw [hN, hD]
 rw [hrat, ← hN, ← hD]
 clear hrat hq hN hD
 have hsz := fun k => atV_zs (l := l.drop k) (n := N) (d := D) (m := m) (k := m) (fun x hx => hs x (List.mem_of_mem_drop hx)) hqn hqd
 have hlen : ∀ k, (l.drop k).length ≤ 65 := fun k => by rw [List.length_drop]; omega
 have hmb : ∀ k, (l.drop k).length * (m + 1) ≤ 65 * (m + 1) ∧ (l.drop k).length * m ≤ 65 * m := fun k => ⟨Nat.mul_le_mul_right _ (hlen k), Nat.mul_le_mul_right _ (hlen k)⟩
 have hs1 : ∀ k, zs 70000000000 (atV (l.drop k) N D).1 := fun k => ((hsz k).1).mono (by have := (hmb k).1; omega)
 have hs2 : ∀ k, zs 70000000000 (atV (l.drop k) N D).2 := fun k => ((hsz k).2).mono (by have := (hmb k).2; omega)
 obtain ⟨n, hn⟩ : ∃ n, n = l.length := ⟨_, rfl⟩
 rw [← hn] at hr hle hl ⊢
 clear hsz hlen hmb
 have hof := fun w' => iof_any 1 w' (by decide) (by decide)
 have hsg := fun w' => ssign_any (ineg (atV l N D).1) (imag (atV l N D).1) w' (by have := (hs1 0).size; rw [List.drop_zero] at this; omega)
 simp only [ival_canon] at hsg
 have HR0 := zh hr; clear hr
 have HN := zh hn; clear hn
 have HS := zh hs; clear hs
 have HS1 := zh hs1; clear hs1
 have HS2 := zh hs2; clear hs2
 have HQN := zh hqn; clear hqn
 have HQD := zh hqd; clear hqd
 have HOF := zh hof; clear hof
 have HSG := zh hsg; clear hsg
 obtain ⟨w4, hw4⟩ : ∃ w4, w4 = (w.alloc (.cells #[.bool (ineg N), .string (imag N), .bool (ineg D), .string (imag D)] 35)).alloc (.cells #[.bool false, .string ⟨#[]⟩] 33) := ⟨_, rfl⟩
 have k_r : Blk w4 (w.heap.size) 35 [.bool (ineg N), .string (imag N), .bool (ineg D), .string (imag D)] := by
  rw [hw4]
  have h := ((Blk.new (w) 35 [.bool (ineg N), .string (imag N), .bool (ineg D), .string (imag D)]).alloc (.cells #[.bool false, .string ⟨#[]⟩] 33))
  (try simp only [World.size_alloc, Nat.add_assoc, Nat.reduceAdd] at h)
  exact h
 have k_v : Blk w4 (w.heap.size + 1) 33 [.bool false, .string ⟨#[]⟩] := by
  rw [hw4]
  have h := (Blk.new (w.alloc (.cells #[.bool (ineg N), .string (imag N), .bool (ineg D), .string (imag D)] 35)) 33 [.bool false, .string ⟨#[]⟩])
  (try simp only [World.size_alloc, Nat.add_assoc, Nat.reduceAdd] at h)
  exact h
 have tl : Below w.heap.size w w4 := by
  rw [hw4]
  exact (((Below.refl w.heap.size w).alloc (by simp <;> omega) (.cells #[.bool (ineg N), .string (imag N), .bool (ineg D), .string (imag D)] 35)).alloc (by simp <;> omega) (.cells #[.bool false, .string ⟨#[]⟩] 33))
 have hs4 : w4.heap.size = w.heap.size + 2 := by rw [hw4]; simp only [World.size_alloc]
 obtain ⟨r_0, r_f0, r_1, r_f1, r_2, r_f2, r_3, r_f3⟩ := k_r.f4
 have HR := zh k_r; clear k_r
 obtain ⟨v_0, v_f0, v_1, v_f1⟩ := k_v.f2
 have HV := zh k_v; clear k_v
 have HBL := zh tl; clear tl
 go_enter Try.func39, Try.ntmps39
 go_wp2_with fail
 (try rw [← hw4])
 clear hw4
 (try simp only [Nat.add_assoc, Nat.reduceAdd])
 refine (HOF.out _).mono ?_
 rintro e w5 ⟨hq, rfl⟩
 dsimp only
 have k_r := HR.out.keep hq
 have k_v := HV.out.keep hq
 have tl := HBL.out.trans ((hq).mono HBL.out.size)
 clear HBL HR HV
 clear r_0 r_f0 r_1 r_f1 r_2 r_f2 r_3 r_f3
 obtain ⟨r_0, r_f0, r_1, r_f1, r_2, r_f2, r_3, r_f3⟩ := k_r.f4
 have HR := zh k_r; clear k_r
 clear v_0 v_f0 v_1 v_f1
 obtain ⟨v_0, v_f0, v_1, v_f1⟩ := k_v.f2
 have HV := zh k_v; clear k_v
 have HBL := zh tl; clear tl
 clear hq
 have hvl := HV.out.lt
 obtain ⟨b_p, hb_p⟩ : ∃ b, b = w5.heap.size := ⟨_, rfl⟩
 have hal : Below w5.heap.size w5 (w5.alloc (.cells #[.bool (ineg 1), .string (imag 1)] 33)) := (Below.refl _ _).alloc (Nat.le_refl _) _
 have k_p : Blk (w5.alloc (.cells #[.bool (ineg 1), .string (imag 1)] 33)) b_p 33 [.bool (ineg 1), .string (imag 1)] := by rw [hb_p]; exact Blk.new w5 _ _
 have hge_p : w.heap.size ≤ b_p := by rw [hb_p]; exact HBL.out.size
 have k_r := HR.out.keep hal
 have k_v := HV.out.keep hal
 have tl := HBL.out.trans ((hal).mono HBL.out.size)
 clear HBL HR HV
 clear r_0 r_f0 r_1 r_f1 r_2 r_f2 r_3 r_f3
 obtain ⟨r_0, r_f0, r_1, r_f1, r_2, r_f2, r_3, r_f3⟩ := k_r.f4
 have HR := zh k_r; clear k_r
 clear v_0 v_f0 v_1 v_f1
 obtain ⟨v_0, v_f0, v_1, v_f1⟩ := k_v.f2
 have HV := zh k_v; clear k_v
 have HBL := zh tl; clear tl
 clear hal
 obtain ⟨p_0, p_f0, p_1, p_f1⟩ := k_p.f2
 have HP := zh k_p; clear k_p
 have hvp : w.heap.size + 1 < b_p := by rw [hb_p]; exact hvl
 clear hvl
 go_wp2_with fail
 (try rw [← hb_p])
 have HB_p := zh hb_p; clear hb_p
 go_loopw [7] (fun i wr => ∃ k : Nat, k ≤ n ∧ i = .int .i64 ((k : Int) - 1) ∧ Below w.heap.size w wr ∧ Blk wr w.heap.size 35 [.bool (ineg N), .string (imag N), .bool (ineg D), .string (imag D)] ∧ Blk wr (w.heap.size + 1) 33 [.bool (ineg ((atV (l.drop k) N D).1)), .string (imag ((atV (l.drop k) N D).1))] ∧ Blk wr b_p 33 [.bool (ineg ((atV (l.drop k) N D).2)), .string (imag ((atV (l.drop k) N D).2))]) (fun i _ => (intOf i + 1).toNat)
 case atStart =>
  have hd : l.drop n = [] := by rw [HN.out]; exact List.drop_length
  refine ⟨n, Nat.le_refl _, by go_num, HBL.out, HR.out, ?_, ?_⟩
  ·
   rw [hd, atV_nil]; show Blk _ _ _ [.bool (ineg 0), .string (imag 0)]; rw [ineg_zero, imag_zero]; exact HV.out
  ·
   rw [hd, atV_nil]; exact HP.out
 case round =>
  clear r_0 r_f0 r_1 r_f1 r_2 r_f2 r_3 r_f3 v_0 v_f0 v_1 v_f1 p_0 p_f0 p_1 p_f1 HBL HR HV HP
  obtain ⟨k, hk, rfl, tl, k_r, k_v, k_p⟩ := hrel
  obtain ⟨wo, rfl⟩ : ∃ wo : World, wo = wr := ⟨_, rfl⟩
  rcases k with _ | k
  ·
   rw [List.drop_zero] at k_v k_p
   obtain ⟨V, hV⟩ : ∃ V, V = (atV l N D).1 := ⟨_, rfl⟩
   obtain ⟨P, hP⟩ : ∃ P, P = (atV l N D).2 := ⟨_, rfl⟩
   have hsg := HSG.out
   rw [← hV] at k_v hsg
   rw [← hP] at k_p
   clear HSG hP
   have HVE := zh hV; clear hV
   have HSG := zh hsg; clear hsg
   obtain ⟨r_0, r_f0, r_1, r_f1, r_2, r_f2, r_3, r_f3⟩ := k_r.f4
   have HR := zh k_r; clear k_r
   obtain ⟨v_0, v_f0, v_1, v_f1⟩ := k_v.f2
   have HV := zh k_v; clear k_v
   obtain ⟨p_0, p_f0, p_1, p_f1⟩ := k_p.f2
   have HP := zh k_p; clear k_p
   have HBL := zh tl; clear tl
   go_wp2_with fail
   refine (HSG.out _).mono ?_
   rintro e w31 ⟨hq, rfl⟩
   dsimp only
   have k_r := HR.out.keep hq
   have k_v := HV.out.keep hq
   have k_p := HP.out.keep hq
   have tl := HBL.out.trans ((hq).mono HBL.out.size)
   clear HBL HR HV HP
   clear r_0 r_f0 r_1 r_f1 r_2 r_f2 r_3 r_f3
   obtain ⟨r_0, r_f0, r_1, r_f1, r_2, r_f2, r_3, r_f3⟩ := k_r.f4
   have HR := zh k_r; clear k_r
   clear v_0 v_f0 v_1 v_f1
   obtain ⟨v_0, v_f0, v_1, v_f1⟩ := k_v.f2
   have HV := zh k_v; clear k_v
   clear p_0 p_f0 p_1 p_f1
   obtain ⟨p_0, p_f0, p_1, p_f1⟩ := k_p.f2
   have HP := zh k_p; clear k_p
   have HBL := zh tl; clear tl
   clear hq
   go_wp2_with fail
   go_ret
   refine ⟨HBL.out, ?_⟩
   show _ = Ending.returned (Value.int .i64 (cmpZ (atV l N D).1 0))
   rw [← HVE.out]
   rfl
  ·
   have hkl : k < l.length := by rw [← HN.out]; exact hk
   have hget : l[k]? = some (l[k]'hkl) := List.getElem?_eq_getElem _
   obtain ⟨x, hx⟩ : ∃ x, x = l[k]'hkl := ⟨_, rfl⟩
   rw [← hx] at hget
   have hxs := HS.out x (by rw [hx]; exact List.getElem_mem _)
   have hstep := atV_drop N D hget
   have hv1 := HS1.out (k + 1)
   have hp1 := HS2.out (k + 1)
   have hv0 := HS1.out k
   have hp0 := HS2.out k
   obtain ⟨V, hV⟩ : ∃ V, V = (atV (l.drop (k + 1)) N D).1 := ⟨_, rfl⟩
   obtain ⟨P, hP⟩ : ∃ P, P = (atV (l.drop (k + 1)) N D).2 := ⟨_, rfl⟩
   rw [← hV] at k_v hstep hv1
   rw [← hP] at k_p hstep hp1
   have hm1 := fun w' => imulV V N w' (Nat.le_trans hv1.size (by omega)) (Nat.le_trans HQN.out.size (by omega))
   have hm2 := fun w' => imulV x P w' (Nat.le_trans hxs.size (by omega)) (Nat.le_trans hp1.size (by omega))
   have hm3 := fun w' => imulV P D w' (Nat.le_trans hp1.size (by omega)) (Nat.le_trans HQD.out.size (by omega))
   have had := fun w' => iadd_any (ineg (V * N)) (ineg (x * P)) (imag (V * N)) (imag (x * P)) w' (Nat.le_trans (hv1.mul HQN.out).size (by omega)) (Nat.le_trans (hxs.mul hp1).size (by omega))
   simp only [ival_canon] at had
   obtain ⟨A, hA⟩ : ∃ A, A = V * N := ⟨_, rfl⟩
   obtain ⟨B, hB⟩ : ∃ B, B = x * P := ⟨_, rfl⟩
   rw [← hA] at hm1 had hstep
   rw [← hB] at hm2 had hstep
   obtain ⟨V', hV'⟩ : ∃ V', V' = A + B := ⟨_, rfl⟩
   obtain ⟨P', hP'⟩ : ∃ P', P' = P * D := ⟨_, rfl⟩
   rw [← hV'] at had hstep
   rw [← hP'] at hm3 hstep
   obtain ⟨b1, o1, rfl, hb1, hbc⟩ := HR0.out.at_ (by omega)
   obtain ⟨c0, c1⟩ := int_cells hbc tl hb1 hget
   have hki : ((k + 1 : Nat) : Int) - 1 = (k : Int) := by omega
   rw [hki]
   have hk0 : (0 : Int) ≤ (k : Int) := by omega
   have hkn : (k : Int) < (n : Int) := by omega
   clear hx hget hbc hkl hxs hV hP hv1 hp1 hv0 hp0 hA hB hV' hP' hki
   have HM1 := zh hm1; clear hm1
   have HM2 := zh hm2; clear hm2
   have HM3 := zh hm3; clear hm3
   have HAD := zh had; clear had
   have HST := zh hstep; clear hstep
   obtain ⟨r_0, r_f0, r_1, r_f1, r_2, r_f2, r_3, r_f3⟩ := k_r.f4
   have HR := zh k_r; clear k_r
   obtain ⟨v_0, v_f0, v_1, v_f1⟩ := k_v.f2
   have HV := zh k_v; clear k_v
   obtain ⟨p_0, p_f0, p_1, p_f1⟩ := k_p.f2
   have HP := zh k_p; clear k_p
   have HBL := zh tl; clear tl
   go_wp2_with fail
   have hn1 : ¬ b_p = w.heap.size + 1 := by omega
   have hn2 : ¬ w.heap.size + 1 = b_p := by omega
   have hn3 : ¬ b1 = w.heap.size + 1 := by omega
   have hn4 : ¬ w.heap.size + 1 = b1 := by omega
   have HR := zh HR.out.drew
   have HV := zh HV.out.drew
   have HP := zh HP.out.drew
   have HBL := zh HBL.out.drew
   refine wp_region_held_drew (S := fun w' => w'.cell? ⟨w.heap.size, 0, none⟩ = some (.bool (ineg N)) ∧ w'.cell? ⟨w.heap.size, 1, none⟩ = some (.string (imag N)) ∧ w'.cell? ⟨b_p, 0, none⟩ = some (.bool (ineg P)) ∧ w'.cell? ⟨b_p, 1, none⟩ = some (.string (imag P)) ∧ w'.cell? ⟨b1, o1 + k * 2, none⟩ = some (.bool (ineg x)) ∧ w'.cell? ⟨b1, o1 + k * 2 + 1, none⟩ = some (.string (imag x))) (by kernel_rfl) ?_ (fun hHeld0 => ?_)
   ·
    go_keep
   refine zT 1 (h := ?_)
   (try simp only [Act.put, zA, zB, zC])
   refine zT 2 (h := ?_)
   (try simp only [Act.put, zA, zB, zC])
   refine zT 4 (h := ?_)
   (try simp only [Act.put, zA, zB, zC])
   refine zT 5 (h := ?_)
   (try simp only [Act.put, zA, zB, zC])
   refine zT 6 (h := ?_)
   (try simp only [Act.put, zA, zB, zC])
   refine zT 7 (h := ?_)
   (try simp only [Act.put, zA, zB, zC])
   refine zT 8 (h := ?_)
   (try simp only [Act.put, zA, zB, zC])
   refine zR 0 (h := fun K hK => ?_)
   go_simp
   refine hK.out _ _ ?_ (fun hHeld1 => ?_)
   ·
    ((try dsimp only); go_keep)
   clear hK K
   (try simp only [Act.put, zA, zB, zC])
   refine zR 3 (h := fun K hK => ?_)
   go_simp
   go_at_call 21
   refine (HM1.out _).mono ?_
   rintro e w51 ⟨hq, rfl⟩
   dsimp only
   have z0 := zK hq HR.out.lt hHeld1.1
   have z1 := zK hq HR.out.lt hHeld1.2.1
   have z2 := zK hq HP.out.lt hHeld1.2.2.1
   have z3 := zK hq HP.out.lt hHeld1.2.2.2.1
   have z4 := zK hq (Nat.lt_of_lt_of_le hb1 HBL.out.size) hHeld1.2.2.2.2.1
   have z5 := zK hq (Nat.lt_of_lt_of_le hb1 HBL.out.size) hHeld1.2.2.2.2.2
   refine hK.out _ _ ⟨z0, z1, z2, z3, z4, z5⟩ (fun hHeld2 => ?_)
   clear hK K hHeld1 z0 z1 z2 z3 z4 z5
   (try simp only [Act.put, zA, zB, zC])
   have k_r := HR.out.keep hq
   have k_v := HV.out.keep hq
   have k_p := HP.out.keep hq
   have tl := HBL.out.trans ((hq).mono HBL.out.size)
   clear HBL HR HV HP
   clear r_0 r_f0 r_1 r_f1 r_2 r_f2 r_3 r_f3
   obtain ⟨r_0, r_f0, r_1, r_f1, r_2, r_f2, r_3, r_f3⟩ := k_r.f4
   have HR := zh k_r; clear k_r
   clear v_0 v_f0 v_1 v_f1
   obtain ⟨v_0, v_f0, v_1, v_f1⟩ := k_v.f2
   have HV := zh k_v; clear k_v
   clear p_0 p_f0 p_1 p_f1
   obtain ⟨p_0, p_f0, p_1, p_f1⟩ := k_p.f2
   have HP := zh k_p; clear k_p
   have HBL := zh tl; clear tl
   clear hq
   refine zR 9 (h := fun K hK => ?_)
   go_simp
   go_at_call 21
   refine (HM2.out _).mono ?_
   rintro e w52 ⟨hq, rfl⟩
   dsimp only
   have z0 := zK hq HR.out.lt hHeld2.1
   have z1 := zK hq HR.out.lt hHeld2.2.1
   have z2 := zK hq HP.out.lt hHeld2.2.2.1
   have z3 := zK hq HP.out.lt hHeld2.2.2.2.1
   have z4 := zK hq (Nat.lt_of_lt_of_le hb1 HBL.out.size) hHeld2.2.2.2.2.1
   have z5 := zK hq (Nat.lt_of_lt_of_le hb1 HBL.out.size) hHeld2.2.2.2.2.2
   refine hK.out _ _ ⟨z0, z1, z2, z3, z4, z5⟩ (fun hHeld3 => ?_)
   clear hK K hHeld2 z0 z1 z2 z3 z4 z5
   (try simp only [Act.put, zA, zB, zC])
   have k_r := HR.out.keep hq
   have k_v := HV.out.keep hq
   have k_p := HP.out.keep hq
   have tl := HBL.out.trans ((hq).mono HBL.out.size)
   clear HBL HR HV HP
   clear r_0 r_f0 r_1 r_f1 r_2 r_f2 r_3 r_f3
   obtain ⟨r_0, r_f0, r_1, r_f1, r_2, r_f2, r_3, r_f3⟩ := k_r.f4
   have HR := zh k_r; clear k_r
   clear v_0 v_f0 v_1 v_f1
   obtain ⟨v_0, v_f0, v_1, v_f1⟩ := k_v.f2
   have HV := zh k_v; clear k_v
   clear p_0 p_f0 p_1 p_f1
   obtain ⟨p_0, p_f0, p_1, p_f1⟩ := k_p.f2
   have HP := zh k_p; clear k_p
   have HBL := zh tl; clear tl
   clear hq
   refine zR 10 (h := fun K hK => ?_)
   go_simp
   go_at_call 20
   refine (HAD.out _).mono ?_
   rintro e w53 ⟨hq, rfl⟩
   dsimp only
   have z0 := zK hq HR.out.lt hHeld3.1
   have z1 := zK hq HR.out.lt hHeld3.2.1
   have z2 := zK hq HP.out.lt hHeld3.2.2.1
   have z3 := zK hq HP.out.lt hHeld3.2.2.2.1
   have z4 := zK hq (Nat.lt_of_lt_of_le hb1 HBL.out.size) hHeld3.2.2.2.2.1
   have z5 := zK hq (Nat.lt_of_lt_of_le hb1 HBL.out.size) hHeld3.2.2.2.2.2
   refine hK.out _ _ ⟨z0, z1, z2, z3, z4, z5⟩ (fun hHeld4 => ?_)
   clear hK K hHeld3 z0 z1 z2 z3 z4 z5
   (try simp only [Act.put, zA, zB, zC])
   have k_r := HR.out.keep hq
   have k_v := HV.out.keep hq
   have k_p := HP.out.keep hq
   have tl := HBL.out.trans ((hq).mono HBL.out.size)
   clear HBL HR HV HP
   clear r_0 r_f0 r_1 r_f1 r_2 r_f2 r_3 r_f3
   obtain ⟨r_0, r_f0, r_1, r_f1, r_2, r_f2, r_3, r_f3⟩ := k_r.f4
   have HR := zh k_r; clear k_r
   clear v_0 v_f0 v_1 v_f1
   obtain ⟨v_0, v_f0, v_1, v_f1⟩ := k_v.f2
   have HV := zh k_v; clear k_v
   clear p_0 p_f0 p_1 p_f1
   obtain ⟨p_0, p_f0, p_1, p_f1⟩ := k_p.f2
   have HP := zh k_p; clear k_p
   have HBL := zh tl; clear tl
   clear hq
   refine zR 11 (h := fun K hK => ?_)
   go_simp
   refine hK.out _ _ ?_ (fun hHeld5 => ?_)
   ·
    ((try dsimp only); go_keep)
   clear hK K
   (try simp only [Act.put, zA, zB, zC])
   refine wpAnyH_done (by kernel_rfl) ?_ _
   (try simp only [List.getElem_toArray, List.getElem_cons_zero, List.getElem_cons_succ, Act.put, zA, zB, zC])
   obtain ⟨w54, hw_⟩ : ∃ x, x = ((w53).setCell ⟨w.heap.size + 1, 0, none⟩ (.bool (ineg (V')))).setCell ⟨w.heap.size + 1, 1, none⟩ (.string (imag (V'))) := ⟨_, rfl⟩
   (try rw [← hw_])
   have k_r : Blk w54 (w.heap.size) 35 [.bool (ineg N), .string (imag N), .bool (ineg D), .string (imag D)] := by rw [hw_]; exact ((HR.out.setOther (a := ⟨w.heap.size + 1, 0, none⟩) (by show w.heap.size + 1 ≠ w.heap.size; omega) (.bool (ineg (V')))).setOther (a := ⟨w.heap.size + 1, 1, none⟩) (by show w.heap.size + 1 ≠ w.heap.size; omega) (.string (imag (V'))))
   have k_v : Blk w54 (w.heap.size + 1) 33 [.bool (ineg (V')), .string (imag (V'))] := by rw [hw_]; exact ((HV.out.set 0 (.bool (ineg (V')))).set 1 (.string (imag (V'))))
   have k_p : Blk w54 (b_p) 33 [.bool (ineg P), .string (imag P)] := by rw [hw_]; exact ((HP.out.setOther (a := ⟨w.heap.size + 1, 0, none⟩) (by show w.heap.size + 1 ≠ b_p; omega) (.bool (ineg (V')))).setOther (a := ⟨w.heap.size + 1, 1, none⟩) (by show w.heap.size + 1 ≠ b_p; omega) (.string (imag (V'))))
   have tl : Below w.heap.size w w54 := by rw [hw_]; exact ((HBL.out.setCell (p := ⟨w.heap.size + 1, 0, none⟩) (by show w.heap.size ≤ w.heap.size + 1; omega) (.bool (ineg (V')))).setCell (p := ⟨w.heap.size + 1, 1, none⟩) (by show w.heap.size ≤ w.heap.size + 1; omega) (.string (imag (V'))))
   clear HBL hw_ HR HV HP
   clear v_0 v_f0 v_1 v_f1
   clear r_0 r_f0 r_1 r_f1 r_2 r_f2 r_3 r_f3
   obtain ⟨r_0, r_f0, r_1, r_f1, r_2, r_f2, r_3, r_f3⟩ := k_r.f4
   have HR := zh k_r; clear k_r
   obtain ⟨v_0, v_f0, v_1, v_f1⟩ := k_v.f2
   have HV := zh k_v; clear k_v
   clear p_0 p_f0 p_1 p_f1
   obtain ⟨p_0, p_f0, p_1, p_f1⟩ := k_p.f2
   have HP := zh k_p; clear k_p
   have HBL := zh tl; clear tl
   go_wp2_with fail
   refine (HM3.out _).mono ?_
   rintro e w55 ⟨hq, rfl⟩
   dsimp only
   have k_r := HR.out.keep hq
   have k_v := HV.out.keep hq
   have k_p := HP.out.keep hq
   have tl := HBL.out.trans ((hq).mono HBL.out.size)
   clear HBL HR HV HP
   clear r_0 r_f0 r_1 r_f1 r_2 r_f2 r_3 r_f3
   obtain ⟨r_0, r_f0, r_1, r_f1, r_2, r_f2, r_3, r_f3⟩ := k_r.f4
   have HR := zh k_r; clear k_r
   clear v_0 v_f0 v_1 v_f1
   obtain ⟨v_0, v_f0, v_1, v_f1⟩ := k_v.f2
   have HV := zh k_v; clear k_v
   clear p_0 p_f0 p_1 p_f1
   obtain ⟨p_0, p_f0, p_1, p_f1⟩ := k_p.f2
   have HP := zh k_p; clear k_p
   have HBL := zh tl; clear tl
   clear hq
   go_wp2_with fail
   obtain ⟨w56, hw_⟩ : ∃ x, x = ((w55).setCell ⟨b_p, 0, none⟩ (.bool (ineg (P')))).setCell ⟨b_p, 1, none⟩ (.string (imag (P'))) := ⟨_, rfl⟩
   (try rw [← hw_])
   have k_r : Blk w56 (w.heap.size) 35 [.bool (ineg N), .string (imag N), .bool (ineg D), .string (imag D)] := by rw [hw_]; exact ((HR.out.setOther (a := ⟨b_p, 0, none⟩) (by show b_p ≠ w.heap.size; omega) (.bool (ineg (P')))).setOther (a := ⟨b_p, 1, none⟩) (by show b_p ≠ w.heap.size; omega) (.string (imag (P'))))
   have k_v : Blk w56 (w.heap.size + 1) 33 [.bool (ineg (V')), .string (imag (V'))] := by rw [hw_]; exact ((HV.out.setOther (a := ⟨b_p, 0, none⟩) (by show b_p ≠ w.heap.size + 1; omega) (.bool (ineg (P')))).setOther (a := ⟨b_p, 1, none⟩) (by show b_p ≠ w.heap.size + 1; omega) (.string (imag (P'))))
   have k_p : Blk w56 (b_p) 33 [.bool (ineg (P')), .string (imag (P'))] := by rw [hw_]; exact ((HP.out.set 0 (.bool (ineg (P')))).set 1 (.string (imag (P'))))
   have tl : Below w.heap.size w w56 := by rw [hw_]; exact ((HBL.out.setCell (p := ⟨b_p, 0, none⟩) (by show w.heap.size ≤ b_p; omega) (.bool (ineg (P')))).setCell (p := ⟨b_p, 1, none⟩) (by show w.heap.size ≤ b_p; omega) (.string (imag (P'))))
   clear HBL hw_ HR HV HP
   clear p_0 p_f0 p_1 p_f1
   clear r_0 r_f0 r_1 r_f1 r_2 r_f2 r_3 r_f3
   obtain ⟨r_0, r_f0, r_1, r_f1, r_2, r_f2, r_3, r_f3⟩ := k_r.f4
   have HR := zh k_r; clear k_r
   clear v_0 v_f0 v_1 v_f1
   obtain ⟨v_0, v_f0, v_1, v_f1⟩ := k_v.f2
   have HV := zh k_v; clear k_v
   obtain ⟨p_0, p_f0, p_1, p_f1⟩ := k_p.f2
   have HP := zh k_p; clear k_p
   have HBL := zh tl; clear tl
   go_roundw
   case rel =>
    refine ⟨k, by omega, rfl, HBL.out, HR.out, ?_, ?_⟩
    ·
     rw [HST.out]; exact HV.out
    ·
     rw [HST.out]; exact HP.out
   case measure => first | (simp [intOf]; done) | (simp [intOf]; omega)
end Go.Proofs.Ytjpalbonclgflaa

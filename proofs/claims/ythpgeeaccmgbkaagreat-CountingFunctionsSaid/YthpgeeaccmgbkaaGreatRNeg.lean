/- grooveref01.Neg and Sub at canonical integers. -/
import Derived.Test.YthpgeeaccmgbkaaGreatRadd
import Derived.Test.YthpgeeaccmgbkaaGreatPart14
namespace Go.Proofs.YthpgeeaccmgbkaaGreat
open Go.RowKit

theorem ineg_of_neg {x : Int} : ineg (-x) = (!ineg x && !((imag x).toList == [])) := by
 rcases Int.lt_trichotomy x 0 with h | h | h
 ·
  have h1 : ineg x = true := decide_eq_true h
  have h2 : ineg (-x) = false := decide_eq_false (by omega)
  rw [h1, h2]; rfl
 ·
  subst h
  have h1 : (imag 0).toList = [] := by rw [Lib.toList_data]; exact imag_empty.2 rfl
  rw [h1]; rfl
 ·
  have h1 : ineg x = false := decide_eq_false (by omega)
  have h2 : ineg (-x) = true := decide_eq_true (by omega)
  have h3 : ((imag x).toList == []) = false := by
   rw [beq_eq_false_iff_ne, Lib.toList_data]
   intro e
   have := imag_empty.1 e
   omega
  rw [h1, h2, h3]; rfl
set_option maxRecDepth 100000 in
set_option maxHeartbeats 3200000 in
theorem rneg_any (x : Int) (w : World) (hx : (imag x).size ≤ 1099511627775) :
  Calls Tryz.prog 87 #[.agg #[.bool (ineg x), .string (imag x)]] w (Ret w (IntV (-x))) := by
 have hca : ∀ w', Calls Tryz.prog 73 #[.agg #[.bool (ineg x), .string (imag x)]] w' (Ret w' (.agg #[.bool (ineg x), .string (imag x)])) := fun w' => by
  have h := rcanon_any (ineg x) (imag x) w' (by omega)
  rwa [ival_canon] at h
 have s0 := ((Below.refl w.heap.size w).alloc (Nat.le_refl _) (.cells #[.bool (ineg x), .string (imag x)] 28)).alloc (by simp) (.cells #[.bool false, .string ⟨#[]⟩] 28)
 have b0 := (Blk.new w 28 [.bool (ineg x), .string (imag x)]).alloc (.cells #[.bool false, .string ⟨#[]⟩] 28)
 have b1 := Blk.new (w.alloc (.cells #[.bool (ineg x), .string (imag x)] 28)) 28 [.bool false, .string ⟨#[]⟩]
 simp only [World.size_alloc] at b1
 have hres : IntV (-x) = .agg #[.bool (!ineg x && !((imag x).toList == [])), .string (imag x)] := by rw [IntV, ineg_of_neg, imag_neg]
 rw [hres]
 have HCA := Lib.hid hca; clear hca
 have S0 := Lib.hid s0; clear s0
 have B0 := Lib.hid b0; clear b0
 have B1 := Lib.hid b1; clear b1
 obtain ⟨t1, ht1⟩ : ∃ t1, ineg x = t1 := ⟨_, rfl⟩
 obtain ⟨t2, ht2⟩ : ∃ t2, ((imag x).toList == []) = t2 := ⟨_, rfl⟩
 rw [ht1] at HCA S0 B0 B1 ⊢
 rw [ht2]
 clear ht1 hres
 have hne : ¬ w.heap.size + 1 = w.heap.size := by omega
 have hne2 : ¬ w.heap.size = w.heap.size + 1 := by omega
 cases t1 with
 | true =>
  go_enter Tryz.func87, Tryz.ntmps87
  go_wp2_with fail
  go_at_call 73
  refine (HCA.out _).mono ?_
  rintro e w1 ⟨hq, rfl⟩
  have s1 := S0.out.trans (hq.mono S0.out.size)
  have k0 := B0.out.keep hq
  have k1 := B1.out.keep hq
  have x0 := k0.cell (j := 0) rfl
  have x1 := k0.cell (j := 1) rfl
  have y0 := k1.cell (j := 0) rfl
  have y1 := k1.cell (j := 1) rfl
  have f0 := k0.frozen 0
  have f1 := k0.frozen 1
  have g0 := k1.frozen 0
  have g1 := k1.frozen 1
  have S1 := Lib.hid s1; clear s1
  clear hq k0 k1
  go_wp2_with fail
  refine bodyPost_ret (v := .agg #[.bool false, .string (imag x)]) (by simp [results, Tryz.results87, go_sem, y0, y1, hne, hne2]) rfl ⟨?_, rfl⟩
  exact (((S1.out.setCell (p := ⟨w.heap.size, 0, none⟩) (Nat.le_refl _) _).setCell (p := ⟨w.heap.size, 1, none⟩) (Nat.le_refl _) _).setCell (p := ⟨w.heap.size + 1, 0, none⟩) (Nat.le_succ _) _).setCell (p := ⟨w.heap.size + 1, 1, none⟩) (Nat.le_succ _) _
 | false =>
  cases t2 with
  | true =>
   go_enter Tryz.func87, Tryz.ntmps87
   go_wp2_with fail
   go_at_call 73
   refine (HCA.out _).mono ?_
   rintro e w1 ⟨hq, rfl⟩
   have s1 := S0.out.trans (hq.mono S0.out.size)
   have k0 := B0.out.keep hq
   have k1 := B1.out.keep hq
   have x0 := k0.cell (j := 0) rfl
   have x1 := k0.cell (j := 1) rfl
   have y0 := k1.cell (j := 0) rfl
   have y1 := k1.cell (j := 1) rfl
   have f0 := k0.frozen 0
   have f1 := k0.frozen 1
   have g0 := k1.frozen 0
   have g1 := k1.frozen 1
   have S1 := Lib.hid s1; clear s1
   clear hq k0 k1
   go_wp2_with fail
   refine bodyPost_ret (v := .agg #[.bool false, .string (imag x)]) (by simp [results, Tryz.results87, go_sem, y0, y1, hne, hne2]) rfl ⟨?_, rfl⟩
   exact (((S1.out.setCell (p := ⟨w.heap.size, 0, none⟩) (Nat.le_refl _) _).setCell (p := ⟨w.heap.size, 1, none⟩) (Nat.le_refl _) _).setCell (p := ⟨w.heap.size + 1, 0, none⟩) (Nat.le_succ _) _).setCell (p := ⟨w.heap.size + 1, 1, none⟩) (Nat.le_succ _) _
  | false =>
   go_enter Tryz.func87, Tryz.ntmps87
   go_wp2_with fail
   go_at_call 73
   refine (HCA.out _).mono ?_
   rintro e w1 ⟨hq, rfl⟩
   have s1 := S0.out.trans (hq.mono S0.out.size)
   have k0 := B0.out.keep hq
   have k1 := B1.out.keep hq
   have x0 := k0.cell (j := 0) rfl
   have x1 := k0.cell (j := 1) rfl
   have y0 := k1.cell (j := 0) rfl
   have y1 := k1.cell (j := 1) rfl
   have f0 := k0.frozen 0
   have f1 := k0.frozen 1
   have g0 := k1.frozen 0
   have g1 := k1.frozen 1
   have S1 := Lib.hid s1; clear s1
   clear hq k0 k1
   go_wp2_with fail
   refine bodyPost_ret (v := .agg #[.bool true, .string (imag x)]) (by simp [results, Tryz.results87, go_sem, y0, y1, hne, hne2]) rfl ⟨?_, rfl⟩
   exact (((S1.out.setCell (p := ⟨w.heap.size, 0, none⟩) (Nat.le_refl _) _).setCell (p := ⟨w.heap.size, 1, none⟩) (Nat.le_refl _) _).setCell (p := ⟨w.heap.size + 1, 0, none⟩) (Nat.le_succ _) _).setCell (p := ⟨w.heap.size + 1, 1, none⟩) (Nat.le_succ _) _
set_option maxRecDepth 100000 in
set_option maxHeartbeats 3200000 in
theorem rsub_any (x y : Int) (w : World) (hx : (imag x).size ≤ 1099511627775) (hy : (imag y).size ≤ 1099511627775) :
  Calls Tryz.prog 47 #[.agg #[.bool (ineg x), .string (imag x)], .agg #[.bool (ineg y), .string (imag y)]] w (Ret w (IntV (x - y))) := by
 have hne := fun w' => rneg_any y w' hy
 have had := fun w' => radd_any x (-y) w' hx (by rw [imag_neg]; exact hy)
 have b0 := (((Blk.new w 28 [.bool (ineg x), .string (imag x)]).alloc (.cells #[.bool (ineg y), .string (imag y)] 28)).alloc (.cells #[.bool false, .string ⟨#[]⟩] 28))
 have b1 := (Blk.new (w.alloc (.cells #[.bool (ineg x), .string (imag x)] 28)) 28 [.bool (ineg y), .string (imag y)]).alloc (.cells #[.bool false, .string ⟨#[]⟩] 28)
 have b2 := Blk.new ((w.alloc (.cells #[.bool (ineg x), .string (imag x)] 28)).alloc (.cells #[.bool (ineg y), .string (imag y)] 28)) 28 [.bool false, .string ⟨#[]⟩]
 simp only [World.size_alloc] at b1 b2
 have s0 := (((Below.refl w.heap.size w).alloc (Nat.le_refl _) (.cells #[.bool (ineg x), .string (imag x)] 28)).alloc (by simp) (.cells #[.bool (ineg y), .string (imag y)] 28)).alloc (by simp; omega) (.cells #[.bool false, .string ⟨#[]⟩] 28)
 rw [show x - y = x + -y from Int.sub_eq_add_neg]
 obtain ⟨z, hz⟩ : ∃ z, z = -y := ⟨_, rfl⟩
 rw [← hz] at hne had ⊢
 obtain ⟨u, hu⟩ : ∃ u, u = x + z := ⟨_, rfl⟩
 rw [← hu] at had ⊢
 obtain ⟨wg, hwg⟩ : ∃ wg, ((w.alloc (.cells #[.bool (ineg x), .string (imag x)] 28)).alloc (.cells #[.bool (ineg y), .string (imag y)] 28)).alloc (.cells #[.bool false, .string ⟨#[]⟩] 28) = wg := ⟨_, rfl⟩
 rw [hwg] at s0 b0 b1 b2
 have hl2 : w.heap.size + 1 + 1 < wg.heap.size := b2.lt
 have x0 := b0.cell (j := 0) rfl
 have x1 := b0.cell (j := 1) rfl
 have y0 := b1.cell (j := 0) rfl
 have y1 := b1.cell (j := 1) rfl
 have S0 := Lib.hid s0; clear s0
 have B2 := Lib.hid b2; clear b2
 have HNE := Lib.hid hne; clear hne
 have HAD := Lib.hid had; clear had
 clear b0 b1 hz hu
 go_enter Tryz.func47, Tryz.ntmps47
 go_wp2_with fail
 clear hwg
 refine wp_region_held_drew (S := fun w' => w'.cell? ⟨w.heap.size, 0, none⟩ = some (.bool (ineg x)) ∧ w'.cell? ⟨w.heap.size, 1, none⟩ = some (.string (imag x)) ∧ w'.cell? ⟨w.heap.size + 1, 0, none⟩ = some (.bool (ineg y)) ∧ w'.cell? ⟨w.heap.size + 1, 1, none⟩ = some (.string (imag y))) (by kernel_rfl) ?_ (fun hHeld => ?_)
 ·
  go_keep
 refine zT 0 (h := ?_)
 (try simp only [Act.put, zA, zB, zC])
 refine zT 1 (h := ?_)
 (try simp only [Act.put, zA, zB, zC])
 refine zR 2 (h := fun K hK => ?_)
 go_simp
 go_at_call 87
 refine (HNE.out _).mono ?_
 rintro e w1 ⟨hq, rfl⟩
 dsimp only
 have z0 := (hq.cell (p := ⟨w.heap.size, 0, none⟩) (show w.heap.size < wg.heap.size by omega)).trans hHeld.1
 have z1 := (hq.cell (p := ⟨w.heap.size, 1, none⟩) (show w.heap.size < wg.heap.size by omega)).trans hHeld.2.1
 have z2 := (hq.cell (p := ⟨w.heap.size + 1, 0, none⟩) (show w.heap.size + 1 < wg.heap.size by omega)).trans hHeld.2.2.1
 have z3 := (hq.cell (p := ⟨w.heap.size + 1, 1, none⟩) (show w.heap.size + 1 < wg.heap.size by omega)).trans hHeld.2.2.2
 refine hK.out _ _ ⟨z0, z1, z2, z3⟩ (fun hHeld2 => ?_)
 clear hK K
 (try simp only [Act.put, zA, zB, zC])
 have s1 := S0.out.drew.trans (hq.mono S0.out.size)
 have k1 := B2.out.drew.keep hq
 have hl3 : w.heap.size + 1 + 1 < w1.heap.size := k1.lt
 have S1 := Lib.hid s1; clear s1
 have B3 := Lib.hid k1; clear k1
 clear hq hHeld z0 z1 z2 z3 x0 x1 y0 y1
 refine zR 3 (h := fun K hK => ?_)
 go_simp
 go_at_call 40
 refine (HAD.out _).mono ?_
 rintro e w2 ⟨hq, rfl⟩
 dsimp only
 have z0 := (hq.cell (p := ⟨w.heap.size, 0, none⟩) (show w.heap.size < w1.heap.size by omega)).trans hHeld2.1
 have z1 := (hq.cell (p := ⟨w.heap.size, 1, none⟩) (show w.heap.size < w1.heap.size by omega)).trans hHeld2.2.1
 have z2 := (hq.cell (p := ⟨w.heap.size + 1, 0, none⟩) (show w.heap.size + 1 < w1.heap.size by omega)).trans hHeld2.2.2.1
 have z3 := (hq.cell (p := ⟨w.heap.size + 1, 1, none⟩) (show w.heap.size + 1 < w1.heap.size by omega)).trans hHeld2.2.2.2
 refine hK.out _ _ ⟨z0, z1, z2, z3⟩ (fun hHeld => ?_)
 clear hK K
 (try simp only [Act.put, zA, zB, zC])
 have s2 := S1.out.trans (hq.mono S1.out.size)
 have k2 := B3.out.keep hq
 have a0 := k2.cell (j := 0) rfl
 have a1 := k2.cell (j := 1) rfl
 have f0 := k2.frozen 0
 have f1 := k2.frozen 1
 have hn1 : ¬ w.heap.size + 1 + 1 = w.heap.size := by omega
 have hn2 : ¬ w.heap.size + 1 + 1 = w.heap.size + 1 := by omega
 have S2 := Lib.hid s2; clear s2
 clear hq hHeld2 z0 z1 z2 z3 k2
 refine zR 4 (h := fun K hK => ?_)
 go_simp
 refine hK.out _ _ ?_ (fun hHeld => ?_)
 ·
  ((try dsimp only); go_keep)
 clear hK K
 (try simp only [Act.put, zA, zB, zC])
 refine wpAnyH_done (by kernel_rfl) ?_ _
 (try simp only [List.getElem_toArray, List.getElem_cons_zero, List.getElem_cons_succ, Act.put, zA, zB, zC])
 clear hHeld
 go_wp2_with fail
 refine bodyPost_ret (v := IntV u) (by simp [results, Tryz.results47, go_sem, a0, a1, IntV]) rfl ⟨?_, rfl⟩
 exact (S2.out.setCell (p := ⟨w.heap.size + 1 + 1, 0, none⟩) (show w.heap.size ≤ w.heap.size + 1 + 1 by omega) _).setCell (p := ⟨w.heap.size + 1 + 1, 1, none⟩) (show w.heap.size ≤ w.heap.size + 1 + 1 by omega) _
end Go.Proofs.YthpgeeaccmgbkaaGreat

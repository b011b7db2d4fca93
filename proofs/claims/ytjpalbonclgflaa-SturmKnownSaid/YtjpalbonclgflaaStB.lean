/- sturm.bound (printed by gen_bnd.py). -/
import Derived.Test.YtjpalbonclgflaaStA
import Derived.Test.YtjpalbonclgflaaPart18
namespace Go.Proofs.Ytjpalbonclgflaa
open Go.RowKit

theorem bnd_zs {l : List Int} {m : Nat} (he : Ends l) (h0 : 0 < l.length) (hs : ∀ x ∈ l, zs m x) {k : Nat} (hk : k ≤ bndK l) : zs (m + 1) (((2 : Nat) ^ k : Nat) : Int) := by
 unfold zs
 rw [Int.natAbs_natCast]
 have hlead : (l.getLast?.getD 0).natAbs < 256 ^ m := by rw [getLast_getD]; exact getD_zs hs _
 have hmost : mostL l.dropLast < 256 ^ m := by
  have := mostL_zs (l := l.dropLast) (m := m) (fun x hx => hs x ((List.dropLast_sublist l).mem hx))
  unfold zs at this
  rwa [Int.natAbs_natCast] at this
 have hp : 0 < 256 ^ m := Nat.pow_pos (by decide)
 rw [Nat.pow_succ]
 rcases k with _ | k
 ·
  rw [Nat.pow_zero]; omega
 ·
  have h2 := (bnd_le he h0 k).2 (by omega)
  have hpos : 0 < (l.getLast?.getD 0).natAbs := by
   rcases List.eq_nil_or_concat l with rfl | ⟨l0, y, rfl⟩
   ·
    simp at h0
   ·
    rw [List.concat_eq_append] at *
    have := he _ _ rfl
    simp only [List.getLast?_append, List.getLast?_singleton, Option.some_or, Option.getD_some]
    exact Int.natAbs_pos.2 this
  have h3 : 2 ^ k ≤ 2 ^ k * (l.getLast?.getD 0).natAbs := Nat.le_mul_of_pos_right _ hpos
  rw [Nat.pow_succ]
  omega
open Classical in
noncomputable def pwAt (b : Nat) (w : World) : Nat := if h : ∃ k : Nat, Blk w b 33 [.bool (ineg (((2 : Nat) ^ k : Nat) : Int)), .string (imag (((2 : Nat) ^ k : Nat) : Int))] then Classical.choose h else 0
theorem pwAt_eq {w : World} {b k : Nat} (h : Blk w b 33 [.bool (ineg (((2 : Nat) ^ k : Nat) : Int)), .string (imag (((2 : Nat) ^ k : Nat) : Int))]) : pwAt b w = k := by
 unfold pwAt
 have hex : ∃ k : Nat, Blk w b 33 [.bool (ineg (((2 : Nat) ^ k : Nat) : Int)), .string (imag (((2 : Nat) ^ k : Nat) : Int))] := ⟨k, h⟩
 rw [dif_pos hex]
 have h2 := Classical.choose_spec hex
 have e1 := h.c 1 rfl
 have e0 := h.c 0 rfl
 rw [h2.c 1 rfl] at e1
 rw [h2.c 0 rfl] at e0
 have e2 : imag (((2 : Nat) ^ Classical.choose hex : Nat) : Int) = imag (((2 : Nat) ^ k : Nat) : Int) := by injection e1 with e1; injection e1
 have e3 : ineg (((2 : Nat) ^ Classical.choose hex : Nat) : Int) = ineg (((2 : Nat) ^ k : Nat) : Int) := by injection e0 with e0; injection e0
 have e4 := (ival_canon (((2 : Nat) ^ Classical.choose hex : Nat) : Int)).symm.trans (by rw [e2, e3, ival_canon] : _ = (((2 : Nat) ^ k : Nat) : Int))
 exact (Nat.pow_right_inj (by decide : 1 < 2)).1 (by exact_mod_cast e4)
set_option maxRecDepth 100000 in
set_option maxHeartbeats 12800000 in
theorem sbound_any (l : List Int) (v : Value) (w : World) (m : Nat) (hr : Row w v l.length (civ l)) (hl0 : 0 < l.length) (hl : l.length ≤ 1000) (he : Ends l) (hs : ∀ x ∈ l, zs m x) (hm : m ≤ 1000000000) :
  Calls Try.prog 30 #[v] w (Ret w (IntV (bnd l : Int))) := by
 obtain ⟨l0, y, rfl⟩ : ∃ l0 y, l = l0 ++ [y] := by
  rcases List.eq_nil_or_concat l with rfl | ⟨l0, y, rfl⟩
  ·
   simp at hl0
  ·
   exact ⟨l0, y, List.concat_eq_append⟩
 have hy0 := he _ _ rfl
 have hlast : (l0 ++ [y]).getLast?.getD 0 = y := by simp
 have hdrop : (l0 ++ [y]).dropLast = l0 := by simp
 have hble := bnd_le he hl0
 have hbz := fun k hk => bnd_zs (k := k) he hl0 hs hk
 rw [hlast, hdrop] at hble
 have hys := hs y (by simp)
 have hget : (l0 ++ [y])[l0.length]? = some y := by simp
 have hxs := fun x hx => hs x (List.mem_append_left _ hx)
 have hlen : (l0 ++ [y]).length = l0.length + 1 := by simp
 rw [hlen] at hr hl
 obtain ⟨K, hK⟩ : ∃ K, K = bndK (l0 ++ [y]) := ⟨_, rfl⟩
 rw [← hK] at hble hbz
 have hbK : bnd (l0 ++ [y]) = 2 ^ K := by rw [hK]; rfl
 rw [hbK]
 obtain ⟨j0, hj0⟩ : ∃ j, j = l0.length := ⟨_, rfl⟩
 rw [← hj0] at hr hl hget
 obtain ⟨va, vc, rfl, hle⟩ := hr.slice
 obtain ⟨b1, o1, rfl, hb1, hbc⟩ := hr.at_ (by omega)
 have hle2 := hr.le
 have hcap : j0 ≤ vc := by omega
 have hcap0 : ¬ vc = 0 := by omega
 have hms := fun i => mostL_zs (l := l0.take i) (m := m) (fun x hx => hxs x (List.mem_of_mem_take hx))
 have habs := fun w' => sabs_any y w' (Nat.le_trans hys.size (by omega))
 obtain ⟨L, hL⟩ : ∃ L : Nat, L = y.natAbs := ⟨_, rfl⟩
 rw [← hL] at habs hble
 have hLs : zs m (L : Int) := by rw [hL]; unfold zs; rw [Int.natAbs_natCast]; exact hys
 have hof := fun w' => iof_any 1 w' (by decide) (by decide)
 have hpj : (0 : Int) ≤ (j0 : Int) := by omega
 obtain ⟨c0, c1⟩ := int_cells hbc (Below.refl w.heap.size w) hb1 hget
 clear he hl0 hs hys hlast hdrop hlen hK hbK hL hget hy0
 have hbl0 : ∀ (i : Nat) x, l0[i]? = some x → (l0 ++ [y])[i]? = some x := fun i x h => by rw [List.getElem?_append_left (List.getElem?_eq_some_iff.1 h).1]; exact h
 have HJ0 := zh hj0; clear hj0
 have HBLE := zh hble; clear hble
 have HBZ := zh hbz; clear hbz
 have HXS := zh hxs; clear hxs
 have HMS := zh hms; clear hms
 have HABS := zh habs; clear habs
 have HLS := zh hLs; clear hLs
 have HOF := zh hof; clear hof
 have HBC := zh hbc; clear hbc
 have HBL0 := zh hbl0; clear hbl0
 have HR1 := zh hr; clear hr
 obtain ⟨w4, hw4⟩ : ∃ w4, w4 = w.alloc (.cells #[.bool false, .string ⟨#[]⟩] 33) := ⟨_, rfl⟩
 have k_r : Blk w4 (w.heap.size) 33 [.bool false, .string ⟨#[]⟩] := by
  rw [hw4]
  have h := (Blk.new (w) 33 [.bool false, .string ⟨#[]⟩])
  (try simp only [World.size_alloc, Nat.add_assoc, Nat.reduceAdd] at h)
  exact h
 have tl : Below w.heap.size w w4 := by
  rw [hw4]
  exact ((Below.refl w.heap.size w).alloc (by simp <;> omega) (.cells #[.bool false, .string ⟨#[]⟩] 33))
 have hs4 : w4.heap.size = w.heap.size + 1 := by rw [hw4]; simp only [World.size_alloc]
 obtain ⟨r_0, r_f0, r_1, r_f1⟩ := k_r.f2
 have HR := zh k_r; clear k_r
 have HBL := zh tl; clear tl
 have c0 := (HBL.out.cell (p := ⟨b1, o1 + j0 * 2, none⟩) hb1).trans c0
 have c1 := (HBL.out.cell (p := ⟨b1, o1 + j0 * 2 + 1, none⟩) hb1).trans c1
 go_enter Try.func30, Try.ntmps30
 go_wp2_with fail
 (try rw [← hw4])
 clear hw4
 (try simp only [Nat.add_assoc, Nat.reduceAdd])
 refine (HABS.out _).mono ?_
 rintro e w5 ⟨hq, rfl⟩
 dsimp only
 have k_r := HR.out.keep hq
 have tl := HBL.out.trans ((hq).mono HBL.out.size)
 clear HBL HR
 clear r_0 r_f0 r_1 r_f1
 obtain ⟨r_0, r_f0, r_1, r_f1⟩ := k_r.f2
 have HR := zh k_r; clear k_r
 have HBL := zh tl; clear tl
 clear hq
 clear c0 c1
 obtain ⟨b_l, hb_l⟩ : ∃ b, b = w5.heap.size := ⟨_, rfl⟩
 have hal : Below w5.heap.size w5 ((w5.alloc (.cells #[.bool (ineg ((L : Int))), .string (imag ((L : Int)))] 33)).alloc (.cells #[.bool false, .string ⟨#[]⟩] 33)) := ((Below.refl _ _).alloc (Nat.le_refl _) _).alloc (by simp) _
 have k_l : Blk ((w5.alloc (.cells #[.bool (ineg ((L : Int))), .string (imag ((L : Int)))] 33)).alloc (.cells #[.bool false, .string ⟨#[]⟩] 33)) b_l 33 [.bool (ineg ((L : Int))), .string (imag ((L : Int)))] := by rw [hb_l]; exact (Blk.new w5 _ _).alloc _
 have k_m : Blk ((w5.alloc (.cells #[.bool (ineg ((L : Int))), .string (imag ((L : Int)))] 33)).alloc (.cells #[.bool false, .string ⟨#[]⟩] 33)) (b_l + 1) 33 [.bool false, .string ⟨#[]⟩] := by
  have h := Blk.new (w5.alloc (.cells #[.bool (ineg ((L : Int))), .string (imag ((L : Int)))] 33)) 33 [.bool false, .string ⟨#[]⟩]
  rw [World.size_alloc, ← hb_l] at h
  exact h
 have hge_l : w.heap.size < b_l := by rw [hb_l]; exact HR.out.lt
 have k_r := HR.out.keep hal
 have tl := HBL.out.trans ((hal).mono HBL.out.size)
 clear HBL HR
 clear r_0 r_f0 r_1 r_f1
 obtain ⟨r_0, r_f0, r_1, r_f1⟩ := k_r.f2
 have HR := zh k_r; clear k_r
 have HBL := zh tl; clear tl
 clear hal
 obtain ⟨l_0, l_f0, l_1, l_f1⟩ := k_l.f2
 have HL := zh k_l; clear k_l
 obtain ⟨m_0, m_f0, m_1, m_f1⟩ := k_m.f2
 have HM := zh k_m; clear k_m
 have HB_l := zh hb_l; clear hb_l
 go_wp2_with fail
 (try simp only [World.size_alloc])
 (try rw [← HB_l.out])
 go_loopw [22] (fun t wr => ∃ i : Nat, i ≤ j0 ∧ t = .int .i64 (i : Int) ∧ Below w.heap.size w wr ∧ Blk wr w.heap.size 33 [.bool false, .string ⟨#[]⟩] ∧ Blk wr b_l 33 [.bool (ineg ((L : Int))), .string (imag ((L : Int)))] ∧ Blk wr (b_l + 1) 33 [.bool (ineg ((mostL (l0.take i) : Int))), .string (imag ((mostL (l0.take i) : Int)))]) (fun t _ => j0 - (intOf t).toNat)
 case atStart =>
  refine ⟨0, Nat.zero_le _, rfl, HBL.out, HR.out, HL.out, ?_⟩
  rw [List.take_zero, show ((mostL [] : Nat) : Int) = 0 from rfl, ineg_zero, imag_zero]
  exact HM.out
 case round =>
  clear HBL HR HL HM r_0 r_f0 r_1 r_f1 l_0 l_f0 l_1 l_f1 m_0 m_f0 m_1 m_f1
  obtain ⟨i, hi, rfl, tl, k_r, k_l, k_m⟩ := hrel
  obtain ⟨wo, rfl⟩ : ∃ wo : World, wo = wr := ⟨_, rfl⟩
  have hgs := HMS.out i
  by_cases hlt : i < j0
  ·
   have hkl : i < l0.length := by rw [← HJ0.out]; exact hlt
   have hget : l0[i]? = some (l0[i]'hkl) := List.getElem?_eq_getElem _
   obtain ⟨x, hx⟩ : ∃ x, x = l0[i]'hkl := ⟨_, rfl⟩
   rw [← hx] at hget
   have hxz := HXS.out x (by rw [hx]; exact List.getElem_mem _)
   obtain ⟨c0, c1⟩ := int_cells HBC.out tl hb1 (HBL0.out i x hget)
   have hstep : mostL (l0.take (i + 1)) = max (mostL (l0.take i)) x.natAbs := by rw [List.take_add_one, hget]; exact mostL_snoc _ _
   obtain ⟨G, hG⟩ : ∃ G, G = mostL (l0.take i) := ⟨_, rfl⟩
   rw [← hG] at k_m hgs hstep
   have habs := fun w' => sabs_any x w' (Nat.le_trans hxz.size (by omega))
   obtain ⟨A, hA⟩ : ∃ A : Nat, A = x.natAbs := ⟨_, rfl⟩
   rw [← hA] at habs hstep
   have hAs : zs m (A : Int) := by rw [hA]; unfold zs; rw [Int.natAbs_natCast]; exact hxz
   have hcm := fun w' => icompare_any (ineg (A : Int)) (ineg (G : Int)) (imag (A : Int)) (imag (G : Int)) w' (Nat.le_trans hAs.size (by omega)) (Nat.le_trans hgs.size (by omega))
   simp only [ival_canon] at hcm
   have hin : (i : Int) < (j0 : Int) := by omega
   clear hkl hget hx hG hA hAs hgs hxz
   have HAB1 := zh habs; clear habs
   have HCM := zh hcm; clear hcm
   have HST := zh hstep; clear hstep
   obtain ⟨r_0, r_f0, r_1, r_f1⟩ := k_r.f2
   have HR := zh k_r; clear k_r
   obtain ⟨l_0, l_f0, l_1, l_f1⟩ := k_l.f2
   have HL := zh k_l; clear k_l
   obtain ⟨m_0, m_f0, m_1, m_f1⟩ := k_m.f2
   have HM := zh k_m; clear k_m
   have HBL := zh tl; clear tl
   have hlt_m := HM.out.lt
   obtain ⟨b_x, hb_x⟩ : ∃ b, b = wo.heap.size := ⟨_, rfl⟩
   have hal : Below wo.heap.size wo (wo.alloc (.cells #[.bool (ineg x), .string (imag x)] 33)) := (Below.refl _ _).alloc (Nat.le_refl _) _
   have k_x : Blk (wo.alloc (.cells #[.bool (ineg x), .string (imag x)] 33)) b_x 33 [.bool (ineg x), .string (imag x)] := by rw [hb_x]; exact Blk.new wo _ _
   have hge_x : w.heap.size ≤ b_x := by rw [hb_x]; exact HBL.out.size
   have far_m_x : b_l + 1 < b_x := by rw [hb_x]; exact hlt_m
   clear hlt_m
   have k_r := HR.out.keep hal
   have k_l := HL.out.keep hal
   have k_m := HM.out.keep hal
   have tl := HBL.out.trans ((hal).mono HBL.out.size)
   clear HBL HR HL HM
   clear r_0 r_f0 r_1 r_f1
   obtain ⟨r_0, r_f0, r_1, r_f1⟩ := k_r.f2
   have HR := zh k_r; clear k_r
   clear l_0 l_f0 l_1 l_f1
   obtain ⟨l_0, l_f0, l_1, l_f1⟩ := k_l.f2
   have HL := zh k_l; clear k_l
   clear m_0 m_f0 m_1 m_f1
   obtain ⟨m_0, m_f0, m_1, m_f1⟩ := k_m.f2
   have HM := zh k_m; clear k_m
   have HBL := zh tl; clear tl
   clear hal
   obtain ⟨x_0, x_f0, x_1, x_f1⟩ := k_x.f2
   have HX := zh k_x; clear k_x
   go_wp2_with fail
   (try rw [← hb_x])
   have HB_x := zh hb_x; clear hb_x
   refine (HAB1.out _).mono ?_
   rintro e w31 ⟨hq, rfl⟩
   dsimp only
   have k_r := HR.out.keep hq
   have k_l := HL.out.keep hq
   have k_m := HM.out.keep hq
   have k_x := HX.out.keep hq
   have tl := HBL.out.trans ((hq).mono HBL.out.size)
   clear HBL HR HL HM HX
   clear r_0 r_f0 r_1 r_f1
   obtain ⟨r_0, r_f0, r_1, r_f1⟩ := k_r.f2
   have HR := zh k_r; clear k_r
   clear l_0 l_f0 l_1 l_f1
   obtain ⟨l_0, l_f0, l_1, l_f1⟩ := k_l.f2
   have HL := zh k_l; clear k_l
   clear m_0 m_f0 m_1 m_f1
   obtain ⟨m_0, m_f0, m_1, m_f1⟩ := k_m.f2
   have HM := zh k_m; clear k_m
   clear x_0 x_f0 x_1 x_f1
   obtain ⟨x_0, x_f0, x_1, x_f1⟩ := k_x.f2
   have HX := zh k_x; clear k_x
   have HBL := zh tl; clear tl
   clear hq
   have hlt_m := HM.out.lt
   have hlt_x := HX.out.lt
   obtain ⟨b_a, hb_a⟩ : ∃ b, b = w31.heap.size := ⟨_, rfl⟩
   have hal : Below w31.heap.size w31 (w31.alloc (.cells #[.bool (ineg ((A : Int))), .string (imag ((A : Int)))] 33)) := (Below.refl _ _).alloc (Nat.le_refl _) _
   have k_a : Blk (w31.alloc (.cells #[.bool (ineg ((A : Int))), .string (imag ((A : Int)))] 33)) b_a 33 [.bool (ineg ((A : Int))), .string (imag ((A : Int)))] := by rw [hb_a]; exact Blk.new w31 _ _
   have hge_a : w.heap.size ≤ b_a := by rw [hb_a]; exact HBL.out.size
   have far_m_a : b_l + 1 < b_a := by rw [hb_a]; exact hlt_m
   clear hlt_m
   have far_x_a : b_x < b_a := by rw [hb_a]; exact hlt_x
   clear hlt_x
   have k_r := HR.out.keep hal
   have k_l := HL.out.keep hal
   have k_m := HM.out.keep hal
   have k_x := HX.out.keep hal
   have tl := HBL.out.trans ((hal).mono HBL.out.size)
   clear HBL HR HL HM HX
   clear r_0 r_f0 r_1 r_f1
   obtain ⟨r_0, r_f0, r_1, r_f1⟩ := k_r.f2
   have HR := zh k_r; clear k_r
   clear l_0 l_f0 l_1 l_f1
   obtain ⟨l_0, l_f0, l_1, l_f1⟩ := k_l.f2
   have HL := zh k_l; clear k_l
   clear m_0 m_f0 m_1 m_f1
   obtain ⟨m_0, m_f0, m_1, m_f1⟩ := k_m.f2
   have HM := zh k_m; clear k_m
   clear x_0 x_f0 x_1 x_f1
   obtain ⟨x_0, x_f0, x_1, x_f1⟩ := k_x.f2
   have HX := zh k_x; clear k_x
   have HBL := zh tl; clear tl
   clear hal
   obtain ⟨a_0, a_f0, a_1, a_f1⟩ := k_a.f2
   have HA := zh k_a; clear k_a
   go_wp2_with fail
   (try rw [← hb_a])
   have HB_a := zh hb_a; clear hb_a
   refine (HCM.out _).mono ?_
   rintro e w32 ⟨hq, rfl⟩
   dsimp only
   have k_r := HR.out.keep hq
   have k_l := HL.out.keep hq
   have k_m := HM.out.keep hq
   have k_x := HX.out.keep hq
   have k_a := HA.out.keep hq
   have tl := HBL.out.trans ((hq).mono HBL.out.size)
   clear HBL HR HL HM HX HA
   clear r_0 r_f0 r_1 r_f1
   obtain ⟨r_0, r_f0, r_1, r_f1⟩ := k_r.f2
   have HR := zh k_r; clear k_r
   clear l_0 l_f0 l_1 l_f1
   obtain ⟨l_0, l_f0, l_1, l_f1⟩ := k_l.f2
   have HL := zh k_l; clear k_l
   clear m_0 m_f0 m_1 m_f1
   obtain ⟨m_0, m_f0, m_1, m_f1⟩ := k_m.f2
   have HM := zh k_m; clear k_m
   clear x_0 x_f0 x_1 x_f1
   obtain ⟨x_0, x_f0, x_1, x_f1⟩ := k_x.f2
   have HX := zh k_x; clear k_x
   clear a_0 a_f0 a_1 a_f1
   obtain ⟨a_0, a_f0, a_1, a_f1⟩ := k_a.f2
   have HA := zh k_a; clear k_a
   have HBL := zh tl; clear tl
   clear hq
   by_cases hcase : G < A
   ·
    have hcv : decide (0 < cmpZ (A : Int) (G : Int)) = true := decide_eq_true (by unfold cmpZ; split <;> (try split) <;> omega)
    have hmx : max G A = A := by omega
    rw [hmx] at HST
    clear hmx
    go_wp2_with fail
    obtain ⟨w61, hw_⟩ : ∃ x, x = ((w32).setCell ⟨b_l + 1, 0, none⟩ (.bool (ineg ((A : Int))))).setCell ⟨b_l + 1, 1, none⟩ (.string (imag ((A : Int)))) := ⟨_, rfl⟩
    (try rw [← hw_])
    have k_r : Blk w61 (w.heap.size) 33 [.bool false, .string ⟨#[]⟩] := by rw [hw_]; exact ((HR.out.setOther (a := ⟨b_l + 1, 0, none⟩) (by show b_l + 1 ≠ w.heap.size; omega) (.bool (ineg ((A : Int))))).setOther (a := ⟨b_l + 1, 1, none⟩) (by show b_l + 1 ≠ w.heap.size; omega) (.string (imag ((A : Int)))))
    have k_l : Blk w61 (b_l) 33 [.bool (ineg ((L : Int))), .string (imag ((L : Int)))] := by rw [hw_]; exact ((HL.out.setOther (a := ⟨b_l + 1, 0, none⟩) (by show b_l + 1 ≠ b_l; omega) (.bool (ineg ((A : Int))))).setOther (a := ⟨b_l + 1, 1, none⟩) (by show b_l + 1 ≠ b_l; omega) (.string (imag ((A : Int)))))
    have k_m : Blk w61 (b_l + 1) 33 [.bool (ineg ((A : Int))), .string (imag ((A : Int)))] := by rw [hw_]; exact ((HM.out.set 0 (.bool (ineg ((A : Int))))).set 1 (.string (imag ((A : Int)))))
    have k_x : Blk w61 (b_x) 33 [.bool (ineg x), .string (imag x)] := by rw [hw_]; exact ((HX.out.setOther (a := ⟨b_l + 1, 0, none⟩) (by show b_l + 1 ≠ b_x; omega) (.bool (ineg ((A : Int))))).setOther (a := ⟨b_l + 1, 1, none⟩) (by show b_l + 1 ≠ b_x; omega) (.string (imag ((A : Int)))))
    have k_a : Blk w61 (b_a) 33 [.bool (ineg ((A : Int))), .string (imag ((A : Int)))] := by rw [hw_]; exact ((HA.out.setOther (a := ⟨b_l + 1, 0, none⟩) (by show b_l + 1 ≠ b_a; omega) (.bool (ineg ((A : Int))))).setOther (a := ⟨b_l + 1, 1, none⟩) (by show b_l + 1 ≠ b_a; omega) (.string (imag ((A : Int)))))
    have tl : Below w.heap.size w w61 := by rw [hw_]; exact ((HBL.out.setCell (p := ⟨b_l + 1, 0, none⟩) (by show w.heap.size ≤ b_l + 1; omega) (.bool (ineg ((A : Int))))).setCell (p := ⟨b_l + 1, 1, none⟩) (by show w.heap.size ≤ b_l + 1; omega) (.string (imag ((A : Int)))))
    clear HBL hw_ HR HL HM HX HA
    clear m_0 m_f0 m_1 m_f1
    clear r_0 r_f0 r_1 r_f1
    obtain ⟨r_0, r_f0, r_1, r_f1⟩ := k_r.f2
    have HR := zh k_r; clear k_r
    clear l_0 l_f0 l_1 l_f1
    obtain ⟨l_0, l_f0, l_1, l_f1⟩ := k_l.f2
    have HL := zh k_l; clear k_l
    obtain ⟨m_0, m_f0, m_1, m_f1⟩ := k_m.f2
    have HM := zh k_m; clear k_m
    clear x_0 x_f0 x_1 x_f1
    obtain ⟨x_0, x_f0, x_1, x_f1⟩ := k_x.f2
    have HX := zh k_x; clear k_x
    clear a_0 a_f0 a_1 a_f1
    obtain ⟨a_0, a_f0, a_1, a_f1⟩ := k_a.f2
    have HA := zh k_a; clear k_a
    have HBL := zh tl; clear tl
    go_roundw
    case rel =>
     refine ⟨i + 1, by omega, by go_num, HBL.out, HR.out, HL.out, ?_⟩
     rw [HST.out]; exact HM.out
    case measure => simp [intOf]; omega
   ·
    have hcv : decide (0 < cmpZ (A : Int) (G : Int)) = false := decide_eq_false (by unfold cmpZ; split <;> (try split) <;> omega)
    have hmx : max G A = G := by omega
    rw [hmx] at HST
    clear hmx
    go_wp2_with fail
    go_roundw
    case rel =>
     refine ⟨i + 1, by omega, by go_num, HBL.out, HR.out, HL.out, ?_⟩
     rw [HST.out]; exact HM.out
    case measure => simp [intOf]; omega
  ·
   obtain rfl : i = j0 := by omega
   have htk : l0.take i = l0 := List.take_of_length_le (by rw [← HJ0.out]; exact Nat.le_refl _)
   rw [htk] at k_m hgs
   obtain ⟨G, hG⟩ : ∃ G, G = mostL l0 := ⟨_, rfl⟩
   have hble := HBLE.out
   rw [← hG] at k_m hgs hble
   clear HBLE hG htk
   have HBLE := zh hble; clear hble
   have HGS := zh hgs; clear hgs
   obtain ⟨r_0, r_f0, r_1, r_f1⟩ := k_r.f2
   have HR := zh k_r; clear k_r
   obtain ⟨l_0, l_f0, l_1, l_f1⟩ := k_l.f2
   have HL := zh k_l; clear k_l
   obtain ⟨m_0, m_f0, m_1, m_f1⟩ := k_m.f2
   have HM := zh k_m; clear k_m
   have HBL := zh tl; clear tl
   go_wp2_with fail
   refine (HOF.out _).mono ?_
   rintro e w81 ⟨hq, rfl⟩
   dsimp only
   have k_r := HR.out.keep hq
   have k_l := HL.out.keep hq
   have k_m := HM.out.keep hq
   have tl := HBL.out.trans ((hq).mono HBL.out.size)
   clear HBL HR HL HM
   clear r_0 r_f0 r_1 r_f1
   obtain ⟨r_0, r_f0, r_1, r_f1⟩ := k_r.f2
   have HR := zh k_r; clear k_r
   clear l_0 l_f0 l_1 l_f1
   obtain ⟨l_0, l_f0, l_1, l_f1⟩ := k_l.f2
   have HL := zh k_l; clear k_l
   clear m_0 m_f0 m_1 m_f1
   obtain ⟨m_0, m_f0, m_1, m_f1⟩ := k_m.f2
   have HM := zh k_m; clear k_m
   have HBL := zh tl; clear tl
   clear hq
   have hvlt : b_l + 1 < w81.heap.size := HM.out.lt
   obtain ⟨b_o, hb_o⟩ : ∃ b, b = w81.heap.size := ⟨_, rfl⟩
   have hal : Below w81.heap.size w81 (w81.alloc (.cells #[.bool (ineg 1), .string (imag 1)] 33)) := (Below.refl _ _).alloc (Nat.le_refl _) _
   have k_o : Blk (w81.alloc (.cells #[.bool (ineg 1), .string (imag 1)] 33)) b_o 33 [.bool (ineg 1), .string (imag 1)] := by rw [hb_o]; exact Blk.new w81 _ _
   have hge_o : w.heap.size ≤ b_o := by rw [hb_o]; exact HBL.out.size
   have k_r := HR.out.keep hal
   have k_l := HL.out.keep hal
   have k_m := HM.out.keep hal
   have tl := HBL.out.trans ((hal).mono HBL.out.size)
   clear HBL HR HL HM
   clear r_0 r_f0 r_1 r_f1
   obtain ⟨r_0, r_f0, r_1, r_f1⟩ := k_r.f2
   have HR := zh k_r; clear k_r
   clear l_0 l_f0 l_1 l_f1
   obtain ⟨l_0, l_f0, l_1, l_f1⟩ := k_l.f2
   have HL := zh k_l; clear k_l
   clear m_0 m_f0 m_1 m_f1
   obtain ⟨m_0, m_f0, m_1, m_f1⟩ := k_m.f2
   have HM := zh k_m; clear k_m
   have HBL := zh tl; clear tl
   clear hal
   obtain ⟨o_0, o_f0, o_1, o_f1⟩ := k_o.f2
   have HO := zh k_o; clear k_o
   have hbo : b_l + 1 < b_o := by rw [hb_o]; exact hvlt
   clear hvlt
   go_wp2_with fail
   (try rw [← hb_o])
   have HB_o := zh hb_o; clear hb_o
   go_loopw [] (fun wr => ∃ k : Nat, k ≤ K ∧ Below w.heap.size w wr ∧ Blk wr w.heap.size 33 [.bool false, .string ⟨#[]⟩] ∧ Blk wr b_l 33 [.bool (ineg ((L : Int))), .string (imag ((L : Int)))] ∧ Blk wr (b_l + 1) 33 [.bool (ineg ((G : Int))), .string (imag ((G : Int)))] ∧ Blk wr b_o 33 [.bool (ineg ((((2 : Nat) ^ k : Nat) : Int))), .string (imag ((((2 : Nat) ^ k : Nat) : Int)))]) (fun wr => K - pwAt b_o wr)
   case atStart => exact ⟨0, Nat.zero_le _, HBL.out, HR.out, HL.out, HM.out, HO.out⟩
   case round =>
    clear HBL HR HL HM HO r_0 r_f0 r_1 r_f1 l_0 l_f0 l_1 l_f1 m_0 m_f0 m_1 m_f1 o_0 o_f0 o_1 o_f1
    obtain ⟨k, hk, tl, k_r, k_l, k_m, k_o⟩ := hrel
    obtain ⟨wo2, rfl⟩ : ∃ wo2 : World, wo2 = wr := ⟨_, rfl⟩
    have hmeas := pwAt_eq k_o
    have hps := HBZ.out k hk
    have hle := HBLE.out k
    have hpw : (2 : Nat) ^ (k + 1) = 2 ^ k + 2 ^ k := by rw [Nat.pow_succ]; omega
    obtain ⟨P, hP⟩ : ∃ P : Nat, P = 2 ^ k := ⟨_, rfl⟩
    rw [← hP] at k_o hps hle hpw
    have hmu := fun w' => imul_any (ineg (P : Int)) (ineg (L : Int)) (imag (P : Int)) (imag (L : Int)) w' (Nat.le_trans hps.size (by omega)) (Nat.le_trans HLS.out.size (by omega))
    have had := fun w' => iadd_any (ineg (L : Int)) (ineg (G : Int)) (imag (L : Int)) (imag (G : Int)) w' (Nat.le_trans HLS.out.size (by omega)) (Nat.le_trans HGS.out.size (by omega))
    have hdb := fun w' => iadd_any (ineg (P : Int)) (ineg (P : Int)) (imag (P : Int)) (imag (P : Int)) w' (Nat.le_trans hps.size (by omega)) (Nat.le_trans hps.size (by omega))
    simp only [ival_canon] at hmu had hdb
    have hz1 := hps.mul HLS.out
    have hz2 := HLS.out.add HGS.out
    obtain ⟨X, hX⟩ : ∃ X, X = (P : Int) * (L : Int) := ⟨_, rfl⟩
    obtain ⟨Y, hY⟩ : ∃ Y, Y = (L : Int) + (G : Int) := ⟨_, rfl⟩
    rw [← hX] at hmu hz1
    rw [← hY] at had hz2
    have hcm := fun w' => icompare_any (ineg X) (ineg Y) (imag X) (imag Y) w' (Nat.le_trans hz1.size (by omega)) (Nat.le_trans hz2.size (by omega))
    simp only [ival_canon] at hcm
    have hXY : X ≤ Y ↔ k < K := by rw [hX, hY]; rw [← hle]; exact ⟨fun h => by exact_mod_cast h, fun h => by exact_mod_cast h⟩
    clear hz1 hz2 hX hY hle hps
    have HMU := zh hmu; clear hmu
    have HAD := zh had; clear had
    have HCM2 := zh hcm; clear hcm
    have HDB := zh hdb; clear hdb
    have HPW := zh hpw; clear hpw
    have HPE := zh hP; clear hP
    have HMEAS := zh hmeas; clear hmeas
    obtain ⟨r_0, r_f0, r_1, r_f1⟩ := k_r.f2
    have HR := zh k_r; clear k_r
    obtain ⟨l_0, l_f0, l_1, l_f1⟩ := k_l.f2
    have HL := zh k_l; clear k_l
    obtain ⟨m_0, m_f0, m_1, m_f1⟩ := k_m.f2
    have HM := zh k_m; clear k_m
    obtain ⟨o_0, o_f0, o_1, o_f1⟩ := k_o.f2
    have HO := zh k_o; clear k_o
    have HBL := zh tl; clear tl
    obtain ⟨c, hc⟩ : ∃ c, c = cmpZ X Y := ⟨_, rfl⟩
    rw [← hc] at HCM2
    by_cases hkK : k < K
    ·
     have hcv : decide (c ≤ 0) = true := decide_eq_true (by have := hXY.2 hkK; rw [hc]; unfold cmpZ; split <;> (try split) <;> omega)
     clear hc hXY
     go_wp2_with fail
     have HR := zh HR.out.drew
     have HL := zh HL.out.drew
     have HM := zh HM.out.drew
     have HO := zh HO.out.drew
     have HBL := zh HBL.out.drew
     refine wp_region_held_drew (S := fun w' => w'.cell? ⟨b_o, 0, none⟩ = some (.bool (ineg ((P : Int)))) ∧ w'.cell? ⟨b_o, 1, none⟩ = some (.string (imag ((P : Int)))) ∧ w'.cell? ⟨b_l, 0, none⟩ = some (.bool (ineg ((L : Int)))) ∧ w'.cell? ⟨b_l, 1, none⟩ = some (.string (imag ((L : Int)))) ∧ w'.cell? ⟨b_l + 1, 0, none⟩ = some (.bool (ineg ((G : Int)))) ∧ w'.cell? ⟨b_l + 1, 1, none⟩ = some (.string (imag ((G : Int))))) (by kernel_rfl) ?_ (fun hHeld0 => ?_)
     ·
      go_keep
     refine zT 0 (h := ?_)
     (try simp only [Act.put, zA, zB, zC])
     refine zT 1 (h := ?_)
     (try simp only [Act.put, zA, zB, zC])
     refine zT 3 (h := ?_)
     (try simp only [Act.put, zA, zB, zC])
     refine zT 4 (h := ?_)
     (try simp only [Act.put, zA, zB, zC])
     refine zR 2 (h := fun K hK => ?_)
     go_simp
     go_at_call 21
     refine (HMU.out _).mono ?_
     rintro e w101 ⟨hq, rfl⟩
     dsimp only
     have z0 := zK hq HO.out.lt hHeld0.1
     have z1 := zK hq HO.out.lt hHeld0.2.1
     have z2 := zK hq HL.out.lt hHeld0.2.2.1
     have z3 := zK hq HL.out.lt hHeld0.2.2.2.1
     have z4 := zK hq HM.out.lt hHeld0.2.2.2.2.1
     have z5 := zK hq HM.out.lt hHeld0.2.2.2.2.2
     refine hK.out _ _ ⟨z0, z1, z2, z3, z4, z5⟩ (fun hHeld1 => ?_)
     clear hK K hHeld0 z0 z1 z2 z3 z4 z5
     (try simp only [Act.put, zA, zB, zC])
     have k_r := HR.out.keep hq
     have k_l := HL.out.keep hq
     have k_m := HM.out.keep hq
     have k_o := HO.out.keep hq
     have tl := HBL.out.trans ((hq).mono HBL.out.size)
     clear HBL HR HL HM HO
     clear r_0 r_f0 r_1 r_f1
     obtain ⟨r_0, r_f0, r_1, r_f1⟩ := k_r.f2
     have HR := zh k_r; clear k_r
     clear l_0 l_f0 l_1 l_f1
     obtain ⟨l_0, l_f0, l_1, l_f1⟩ := k_l.f2
     have HL := zh k_l; clear k_l
     clear m_0 m_f0 m_1 m_f1
     obtain ⟨m_0, m_f0, m_1, m_f1⟩ := k_m.f2
     have HM := zh k_m; clear k_m
     clear o_0 o_f0 o_1 o_f1
     obtain ⟨o_0, o_f0, o_1, o_f1⟩ := k_o.f2
     have HO := zh k_o; clear k_o
     have HBL := zh tl; clear tl
     clear hq
     refine zR 5 (h := fun K hK => ?_)
     go_simp
     go_at_call 20
     refine (HAD.out _).mono ?_
     rintro e w102 ⟨hq, rfl⟩
     dsimp only
     have z0 := zK hq HO.out.lt hHeld1.1
     have z1 := zK hq HO.out.lt hHeld1.2.1
     have z2 := zK hq HL.out.lt hHeld1.2.2.1
     have z3 := zK hq HL.out.lt hHeld1.2.2.2.1
     have z4 := zK hq HM.out.lt hHeld1.2.2.2.2.1
     have z5 := zK hq HM.out.lt hHeld1.2.2.2.2.2
     refine hK.out _ _ ⟨z0, z1, z2, z3, z4, z5⟩ (fun hHeld2 => ?_)
     clear hK K hHeld1 z0 z1 z2 z3 z4 z5
     (try simp only [Act.put, zA, zB, zC])
     have k_r := HR.out.keep hq
     have k_l := HL.out.keep hq
     have k_m := HM.out.keep hq
     have k_o := HO.out.keep hq
     have tl := HBL.out.trans ((hq).mono HBL.out.size)
     clear HBL HR HL HM HO
     clear r_0 r_f0 r_1 r_f1
     obtain ⟨r_0, r_f0, r_1, r_f1⟩ := k_r.f2
     have HR := zh k_r; clear k_r
     clear l_0 l_f0 l_1 l_f1
     obtain ⟨l_0, l_f0, l_1, l_f1⟩ := k_l.f2
     have HL := zh k_l; clear k_l
     clear m_0 m_f0 m_1 m_f1
     obtain ⟨m_0, m_f0, m_1, m_f1⟩ := k_m.f2
     have HM := zh k_m; clear k_m
     clear o_0 o_f0 o_1 o_f1
     obtain ⟨o_0, o_f0, o_1, o_f1⟩ := k_o.f2
     have HO := zh k_o; clear k_o
     have HBL := zh tl; clear tl
     clear hq
     refine zR 6 (h := fun K hK => ?_)
     go_simp
     go_at_call 25
     refine (HCM2.out _).mono ?_
     rintro e w103 ⟨hq, rfl⟩
     dsimp only
     have z0 := zK hq HO.out.lt hHeld2.1
     have z1 := zK hq HO.out.lt hHeld2.2.1
     have z2 := zK hq HL.out.lt hHeld2.2.2.1
     have z3 := zK hq HL.out.lt hHeld2.2.2.2.1
     have z4 := zK hq HM.out.lt hHeld2.2.2.2.2.1
     have z5 := zK hq HM.out.lt hHeld2.2.2.2.2.2
     refine hK.out _ _ ⟨z0, z1, z2, z3, z4, z5⟩ (fun hHeld3 => ?_)
     clear hK K hHeld2 z0 z1 z2 z3 z4 z5
     (try simp only [Act.put, zA, zB, zC])
     have k_r := HR.out.keep hq
     have k_l := HL.out.keep hq
     have k_m := HM.out.keep hq
     have k_o := HO.out.keep hq
     have tl := HBL.out.trans ((hq).mono HBL.out.size)
     clear HBL HR HL HM HO
     clear r_0 r_f0 r_1 r_f1
     obtain ⟨r_0, r_f0, r_1, r_f1⟩ := k_r.f2
     have HR := zh k_r; clear k_r
     clear l_0 l_f0 l_1 l_f1
     obtain ⟨l_0, l_f0, l_1, l_f1⟩ := k_l.f2
     have HL := zh k_l; clear k_l
     clear m_0 m_f0 m_1 m_f1
     obtain ⟨m_0, m_f0, m_1, m_f1⟩ := k_m.f2
     have HM := zh k_m; clear k_m
     clear o_0 o_f0 o_1 o_f1
     obtain ⟨o_0, o_f0, o_1, o_f1⟩ := k_o.f2
     have HO := zh k_o; clear k_o
     have HBL := zh tl; clear tl
     clear hq
     refine zT 7 (h := ?_)
     (try simp only [Act.put, zA, zB, zC])
     refine wpAnyH_done (by kernel_rfl) ?_ _
     (try simp only [List.getElem_toArray, List.getElem_cons_zero, List.getElem_cons_succ, Act.put, zA, zB, zC])
     go_wp2_with fail
     refine (HDB.out _).mono ?_
     rintro e w104 ⟨hq, rfl⟩
     dsimp only
     have k_r := HR.out.keep hq
     have k_l := HL.out.keep hq
     have k_m := HM.out.keep hq
     have k_o := HO.out.keep hq
     have tl := HBL.out.trans ((hq).mono HBL.out.size)
     clear HBL HR HL HM HO
     clear r_0 r_f0 r_1 r_f1
     obtain ⟨r_0, r_f0, r_1, r_f1⟩ := k_r.f2
     have HR := zh k_r; clear k_r
     clear l_0 l_f0 l_1 l_f1
     obtain ⟨l_0, l_f0, l_1, l_f1⟩ := k_l.f2
     have HL := zh k_l; clear k_l
     clear m_0 m_f0 m_1 m_f1
     obtain ⟨m_0, m_f0, m_1, m_f1⟩ := k_m.f2
     have HM := zh k_m; clear k_m
     clear o_0 o_f0 o_1 o_f1
     obtain ⟨o_0, o_f0, o_1, o_f1⟩ := k_o.f2
     have HO := zh k_o; clear k_o
     have HBL := zh tl; clear tl
     clear hq
     go_wp2_with fail
     obtain ⟨w105, hw_⟩ : ∃ x, x = ((w104).setCell ⟨b_o, 0, none⟩ (.bool (ineg ((P : Int) + (P : Int))))).setCell ⟨b_o, 1, none⟩ (.string (imag ((P : Int) + (P : Int)))) := ⟨_, rfl⟩
     (try rw [← hw_])
     have k_r : Blk w105 (w.heap.size) 33 [.bool false, .string ⟨#[]⟩] := by rw [hw_]; exact ((HR.out.setOther (a := ⟨b_o, 0, none⟩) (by show b_o ≠ w.heap.size; omega) (.bool (ineg ((P : Int) + (P : Int))))).setOther (a := ⟨b_o, 1, none⟩) (by show b_o ≠ w.heap.size; omega) (.string (imag ((P : Int) + (P : Int)))))
     have k_l : Blk w105 (b_l) 33 [.bool (ineg ((L : Int))), .string (imag ((L : Int)))] := by rw [hw_]; exact ((HL.out.setOther (a := ⟨b_o, 0, none⟩) (by show b_o ≠ b_l; omega) (.bool (ineg ((P : Int) + (P : Int))))).setOther (a := ⟨b_o, 1, none⟩) (by show b_o ≠ b_l; omega) (.string (imag ((P : Int) + (P : Int)))))
     have k_m : Blk w105 (b_l + 1) 33 [.bool (ineg ((G : Int))), .string (imag ((G : Int)))] := by rw [hw_]; exact ((HM.out.setOther (a := ⟨b_o, 0, none⟩) (by show b_o ≠ b_l + 1; omega) (.bool (ineg ((P : Int) + (P : Int))))).setOther (a := ⟨b_o, 1, none⟩) (by show b_o ≠ b_l + 1; omega) (.string (imag ((P : Int) + (P : Int)))))
     have k_o : Blk w105 (b_o) 33 [.bool (ineg ((P : Int) + (P : Int))), .string (imag ((P : Int) + (P : Int)))] := by rw [hw_]; exact ((HO.out.set 0 (.bool (ineg ((P : Int) + (P : Int))))).set 1 (.string (imag ((P : Int) + (P : Int)))))
     have tl : Below w.heap.size w w105 := by rw [hw_]; exact ((HBL.out.setCell (p := ⟨b_o, 0, none⟩) (by show w.heap.size ≤ b_o; omega) (.bool (ineg ((P : Int) + (P : Int))))).setCell (p := ⟨b_o, 1, none⟩) (by show w.heap.size ≤ b_o; omega) (.string (imag ((P : Int) + (P : Int)))))
     clear HBL hw_ HR HL HM HO
     clear o_0 o_f0 o_1 o_f1
     clear r_0 r_f0 r_1 r_f1
     obtain ⟨r_0, r_f0, r_1, r_f1⟩ := k_r.f2
     have HR := zh k_r; clear k_r
     clear l_0 l_f0 l_1 l_f1
     obtain ⟨l_0, l_f0, l_1, l_f1⟩ := k_l.f2
     have HL := zh k_l; clear k_l
     clear m_0 m_f0 m_1 m_f1
     obtain ⟨m_0, m_f0, m_1, m_f1⟩ := k_m.f2
     have HM := zh k_m; clear k_m
     obtain ⟨o_0, o_f0, o_1, o_f1⟩ := k_o.f2
     have HO := zh k_o; clear k_o
     have HBL := zh tl; clear tl
     go_roundw
     case rel =>
      refine ⟨k + 1, by omega, HBL.out, HR.out, HL.out, HM.out, ?_⟩
      rw [HPW.out, show ((P + P : Nat) : Int) = (P : Int) + (P : Int) by omega]; exact HO.out
     case measure =>
      have h2 := pwAt_eq (k := k + 1) (b := b_o) (by rw [HPW.out, show ((P + P : Nat) : Int) = (P : Int) + (P : Int) by omega]; exact HO.out)
      rw [h2, HMEAS.out]; omega
    ·
     have hcv : decide (c ≤ 0) = false := decide_eq_false (by have := mt hXY.1 hkK; rw [hc]; unfold cmpZ; split <;> (try split) <;> omega)
     clear hc hXY
     go_wp2_with fail
     have HR := zh HR.out.drew
     have HL := zh HL.out.drew
     have HM := zh HM.out.drew
     have HO := zh HO.out.drew
     have HBL := zh HBL.out.drew
     refine wp_region_held_drew (S := fun w' => w'.cell? ⟨b_o, 0, none⟩ = some (.bool (ineg ((P : Int)))) ∧ w'.cell? ⟨b_o, 1, none⟩ = some (.string (imag ((P : Int)))) ∧ w'.cell? ⟨b_l, 0, none⟩ = some (.bool (ineg ((L : Int)))) ∧ w'.cell? ⟨b_l, 1, none⟩ = some (.string (imag ((L : Int)))) ∧ w'.cell? ⟨b_l + 1, 0, none⟩ = some (.bool (ineg ((G : Int)))) ∧ w'.cell? ⟨b_l + 1, 1, none⟩ = some (.string (imag ((G : Int))))) (by kernel_rfl) ?_ (fun hHeld0 => ?_)
     ·
      go_keep
     refine zT 0 (h := ?_)
     (try simp only [Act.put, zA, zB, zC])
     refine zT 1 (h := ?_)
     (try simp only [Act.put, zA, zB, zC])
     refine zT 3 (h := ?_)
     (try simp only [Act.put, zA, zB, zC])
     refine zT 4 (h := ?_)
     (try simp only [Act.put, zA, zB, zC])
     refine zR 2 (h := fun K hK => ?_)
     go_simp
     go_at_call 21
     refine (HMU.out _).mono ?_
     rintro e w101 ⟨hq, rfl⟩
     dsimp only
     have z0 := zK hq HO.out.lt hHeld0.1
     have z1 := zK hq HO.out.lt hHeld0.2.1
     have z2 := zK hq HL.out.lt hHeld0.2.2.1
     have z3 := zK hq HL.out.lt hHeld0.2.2.2.1
     have z4 := zK hq HM.out.lt hHeld0.2.2.2.2.1
     have z5 := zK hq HM.out.lt hHeld0.2.2.2.2.2
     refine hK.out _ _ ⟨z0, z1, z2, z3, z4, z5⟩ (fun hHeld1 => ?_)
     clear hK K hHeld0 z0 z1 z2 z3 z4 z5
     (try simp only [Act.put, zA, zB, zC])
     have k_r := HR.out.keep hq
     have k_l := HL.out.keep hq
     have k_m := HM.out.keep hq
     have k_o := HO.out.keep hq
     have tl := HBL.out.trans ((hq).mono HBL.out.size)
     clear HBL HR HL HM HO
     clear r_0 r_f0 r_1 r_f1
     obtain ⟨r_0, r_f0, r_1, r_f1⟩ := k_r.f2
     have HR := zh k_r; clear k_r
     clear l_0 l_f0 l_1 l_f1
     obtain ⟨l_0, l_f0, l_1, l_f1⟩ := k_l.f2
     have HL := zh k_l; clear k_l
     clear m_0 m_f0 m_1 m_f1
     obtain ⟨m_0, m_f0, m_1, m_f1⟩ := k_m.f2
     have HM := zh k_m; clear k_m
     clear o_0 o_f0 o_1 o_f1
     obtain ⟨o_0, o_f0, o_1, o_f1⟩ := k_o.f2
     have HO := zh k_o; clear k_o
     have HBL := zh tl; clear tl
     clear hq
     refine zR 5 (h := fun K hK => ?_)
     go_simp
     go_at_call 20
     refine (HAD.out _).mono ?_
     rintro e w102 ⟨hq, rfl⟩
     dsimp only
     have z0 := zK hq HO.out.lt hHeld1.1
     have z1 := zK hq HO.out.lt hHeld1.2.1
     have z2 := zK hq HL.out.lt hHeld1.2.2.1
     have z3 := zK hq HL.out.lt hHeld1.2.2.2.1
     have z4 := zK hq HM.out.lt hHeld1.2.2.2.2.1
     have z5 := zK hq HM.out.lt hHeld1.2.2.2.2.2
     refine hK.out _ _ ⟨z0, z1, z2, z3, z4, z5⟩ (fun hHeld2 => ?_)
     clear hK K hHeld1 z0 z1 z2 z3 z4 z5
     (try simp only [Act.put, zA, zB, zC])
     have k_r := HR.out.keep hq
     have k_l := HL.out.keep hq
     have k_m := HM.out.keep hq
     have k_o := HO.out.keep hq
     have tl := HBL.out.trans ((hq).mono HBL.out.size)
     clear HBL HR HL HM HO
     clear r_0 r_f0 r_1 r_f1
     obtain ⟨r_0, r_f0, r_1, r_f1⟩ := k_r.f2
     have HR := zh k_r; clear k_r
     clear l_0 l_f0 l_1 l_f1
     obtain ⟨l_0, l_f0, l_1, l_f1⟩ := k_l.f2
     have HL := zh k_l; clear k_l
     clear m_0 m_f0 m_1 m_f1
     obtain ⟨m_0, m_f0, m_1, m_f1⟩ := k_m.f2
     have HM := zh k_m; clear k_m
     clear o_0 o_f0 o_1 o_f1
     obtain ⟨o_0, o_f0, o_1, o_f1⟩ := k_o.f2
     have HO := zh k_o; clear k_o
     have HBL := zh tl; clear tl
     clear hq
     refine zR 6 (h := fun K hK => ?_)
     go_simp
     go_at_call 25
     refine (HCM2.out _).mono ?_
     rintro e w103 ⟨hq, rfl⟩
     dsimp only
     have z0 := zK hq HO.out.lt hHeld2.1
     have z1 := zK hq HO.out.lt hHeld2.2.1
     have z2 := zK hq HL.out.lt hHeld2.2.2.1
     have z3 := zK hq HL.out.lt hHeld2.2.2.2.1
     have z4 := zK hq HM.out.lt hHeld2.2.2.2.2.1
     have z5 := zK hq HM.out.lt hHeld2.2.2.2.2.2
     refine hK.out _ _ ⟨z0, z1, z2, z3, z4, z5⟩ (fun hHeld3 => ?_)
     clear hK K hHeld2 z0 z1 z2 z3 z4 z5
     (try simp only [Act.put, zA, zB, zC])
     have k_r := HR.out.keep hq
     have k_l := HL.out.keep hq
     have k_m := HM.out.keep hq
     have k_o := HO.out.keep hq
     have tl := HBL.out.trans ((hq).mono HBL.out.size)
     clear HBL HR HL HM HO
     clear r_0 r_f0 r_1 r_f1
     obtain ⟨r_0, r_f0, r_1, r_f1⟩ := k_r.f2
     have HR := zh k_r; clear k_r
     clear l_0 l_f0 l_1 l_f1
     obtain ⟨l_0, l_f0, l_1, l_f1⟩ := k_l.f2
     have HL := zh k_l; clear k_l
     clear m_0 m_f0 m_1 m_f1
     obtain ⟨m_0, m_f0, m_1, m_f1⟩ := k_m.f2
     have HM := zh k_m; clear k_m
     clear o_0 o_f0 o_1 o_f1
     obtain ⟨o_0, o_f0, o_1, o_f1⟩ := k_o.f2
     have HO := zh k_o; clear k_o
     have HBL := zh tl; clear tl
     clear hq
     refine zT 7 (h := ?_)
     (try simp only [Act.put, zA, zB, zC])
     refine wpAnyH_done (by kernel_rfl) ?_ _
     (try simp only [List.getElem_toArray, List.getElem_cons_zero, List.getElem_cons_succ, Act.put, zA, zB, zC])
     go_wp2_with fail
     obtain rfl : k = K := by omega
     have hrv : IntV (((2 : Nat) ^ k : Nat) : Int) = .agg #[.bool (ineg (P : Int)), .string (imag (P : Int))] := by rw [← HPE.out]
     have hrv : IntV (((2 : Nat) ^ k : Nat) : Int) = .agg #[.bool (ineg ((P : Int))), .string (imag ((P : Int)))] := hrv
     have kz := ((HR.out.set 0 (.bool (ineg ((P : Int))))).set 1 (.string (imag ((P : Int)))))
     have sz := ((HBL.out.setCell (p := ⟨w.heap.size, 0, none⟩) (by show w.heap.size ≤ w.heap.size; omega) (.bool (ineg ((P : Int))))).setCell (p := ⟨w.heap.size, 1, none⟩) (by show w.heap.size ≤ w.heap.size; omega) (.string (imag ((P : Int)))))
     have e0 := kz.c 0 rfl
     have e1 := kz.c 1 rfl
     refine bodyPost_ret (v := IntV (((2 : Nat) ^ k : Nat) : Int)) (by rw [hrv]; simp [results, Try.results30, go_sem, e0, e1]) rfl ⟨sz, rfl⟩
end Go.Proofs.Ytjpalbonclgflaa

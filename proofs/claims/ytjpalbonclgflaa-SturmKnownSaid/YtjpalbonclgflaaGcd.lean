/- integer.Gcd. -/
import Derived.Test.YtjpalbonclgflaaPart8
import Derived.Test.YtjpalbonclgflaaPart7
import Derived.Test.YtjpalbonclgflaaDivZ
namespace Go.Proofs.Ytjpalbonclgflaa
open Go.RowKit Go.Shelf

attribute [local go_sem] Oper.semAt_some

set_option maxHeartbeats 1000000 in
theorem euclid_any (ax ay : Option Addr) (nx mx ny my : Nat) (w : World) :
  Calls Try.prog 75 #[.slice ax nx mx, .slice ay ny my] w fun e w' => e = .returned (.func (.func 81) #[] #[.pointer (some ⟨w.heap.size, 0, none⟩), .pointer (some ⟨w.heap.size + 1, 0, none⟩)]) ∧ w' = (w.alloc (.cells #[.slice ax nx mx] 78)).alloc (.cells #[.slice ay ny my] 78) := by
 go_enter Try.func75, Try.ntmps75
 go_wp2_with fail
 go_ret
 exact ⟨rfl, rfl⟩
set_option maxRecDepth 100000 in
set_option maxHeartbeats 8000000 in
theorem gcd_in (na nb : Bool) (sa sb : ByteArray) (w : World) (hsa : sa.size ≤ 100000000000) (hsb : sb.size ≤ 100000000000) :
  CallsIn Fence.wide 8 Try.prog 61 #[.agg #[.bool na, .string sa], .agg #[.bool nb, .string sb]] w (Ret w (IntV ((Nat.gcd (bval sa.data.toList) (bval sb.data.toList) : Nat) : Int))) := by
 have hdx := fun w' => digits_any na sa w' (by omega)
 have hdd := fun w' => digits_any nb sb w' (by omega)
 have hXl := dg_sized (s := sa) (m := 25000000000) (by omega)
 have hDl := dg_sized (s := sb) (m := 25000000000) (by omega)
 obtain ⟨X, hX⟩ : ∃ X, X = bval sa.data.toList := ⟨_, rfl⟩
 obtain ⟨D, hD⟩ : ∃ D, D = bval sb.data.toList := ⟨_, rfl⟩
 rw [← hX] at hdx hXl ⊢
 rw [← hD] at hdd hDl ⊢
 have HDX := zh hdx; clear hdx
 have HDD := zh hdd; clear hdd
 have HXL := zh hXl; clear hXl
 have HDL := zh hDl; clear hDl
 clear hsa hsb hX hD
 refine callsIn_of_wp_marks Try.func61 rfl trivial ?_ rfl
 simp only [Try.ntmps61, List.size_toArray, List.length_cons, List.length_nil, Nat.reduceAdd, Nat.reduceSub, Array.replicate_succ, Array.replicate_zero, List.push_toArray, List.append_toArray, List.nil_append, List.cons_append]
 obtain ⟨w4, hw4⟩ : ∃ w4, w4 = ((((w.alloc (.cells #[.bool na, .string sa] 33)).alloc (.cells #[.bool nb, .string sb] 33)).alloc (.cells #[.bool false, .string ⟨#[]⟩] 33)).alloc (.cells #[.slice none 0 0] 78)) := ⟨_, rfl⟩
 have hb0 : Blk w4 w.heap.size 33 [.bool na, .string sa] := by rw [hw4]; exact (((Blk.new w 33 _).alloc _).alloc _).alloc _
 have hb1 : Blk w4 (w.heap.size + 1) 33 [.bool nb, .string sb] := by
  rw [hw4]
  have h := ((Blk.new (w.alloc (.cells #[.bool na, .string sa] 33)) 33 [.bool nb, .string sb]).alloc (.cells #[.bool false, .string ⟨#[]⟩] 33)).alloc (.cells #[.slice none 0 0] 78)
  simp only [World.size_alloc] at h
  exact h
 have hb2 : Blk w4 (w.heap.size + 2) 33 [.bool false, .string ⟨#[]⟩] := by
  rw [hw4]
  have h := (Blk.new ((w.alloc (.cells #[.bool na, .string sa] 33)).alloc (.cells #[.bool nb, .string sb] 33)) 33 [.bool false, .string ⟨#[]⟩]).alloc (.cells #[.slice none 0 0] 78)
  simp only [World.size_alloc] at h
  exact h
 have hb3 : Blk w4 (w.heap.size + 3) 78 [.slice none 0 0] := by
  rw [hw4]
  have h := Blk.new (((w.alloc (.cells #[.bool na, .string sa] 33)).alloc (.cells #[.bool nb, .string sb] 33)).alloc (.cells #[.bool false, .string ⟨#[]⟩] 33)) 78 [.slice none 0 0]
  simp only [World.size_alloc] at h
  exact h
 have hbel : Below w.heap.size w w4 := by
  rw [hw4]
  exact ((((Below.refl w.heap.size w).alloc (Nat.le_refl _) _).alloc (by simp) _).alloc (by simp <;> omega) _).alloc (by simp <;> omega) _
 have hsz4 : w4.heap.size = w.heap.size + 4 := by rw [hw4]; simp only [World.size_alloc]
 have x0 := hb0.c 0 rfl
 have x1 := hb0.c 1 rfl
 have y0 := hb1.c 0 rfl
 have y1 := hb1.c 1 rfl
 have HB0 := zh hb0; clear hb0
 have HB1 := zh hb1; clear hb1
 have HB2 := zh hb2; clear hb2
 have HB3 := zh hb3; clear hb3
 have HB := zh hbel; clear hbel
 gi_wp2
 rw [← hw4]
 clear hw4
 simp only [Nat.add_assoc, Nat.reduceAdd]
 refine wpIn_wide_norm (S := fun w' => w'.cell? ⟨w.heap.size, 0, none⟩ = some (.bool na) ∧ w'.cell? ⟨w.heap.size, 1, none⟩ = some (.string sa) ∧ w'.cell? ⟨w.heap.size + 1, 0, none⟩ = some (.bool nb) ∧ w'.cell? ⟨w.heap.size + 1, 1, none⟩ = some (.string sb)) (by kernel_rfl) (by rfl) ?_ (fun hHeld => ?_)
 ·
  go_keep
 refine zT 0 (h := ?_)
 (try simp only [Act.put, zA, zB, zC])
 refine zT 2 (h := ?_)
 (try simp only [Act.put, zA, zB, zC])
 refine zR 1 (h := fun K hK => ?_)
 go_simp
 go_at_call 40
 refine (HDX.out _).mono ?_
 rintro e w5 ⟨hq5, v5, rfl, hv5⟩
 dsimp only
 have z0 := zK hq5 (show w.heap.size < w4.drew.heap.size by simp; omega) hHeld.1
 have z1 := zK hq5 (show w.heap.size < w4.drew.heap.size by simp; omega) hHeld.2.1
 have z2 := zK hq5 (show w.heap.size + 1 < w4.drew.heap.size by simp; omega) hHeld.2.2.1
 have z3 := zK hq5 (show w.heap.size + 1 < w4.drew.heap.size by simp; omega) hHeld.2.2.2
 refine hK.out _ _ ⟨z0, z1, z2, z3⟩ (fun hHeld2 => ?_)
 clear hK K x0 x1 y0 y1 z0 z1 z2 z3 hHeld
 have hb5 := HB.out.drew.trans (hq5.mono (by simp; omega))
 have k2 := HB2.out.drew.keep hq5
 have k3 := HB3.out.drew.keep hq5
 have hsz5 := hq5.size
 simp only [World.size_drew] at hsz5
 clear HB HB0 HB1 HB2 HB3 hq5
 have HB5 := zh hb5; clear hb5
 have K2 := zh k2; clear k2
 have K3 := zh k3; clear k3
 have HV5 := zh hv5; clear hv5
 (try simp only [Act.put, zA, zB, zC])
 refine zR 3 (h := fun K hK => ?_)
 go_simp
 go_at_call 40
 refine (HDD.out _).mono ?_
 rintro e w6 ⟨hq6, v6, rfl, hv6⟩
 dsimp only
 have z0 := zK hq6 (show w.heap.size < w5.heap.size by omega) hHeld2.1
 have z1 := zK hq6 (show w.heap.size < w5.heap.size by omega) hHeld2.2.1
 have z2 := zK hq6 (show w.heap.size + 1 < w5.heap.size by omega) hHeld2.2.2.1
 have z3 := zK hq6 (show w.heap.size + 1 < w5.heap.size by omega) hHeld2.2.2.2
 refine hK.out _ _ ⟨z0, z1, z2, z3⟩ (fun hHeld3 => ?_)
 clear hK K z0 z1 z2 z3 hHeld2
 have hb6 := HB5.out.trans (hq6.mono (by omega))
 have k2 := K2.out.keep hq6
 have k3 := K3.out.keep hq6
 have hsz6 := hq6.size
 have hv5 := HV5.out.below hq6 (Nat.le_refl _)
 clear HB5 K2 K3 hq6 HV5
 obtain ⟨a5, c5, rfl, -⟩ := hv5.slice
 obtain ⟨a6, c6, rfl, -⟩ := hv6.slice
 obtain ⟨bx, hbx⟩ : ∃ bx, bx = w6.heap.size := ⟨_, rfl⟩
 have eu := euclid_any a5 a6 (dg X).length c5 (dg D).length c6 w6
 rw [← hbx] at eu
 have hbx7 : Blk ((w6.alloc (.cells #[.slice a5 (dg X).length c5] 78)).alloc (.cells #[.slice a6 (dg D).length c6] 78)) bx 78 [.slice a5 (dg X).length c5] := by
  rw [hbx]; exact (Blk.new w6 78 _).alloc _
 have hby7 : Blk ((w6.alloc (.cells #[.slice a5 (dg X).length c5] 78)).alloc (.cells #[.slice a6 (dg D).length c6] 78)) (bx + 1) 78 [.slice a6 (dg D).length c6] := by
  have h := Blk.new (w6.alloc (.cells #[.slice a5 (dg X).length c5] 78)) 78 [.slice a6 (dg D).length c6]
  rw [World.size_alloc, ← hbx] at h
  exact h
 have h67 : Below w6.heap.size w6 ((w6.alloc (.cells #[.slice a5 (dg X).length c5] 78)).alloc (.cells #[.slice a6 (dg D).length c6] 78)) := ((Below.refl _ _).alloc (Nat.le_refl _) _).alloc (by simp) _
 obtain ⟨w7, hw7⟩ : ∃ w7, w7 = (w6.alloc (.cells #[.slice a5 (dg X).length c5] 78)).alloc (.cells #[.slice a6 (dg D).length c6] 78) := ⟨_, rfl⟩
 rw [← hw7] at eu hbx7 hby7 h67
 have hb7 := hb6.trans (h67.mono hb6.size)
 have k2 := k2.keep h67
 have k3 := k3.keep h67
 have hv5 : NatRow w7 _ X := Row.below hv5 h67 (Nat.le_refl _)
 have hv6 : NatRow w7 _ D := Row.below hv6 h67 (Nat.le_refl _)
 have hsz7 := h67.size
 have z0 := zK h67 (show w.heap.size < w6.heap.size by omega) hHeld3.1
 have z1 := zK h67 (show w.heap.size < w6.heap.size by omega) hHeld3.2.1
 have z2 := zK h67 (show w.heap.size + 1 < w6.heap.size by omega) hHeld3.2.2.1
 have z3 := zK h67 (show w.heap.size + 1 < w6.heap.size by omega) hHeld3.2.2.2
 have hn1 : ¬ bx = w.heap.size + 3 := by omega
 have hn2 : ¬ bx + 1 = w.heap.size + 3 := by omega
 have hlt7 := hby7.lt
 have HBXE := zh hbx; clear hbx
 have EU := zh eu; clear eu
 have HB7 := zh hb7; clear hb7
 have K2 := zh k2; clear k2
 have K3 := zh k3; clear k3
 have HV5 := zh hv5; clear hv5
 have HV6 := zh hv6; clear hv6
 have HBX := zh hbx7; clear hbx7
 have HBY := zh hby7; clear hby7
 clear hb6 h67 hw7
 (try simp only [Act.put, zA, zB, zC])
 refine zR 4 (h := fun K hK => ?_)
 go_simp
 go_at_call 75
 refine (EU.out).mono ?_
 rintro e w8 ⟨rfl, rfl⟩
 dsimp only
 refine hK.out _ _ ⟨z0, z1, z2, z3⟩ (fun hHeld4 => ?_)
 clear hK K z0 z1 z2 z3 hHeld3
 (try simp only [Act.put, zA, zB, zC])
 refine wpAnyH_done (by kernel_rfl) ?_ _
 (try simp only [List.getElem_toArray, List.getElem_cons_zero, List.getElem_cons_succ, Act.put, zA, zB, zC])
 unfold nOnly
 dsimp only
 gi_wp2
 refine range_v (n := 8) (α := Hdr × Hdr) (encs := fun x : Hdr × Hdr => #[hv x.1, hv x.2]) (cI := euI bx) (cC := euC (w.heap.size + 3)) (S := fun xs W => ∃ pre x, xs = pre ++ [x] ∧ NatRow W (hv x.1) (Nat.gcd X D)) rfl (by decide) (gf := 81) (lb := #[.pointer (some ⟨bx, 0, none⟩), .pointer (some ⟨bx + 1, 0, none⟩)]) rfl trivial (enters_of Try.func81 (by kernel_rfl) rfl)
  (euclid_seq 7 (by decide) X D (Nat.le_trans HXL.out (by decide)) (Nat.le_trans HDL.out (by decide)) bx (w.heap.size + 3) hn1 hn2 _ _ _ HBX.out HBY.out HV5.out HV6.out)
  (fun _ _ h => h.2.1) (fun _ _ h => ⟨Slices.of_not h, Or.inr h⟩) (fun _ => rfl)
  (fun pre W => Below w.heap.size w W ∧ Blk W (w.heap.size + 2) 33 [.bool false, .string ⟨#[]⟩] ∧ ∃ h : Hdr, Blk W (w.heap.size + 3) 78 [hv h] ∧ (∀ p x, pre = p ++ [x] → x.1 = h)) ?hI ?h0 ?hS ?a1 ?assign ?body ?done
 case h0 => exact ⟨HB7.out, K2.out, (none, 0, 0), K3.out, fun p x h => by simp at h⟩
 case hI =>
  rintro s A B ⟨i1, i2, h, i3, i4⟩ ho
  have := HBXE.out
  have hn : ∀ b o, b < bx → ¬ (euI bx b o ∨ (o.isCells = false ∧ w8.heap.size ≤ b)) := by
   rintro b o hb (⟨h, -⟩ | ⟨-, h⟩) <;> omega
  exact ⟨ho.below i1 (Nat.le_refl _) (fun b o hb => hn b o (by omega)), ho.blk i2 (fun o => hn (w.heap.size + 2) o (by omega)), h, ho.blk i3 (fun o => hn (w.heap.size + 3) o (by omega)), i4⟩
 case hS =>
  rintro xs A B ⟨pre, x, h1, h2⟩ ho
  exact ⟨pre, x, h1, Row.only ho (fun _ _ h => Slices.of_not h.1) h2 (cs32_not_slice _)⟩
 case assign =>
  intro l x W K hK
  gi_wp2
  exact hK
 case body =>
  rintro l pre ⟨⟨a1, n1, m1⟩, h2⟩ W ⟨i1, i2, ⟨ah, nh, mh⟩, i3, i4⟩
  simp only [hv] at i3
  have c3 := i3.c 0 rfl
  have f3 := i3.frozen 0
  have hsc : Slices (.cells #[.slice ah nh mh] 78 (0, 0)) := Slices.one _ _ _ _
  simp only [hv]
  gi_wp2
  refine ⟨?_, i1.setCell (p := ⟨w.heap.size + 3, 0, none⟩) (by show w.heap.size ≤ w.heap.size + 3; omega) _, i2.setOther (by show w.heap.size + 3 ≠ w.heap.size + 2; omega) _, i3.set 0 _⟩
  ·
   refine Only.setCell _ (fun o ho => ?_)
   have e : o = .cells #[.slice ah nh mh] 78 (0, 0) := by
    have h5 : W.heap[w.heap.size + 3]? = some (.cells #[.slice ah nh mh] 78 (0, 0)) := i3
    have h6 : W.heap[w.heap.size + 3]? = some o := ho
    rw [h5] at h6
    exact (Option.some.inj h6).symm
   subst e
   exact ⟨⟨hsc, Or.inl rfl⟩, rfl⟩
 case done =>
  rintro D' xs W hD' ⟨pre, x, rfl, hrow⟩ ⟨i1, i2, h, i3, i4⟩ hdef
  obtain rfl := i4 pre x rfl
  obtain ⟨⟨ah, nh, mh⟩, h2⟩ := x
  simp only [hv] at i3 hrow
  have c3 := i3.c 0 rfl
  have hlen : (dg (Nat.gcd X D)).length ≤ 274877906944 := by
   rcases Nat.eq_zero_or_pos X with h | h
   ·
    rw [h, Nat.gcd_zero_left]; exact Nat.le_trans HDL.out (by decide)
   ·
    exact Nat.le_trans (dg_le_of_le (Nat.gcd_le_left _ h) HXL.out) (by decide)
  have hnum := number_any false (dg (Nat.gcd X D)) _ W hrow (dg_lt _) hlen
  rw [val_dg] at hnum
  have HNUM := zh hnum; clear hnum
  have I1 := zh i1; clear i1
  have I2 := zh i2; clear i2
  clear i3 i4 hrow
  gi_wp2
  refine ⟨trivial, (callsIn_wide (n := 7)).2 ((HNUM.out).mono ?_)⟩
  rintro e w9 ⟨hq9, rfl⟩
  dsimp only
  have k2 := I2.out.keep hq9
  have f0 := k2.frozen 0
  have f1 := k2.frozen 1
  have d0 := k2.c 0 rfl
  have d1 := k2.c 1 rfl
  obtain ⟨Z, hZ⟩ : ∃ Z : Int, Z = sgn false (Nat.gcd X D) := ⟨_, rfl⟩
  rw [← hZ]
  have hb9 := ((I1.out.trans (hq9.mono I1.out.size)).setCell (p := ⟨w.heap.size + 2, 0, none⟩) (show w.heap.size ≤ w.heap.size + 2 by omega) (.bool (ineg Z))).setCell (p := ⟨w.heap.size + 2, 1, none⟩) (show w.heap.size ≤ w.heap.size + 2 by omega) (.string (imag Z))
  have k2f := (k2.set 0 (.bool (ineg Z))).set 1 (.string (imag Z))
  have hdz := (hq9.block D' (Array.getElem?_eq_some_iff.1 hdef).1).trans hdef
  have HB9 := zh hb9; clear hb9
  have K2F := zh k2f; clear k2f
  have HDZ := zh hdz; clear hdz
  have HZ := zh hZ; clear hZ
  gi_wp2
  refine leaves_marks w8.heap.size (fun W => Below w.heap.size w W ∧ Blk W (w.heap.size + 2) 33 [.bool (ineg Z), .string (imag Z)]) (fun W D hB hk hD => ⟨hk.1.grown (grownBy_putObj' W D _) hk.1.size (fun j' e' => by cases e'; omega), hk.2.of_block (World.putObj_heap_other (by omega))⟩) (fun W hk => ?hfin) [D'] _ ⟨HB9.out, K2F.out⟩ (fun D'' h' => ?hd) (List.nodup_cons.2 ⟨by simp, List.nodup_nil⟩) (fun D'' h' => ?hge)
  case hfin =>
   have e0 := hk.2.c 0 rfl
   have e1 := hk.2.c 1 rfl
   refine ⟨IntV Z, ?_, hk.1, by rw [HZ.out]; rfl⟩
   simp [results, Try.results61, go_sem, e0, e1, IntV]
  case hd =>
   obtain rfl : D'' = D' := by simpa using h'
   exact ((Below.heap_setCell _ _ _ D'' (by simp; omega)).trans (Below.heap_setCell _ _ _ D'' (by simp; omega))).trans HDZ.out
  case hge =>
   obtain rfl : D'' = D' := by simpa using h'
   exact hD'
theorem igcd_any (na nb : Bool) (sa sb : ByteArray) (w : World) (hsa : sa.size ≤ 100000000000) (hsb : sb.size ≤ 100000000000) :
  Calls Try.prog 61 #[.agg #[.bool na, .string sa], .agg #[.bool nb, .string sb]] w (Ret w (IntV ((Nat.gcd (bval sa.data.toList) (bval sb.data.toList) : Nat) : Int))) :=
 (callsIn_wide (n := 8)).1 (gcd_in na nb sa sb w hsa hsb)
end Go.Proofs.Ytjpalbonclgflaa

/- integer.Div by one digit, of any number (printed by gen_divm.py). -/
import Derived.Test.YtjpalbonclgflaaDivI
import Derived.Test.YtjpalbonclgflaaPart12
namespace Go.Proofs.Ytjpalbonclgflaa
open Go.RowKit

set_option maxRecDepth 100000 in
set_option maxHeartbeats 3200000 in
theorem divide_any (X D : Nat) (vx vy : Value) (w : World) (hx : Row w vx (dg X).length (cs32 (dg X))) (hy : Row w vy (dg D).length (cs32 (dg D))) (hX : (dg X).length ≤ 100000000000) (hD0 : 0 < D) (hD : D < 4294967296) :
  Calls Try.prog 76 #[vx, vy] w (DivRet (X / D) (X % D) w) := by
 have hcmp := compare_any X D vx vy w hx hy
 have hdl : (dg D).length = 1 := by rw [dg_one hD0 hD]; rfl
 obtain ⟨vb, vd, rfl, hle2⟩ := hy.slice
 by_cases hlt : X < D
 ·
  rw [Nat.div_eq_of_lt hlt, Nat.mod_eq_of_lt hlt]
  have hc : cmpN X D = -1 := by simp [cmpN]; omega
  rw [hc] at hcmp
  have HX := zh hx; clear hx
  have HC := zh hcmp; clear hcmp
  clear hy hdl
  go_enter Try.func76, Try.ntmps76
  refine wp_tail2 (fun code2 => ?_)
  go_wp2_with fail
  go_at_call 42
  refine (HC.out).mono ?_
  rintro e w1 ⟨hq1, rfl⟩
  have hx1 := HX.out.below hq1 (Nat.le_refl _)
  have HX1 := zh hx1; clear hx1
  have HQ1 := zh hq1; clear hq1
  go_wp2_with fail
  go_ret2
  exact ⟨HQ1.out, _, _, rfl, by rw [dg_zero]; exact .inl ⟨rfl, rfl, rfl⟩, HX1.out⟩
 ·
  have hc : ¬ cmpN X D < 0 := by simp only [cmpN]; split <;> (try split) <;> omega
  obtain ⟨z, hz⟩ : ∃ z, z = cmpN X D := ⟨_, rfl⟩
  rw [← hz] at hcmp hc
  rw [hdl] at hcmp
  rw [hdl]
  rw [dg_one hD0 hD] at hy
  replace hy : Row w (.slice vb 1 vd) 1 (cs32 [D]) := hy
  clear hdl hle2
  obtain ⟨dx, hdx⟩ : ∃ dx, dx = cs32 (dg X) := ⟨_, rfl⟩
  obtain ⟨lx, hlx⟩ : ∃ lx, lx = (dg X).length := ⟨_, rfl⟩
  rw [← hdx, ← hlx] at hx
  have hsh0 := fun w' h => short_any X D vx w' h (by omega) hX hD0 hD
  have hsh := fun w' h => hsh0 w' (by rw [← hdx, ← hlx]; exact h)
  clear hsh0 hdx hlx hX
  have htz := tz_one (X := X % D) (by have := Nat.mod_lt X hD0; omega)
  obtain ⟨Q, hQ⟩ : ∃ Q, Q = X / D := ⟨_, rfl⟩
  obtain ⟨Rr, hRr⟩ : ∃ Rr, Rr = X % D := ⟨_, rfl⟩
  rw [← hQ, ← hRr]
  rw [← hQ, ← hRr] at hsh
  rw [← hRr] at htz
  have HX := zh hx; clear hx
  have HY := zh hy; clear hy
  have HC := zh hcmp; clear hcmp
  have HSH := zh hsh; clear hsh
  have HTZ := zh htz; clear htz
  clear hz hQ hRr hlt
  go_enter Try.func76, Try.ntmps76
  refine wp_tail3 (fun code2 => ?_)
  go_wp2_with fail
  go_at_call 42
  refine (HC.out).mono ?_
  rintro e w1 ⟨hq1, rfl⟩
  have hx1 := HX.out.below hq1 (Nat.le_refl _)
  have hy1 := HY.out.below hq1 (Nat.le_refl _)
  obtain ⟨b, off, rfl, hbw, hce⟩ := hy1.at_ (by simp)
  have c0 := hce 0 _ (cs32_get (d := D) (i := 0) rfl)
  rw [Nat.add_zero] at c0
  clear hy1 hce
  have HX1 := zh hx1; clear hx1
  have HQ1 := zh hq1; clear hq1
  go_wp2_with fail
  go_at_call 82
  refine (HSH.out _ HX1.out).mono ?_
  rintro e w2 ⟨hq2, v2, rfl, hv2⟩
  obtain ⟨a2, c2, rfl, -⟩ := hv2.slice
  have HV2 := zh hv2; clear hv2
  have HQ2 := zh hq2; clear hq2
  go_wp2_with fail
  go_at_call 58
  have hr2 : Row (w2.alloc (.cells #[.int .u32 (Rr : Int)] 75)) (.slice (some ⟨w2.heap.size, 0, none⟩) 1 1) 1 (cs32 [Rr]) := Row.ofBlk (Blk.new w2 75 [.int .u32 (Rr : Int)]) (m := 1) (cap := 1) (Nat.le_refl _) (by decide) 1
  refine (trim_any [Rr] _ _ hr2).mono ?_
  rintro e w3 ⟨rfl, v3, rfl, hv3⟩
  rw [HTZ.out] at hv3
  have HV3 := zh hv3; clear hv3
  clear hr2
  go_wp2_with fail
  go_ret2
  have s1 := HQ1.out.trans (HQ2.out.mono HQ1.out.size)
  exact ⟨s1.alloc s1.size _, _, _, rfl, HV2.out.below ((Below.refl _ _).alloc (Nat.le_refl _) _) (Nat.le_refl _), HV3.out⟩
end Go.Proofs.Ytjpalbonclgflaa

/- groovelaw05.SturmSums is true (printed by gen_lsum.py). -/
import Derived.Test.YtjpalbonclgflaaGreatPart17
import Derived.Test.YtjpalbonclgflaaGreatPart18
import Derived.Test.YtjpalbonclgflaaGreatPart19
namespace Go.Proofs.YtjpalbonclgflaaGreat
open Go.RowKit

theorem third_le {x y : Int} (h : x ≤ y) : Rat.divInt x 3 ≤ Rat.divInt y 3 := by
 rw [Rat.divInt_eq_div, Rat.divInt_eq_div]
 have h1 : (x : Rat) ≤ (y : Rat) := Rat.intCast_le_intCast.2 h
 show (x : Rat) / (3 : Rat) ≤ (y : Rat) / (3 : Rat)
 grind
theorem Nn_small2 {l : List Int} {M : Nat} (hf : AFine l M) (a b : Rat) : -1000 ≤ T.Nn l a b ∧ T.Nn l a b ≤ 1000 := by
 have h1 := T.chg_le (stmA l) a
 have h2 := T.chg_le (stmA l) b
 have h3 := hf.sl
 unfold T.Nn
 omega
set_option maxRecDepth 100000 in
set_option maxHeartbeats 12800000 in
theorem lsums_true (r : List (Bool × ByteArray)) (v : Value) (a b c : Int) (w : World) (hr0 : Row w v r.length (cnv r)) (ha : -128 ≤ a ∧ a ≤ 127) (hb : -128 ≤ b ∧ b ≤ 127) (hc : -128 ≤ c ∧ c ≤ 127) :
  Calls Tryz.prog 10 #[v, .int .i8 a, .int .i8 b, .int .i8 c] w (Ret w (.bool true)) := by
 have hfi := fine5_any r v w hr0
 unfold FineRet at hfi
 have HFI := zh hfi; clear hfi
 have HR00 := zh hr0; clear hr0
 go_enter Tryz.func10, Tryz.ntmps10
 go_wp2_with fail
 refine (HFI.out).mono ?_
 rintro e0 wF ⟨hq0, bz, rfl, hbz⟩
 dsimp only
 have hr1 := HR00.out.below hq0 (Nat.le_refl _)
 have HF0 := zh hq0; clear hq0
 cases bz with
 | false =>
  clear hbz hr1
  go_wp2_with fail
  refine (awake5_true _).mono ?_
  rintro e w2 ⟨hq, rfl⟩
  dsimp only
  have s2 := HF0.out.trans (hq.mono HF0.out.size)
  have S2 := zh s2; clear s2
  clear hq
  go_wp2_with fail
  go_ret
  exact ⟨S2.out, rfl⟩
 | true =>
 obtain ⟨⟨hg1, hg2⟩, hc1, hc2, hc3, hc4⟩ := hbz rfl
 have hs : ∀ x ∈ vals r, zs 3 x := fun x hx => by
  obtain ⟨y, hy, rfl⟩ := List.mem_map.1 hx
  exact ival_sized (hg1 y hy) y.1
 have he : Ends (vals r) := by rw [← hc2]; exact tzI_ends _
 have hl : (vals r).length ≤ 8 := by rw [vals_length]; omega
 have hl0 : 0 < (vals r).length := by rw [vals_length]; exact hc3
 have hr : Row wF v (vals r).length (civ (vals r)) := by rw [vals_length, ← hc1]; exact hr1
 obtain ⟨l, hl9⟩ : ∃ l, l = vals r := ⟨_, rfl⟩
 rw [← hl9] at hs he hl hl0 hr
 clear hl9 hg1 hg2 hc1 hc2 hc3 hc4 hbz hr1
 have hf := afine_of hl hl0 hs he
 have hroo := fun w' h => sRoots_any l v w' 8000000 h hf
 have hbou := fun w' h => sBound_any l v w' 8000000 h hf
 have hbz := bnd_zs he hl0 hs (Nat.le_refl (bndK l))
 have hbp : bnd l = 2 ^ bndK l := rfl
 rw [← hbp] at hbz
 have hz1 := zs_nat 1 4 (by decide)
 have hqz : rs 4 (Rat.divInt (bnd l : Int) 1) := divInt_sized hbz hz1 (by decide)
 have hqe : Rat.divInt (bnd l : Int) 1 = (bnd l : Rat) := by rw [T.divInt_one, Rat.intCast_natCast]
 have hbpos : (0 : Rat) ≤ (bnd l : Rat) := Rat.natCast_le_natCast.2 (Nat.zero_le _)
 have hdz : rs 5 (Rat.divInt (bnd l : Int) 1 + Rat.divInt (bnd l : Int) 1) := by
  have e : Rat.divInt (bnd l : Int) 1 + Rat.divInt (bnd l : Int) 1 = Rat.divInt ((bnd l : Int) + (bnd l : Int)) 1 := by rw [T.divInt_one, T.divInt_one, Rat.intCast_add]
  rw [e]
  exact divInt_sized (hbz.add hbz) (zs_nat 1 5 (by decide)) (by decide)
 obtain ⟨s0, s1, s2, hso, h01, h12, hmem⟩ := sort3 a b c
 have m0 := hmem s0 (by simp)
 have m1 := hmem s1 (by simp)
 have m2 := hmem s2 (by simp)
 have g0 : -128 ≤ s0 ∧ s0 ≤ 127 := by omega
 have g1 : -128 ≤ s1 ∧ s1 ≤ 127 := by omega
 have g2 : -128 ≤ s2 ∧ s2 ≤ 127 := by omega
 have z3 := zs_nat 3 5 (by decide)
 have hk : ∀ s : Int, -128 ≤ s ∧ s ≤ 127 → rs 5 (Rat.divInt s 3) := fun s hs => divInt_sized (by show s.natAbs < 256 ^ 5; omega) z3 (by decide)
 have k0 := hk s0 g0
 have k1 := hk s1 g1
 have k2 := hk s2 g2
 have t01 := third_le h01
 have t12 := third_le h12
 have hr0 := fun w' => lratio_any s0 3 w' (by omega) (by omega) (by decide) (by decide) (by decide)
 have hr1 := fun w' => lratio_any s1 3 w' (by omega) (by omega) (by decide) (by decide) (by decide)
 have hr2 := fun w' => lratio_any s2 3 w' (by omega) (by omega) (by decide) (by decide) (by decide)
 obtain ⟨q0, hq0⟩ : ∃ q, q = Rat.divInt s0 3 := ⟨_, rfl⟩
 obtain ⟨q1, hq1⟩ : ∃ q, q = Rat.divInt s1 3 := ⟨_, rfl⟩
 obtain ⟨q2, hq2⟩ : ∃ q, q = Rat.divInt s2 3 := ⟨_, rfl⟩
 rw [← hq0] at k0 t01 hr0
 rw [← hq1] at k1 t01 t12 hr1
 rw [← hq2] at k2 t12 hr2
 have qK : rs 5 (Rat.divInt (bnd l : Int) 1) := ⟨hqz.1.mono (by decide), hqz.2.mono (by decide)⟩
 obtain ⟨q, hqd⟩ : ∃ q, q = Rat.divInt (bnd l : Int) 1 := ⟨_, rfl⟩
 have hroo' : (chg (stmA l) (-(Rat.divInt (bnd l : Int) 1)) : Int) - (chg (stmA l) (Rat.divInt (bnd l : Int) 1) : Int) = T.Nn l (-q) q := by rw [hqd]; rfl
 rw [hroo'] at hroo
 rw [← hqd] at qK hqe hdz
 have nK : rs 5 (-q) := ⟨by rw [Rat.neg_num]; exact qK.1.neg, by rw [Rat.neg_den]; exact qK.2⟩
 have c1 := fun w' h => count_ok l v q0 q1 w' 8000000 5 h hf (by decide) k0 k1 t01
 have c2 := fun w' h => count_ok l v q1 q2 w' 8000000 5 h hf (by decide) k1 k2 t12
 have c3 := fun w' h => count_ok l v q0 q2 w' 8000000 5 h hf (by decide) k0 k2 (Rat.le_trans t01 t12)
 have c4 := fun w' h => count_ok l v (-q) q w' 8000000 5 h hf (by decide) nK qK (by rw [hqe]; grind)
 have c5 := fun w' h => count_ok l v q (q + q) w' 8000000 5 h hf (by decide) qK hdz (by rw [hqe]; grind)
 have e5 : T.Nn l q (q + q) = 0 := T.above hf (by rw [hqe]; grind) (by rw [hqe]; exact Rat.le_refl)
 rw [e5] at c5
 have a1 := T.nonneg hf t01
 have a2 := T.nonneg hf t12
 have a3 := T.Nn_add l q0 q1 q2
 have a4 := T.within hf (Rat.le_trans t01 t12)
 rw [← hqe] at a4
 have a5 := Nn_small2 hf q0 q2
 obtain ⟨X, hX⟩ : ∃ X, X = T.Nn l q0 q1 := ⟨_, rfl⟩
 obtain ⟨Y, hY⟩ : ∃ Y, Y = T.Nn l q1 q2 := ⟨_, rfl⟩
 obtain ⟨Z, hZ⟩ : ∃ Z, Z = T.Nn l q0 q2 := ⟨_, rfl⟩
 obtain ⟨N, hN⟩ : ∃ N, N = T.Nn l (-q) q := ⟨_, rfl⟩
 rw [← hX] at c1 a1 a3
 rw [← hY] at c2 a2 a3
 rw [← hZ] at c3 a3 a4 a5
 rw [← hN] at c4 a4 hroo
 have d1 : decide (0 ≤ X) = true := decide_eq_true a1
 have d2 : decide (0 ≤ Y) = true := decide_eq_true a2
 have d3 : ((X + Y : Int) == Z) = true := by rw [a3]; simp
 have d4 : decide (Z ≤ N) = true := decide_eq_true a4
 have d5 : ((N : Int) == N) = true := by simp
 have hwx : IntKind.i64.wrap (X + Y) = X + Y := IntWalk.i64_in _ (by omega)
 have hmx : ∀ (w : World) (ts : Array TypeId) (t : TypeId), (Builtin.max_ ts t #[.int .i64 0, .int .i64 0, .int .i64 0, .int .i64 0, .int .i64 0, .int .i64 0, .int .i64 0]).run Tryz.prog w = .ok (.int .i64 0) w := fun w ts t => by simp [Builtin.max_, Builtin.max2]
 have hof := fun w' => qof_ok (bnd l : Int) w' 4 (by decide) hbz
 have hng := fun w' => qneg_ok q w' 5 (by decide) qK
 have hdd := fun w' => qadd_ok q q w' 5 (by decide) qK qK
 rw [← hqd] at hof
 obtain ⟨B, hB⟩ : ∃ B : Int, B = (bnd l : Int) := ⟨_, rfl⟩
 rw [← hB] at hbou hof
 have hsrt := fun base g w' h => sortI_any [a, b, c] base g 3 w' h (by simp)
 unfold RowRet at hsrt
 rw [hso] at hsrt
 have hwa : IntKind.i64.wrap a = a := IntWalk.i64_in _ (by omega)
 have hwb : IntKind.i64.wrap b = b := IntWalk.i64_in _ (by omega)
 have hwc : IntKind.i64.wrap c = c := IntWalk.i64_in _ (by omega)
 obtain ⟨va, vc, rfl, -⟩ := hr.slice
 obtain ⟨nl, hnl⟩ : ∃ n, n = l.length := ⟨_, rfl⟩
 rw [← hnl] at hr hroo hbou c1 c2 c3 c4 c5 ⊢
 have HCA := zh c1; clear c1
 have HCB := zh c2; clear c2
 have HCC := zh c3; clear c3
 have HCD := zh c4; clear c4
 have HCE := zh c5; clear c5
 have HROO := zh hroo; clear hroo
 have HBOU := zh hbou; clear hbou
 have HOF := zh hof; clear hof
 have HNG := zh hng; clear hng
 have HDD := zh hdd; clear hdd
 have HR0 := zh hr0; clear hr0
 have HR1 := zh hr1; clear hr1
 have HR2 := zh hr2; clear hr2
 have HSRT := zh hsrt; clear hsrt
 have HRW := zh hr; clear hr
 clear hf hs he hl hl0 hbz hbp hz1 hqz hqe hbpos hdz hso h01 h12 hmem m0 m1 m2 g0 g1 g2 z3 hk k0 k1 k2 t01 t12 hq0 hq1 hq2 qK hqd hroo' nK e5 a1 a2 a3 a4 a5 hX hY hZ hN hB hnl
 obtain ⟨w5, hw5⟩ : ∃ w, w = wF := ⟨_, rfl⟩
 rw [← hw5] at HF0 HRW ⊢
 clear hw5
 obtain ⟨g, hg⟩ : ∃ g, g = w5.heap.size := ⟨_, rfl⟩
 have hown : (w5.alloc (.cells #[.int .i64 a, .int .i64 b, .int .i64 c] 3)).ownsRow w5.heap.size 3 1 (.slice (some ⟨g, 0, none⟩) 3 3) 3 (ci [a, b, c]) := by
  rw [hg]; exact World.ownsRow_lit w5 #[.int .i64 a, .int .i64 b, .int .i64 c] 3 (Nat.le_refl _) (by unfold maxLen; omega) rfl
 have hal : Below w5.heap.size w5 (w5.alloc (.cells #[.int .i64 a, .int .i64 b, .int .i64 c] 3)) := (Below.refl _ _).alloc (Nat.le_refl _) _
 have hsrt := HSRT.out _ g _ hown
 have HAL := zh hal; clear hal
 have HSRT1 := zh hsrt; clear hsrt
 clear hown
 go_wp2_with fail
 (try rw [← hg])
 have HG := zh hg; clear hg
 refine (HSRT1.out).mono ?_
 rintro e w6 ⟨rfl, hgr, how6⟩
 dsimp only
 have tl : Below w5.heap.size w5 w6 := HAL.out.grown hgr (by simp) (fun j hj => by cases hj; have := HG.out; omega)
 have hrow := own_row how6
 obtain ⟨b9, o9, h9, hb9, hbc⟩ := hrow.at_ (by simp)
 simp only [Option.some.injEq, Addr.mk.injEq, and_true] at h9
 obtain ⟨rfl, rfl⟩ := h9
 have p0 := hbc 0 (.int .i64 s0) rfl
 have p1 := hbc 1 (.int .i64 s1) rfl
 have p2 := hbc 2 (.int .i64 s2) rfl
 rw [Nat.zero_add] at p0 p1 p2
 have hrw := HRW.out.below tl (Nat.le_refl _)
 have hF := HF0.out.trans (tl.mono HF0.out.size)
 have HF6 := zh hF; clear hF
 have HRW6 := zh hrw; clear hrw
 have HP0 := zh p0; clear p0
 have HP1 := zh p1; clear p1
 have HP2 := zh p2; clear p2
 have tl := Below.refl w6.heap.size w6
 have HBL := zh tl; clear tl
 clear HAL HSRT HSRT1 hgr how6 hrow hbc HRW HF0
 go_wp2_with fail
 have p0 := (HBL.out.cell (p := ⟨g, 0, none⟩) hb9).trans HP0.out
 have p1 := (HBL.out.cell (p := ⟨g, 1, none⟩) hb9).trans HP1.out
 have p2 := (HBL.out.cell (p := ⟨g, 2, none⟩) hb9).trans HP2.out
 have hcc := fun w' h => HCA.out w' (HRW6.out.below h (Nat.le_refl _))
 have HCX := zh hcc; clear hcc
 have HBL := zh HBL.out.drew
 refine wp_region_held_drew (S := fun w' => w'.cell? ⟨g, 0, none⟩ = some (.int .i64 s0) ∧ w'.cell? ⟨g, 1, none⟩ = some (.int .i64 s1) ∧ w'.cell? ⟨g, 2, none⟩ = some (.int .i64 s2)) (by kernel_rfl) ?_ (fun hHeld0 => ?_)
 ·
  go_keep
 refine zT 0 (h := ?_)
 (try simp only [Act.put, zA, zB, zC])
 refine zT 1 (h := ?_)
 (try simp only [Act.put, zA, zB, zC])
 refine zT 2 (h := ?_)
 (try simp only [Act.put, zA, zB, zC])
 refine zT 3 (h := ?_)
 (try simp only [Act.put, zA, zB, zC])
 refine zT 5 (h := ?_)
 (try simp only [Act.put, zA, zB, zC])
 refine zT 6 (h := ?_)
 (try simp only [Act.put, zA, zB, zC])
 refine zT 7 (h := ?_)
 (try simp only [Act.put, zA, zB, zC])
 refine zR 4 (h := fun K hK => ?_)
 go_simp
 go_at_call 28
 refine (HR0.out _).mono ?_
 rintro e w21 ⟨hq, rfl⟩
 dsimp only
 have z0 := zK hq (Nat.lt_of_lt_of_le hb9 HBL.out.size) hHeld0.1
 have z1 := zK hq (Nat.lt_of_lt_of_le hb9 HBL.out.size) hHeld0.2.1
 have z2 := zK hq (Nat.lt_of_lt_of_le hb9 HBL.out.size) hHeld0.2.2
 refine hK.out _ _ ⟨z0, z1, z2⟩ (fun hHeld1 => ?_)
 clear hK K hHeld0 z0 z1 z2
 (try simp only [Act.put, zA, zB, zC])
 have tl := HBL.out.trans ((hq).mono HBL.out.size)
 clear HBL 
 have HBL := zh tl; clear tl
 clear hq
 refine zR 8 (h := fun K hK => ?_)
 go_simp
 go_at_call 28
 refine (HR1.out _).mono ?_
 rintro e w22 ⟨hq, rfl⟩
 dsimp only
 have z0 := zK hq (Nat.lt_of_lt_of_le hb9 HBL.out.size) hHeld1.1
 have z1 := zK hq (Nat.lt_of_lt_of_le hb9 HBL.out.size) hHeld1.2.1
 have z2 := zK hq (Nat.lt_of_lt_of_le hb9 HBL.out.size) hHeld1.2.2
 refine hK.out _ _ ⟨z0, z1, z2⟩ (fun hHeld2 => ?_)
 clear hK K hHeld1 z0 z1 z2
 (try simp only [Act.put, zA, zB, zC])
 have tl := HBL.out.trans ((hq).mono HBL.out.size)
 clear HBL 
 have HBL := zh tl; clear tl
 clear hq
 have hcy := HCX.out _ HBL.out
 have HCY := zh hcy; clear hcy
 refine zR 9 (h := fun K hK => ?_)
 go_simp
 go_at_call 29
 refine (HCY.out).mono ?_
 rintro e w23 ⟨hq, rfl⟩
 dsimp only
 have z0 := zK hq (Nat.lt_of_lt_of_le hb9 HBL.out.size) hHeld2.1
 have z1 := zK hq (Nat.lt_of_lt_of_le hb9 HBL.out.size) hHeld2.2.1
 have z2 := zK hq (Nat.lt_of_lt_of_le hb9 HBL.out.size) hHeld2.2.2
 refine hK.out _ _ ⟨z0, z1, z2⟩ (fun hHeld3 => ?_)
 clear hK K hHeld2 z0 z1 z2
 (try simp only [Act.put, zA, zB, zC])
 have tl := HBL.out.trans ((hq).mono HBL.out.size)
 clear HBL 
 have HBL := zh tl; clear tl
 clear hq
 refine zT 10 (h := ?_)
 (try simp only [Act.put, zA, zB, zC])
 refine zT 11 (h := ?_)
 (try simp only [Act.put, zA, zB, zC])
 refine zT 12 (h := ?_)
 (try simp only [Act.put, zA, zB, zC])
 refine zT 13 (h := ?_)
 (try simp only [Act.put, zA, zB, zC])
 refine zT 14 (h := ?_)
 (try simp only [Act.put, zA, zB, zC])
 refine wpAnyH_done (by kernel_rfl) ?_ _
 (try simp only [List.getElem_toArray, List.getElem_cons_zero, List.getElem_cons_succ, Act.put, zA, zB, zC])
 clear HCX HCY p0 p1 p2
 go_wp2_with fail
 have p0 := (HBL.out.cell (p := ⟨g, 0, none⟩) hb9).trans HP0.out
 have p1 := (HBL.out.cell (p := ⟨g, 1, none⟩) hb9).trans HP1.out
 have p2 := (HBL.out.cell (p := ⟨g, 2, none⟩) hb9).trans HP2.out
 have hcc := fun w' h => HCB.out w' (HRW6.out.below h (Nat.le_refl _))
 have HCX := zh hcc; clear hcc
 have HBL := zh HBL.out.drew
 refine wp_region_held_drew (S := fun w' => w'.cell? ⟨g, 0, none⟩ = some (.int .i64 s0) ∧ w'.cell? ⟨g, 1, none⟩ = some (.int .i64 s1) ∧ w'.cell? ⟨g, 2, none⟩ = some (.int .i64 s2)) (by kernel_rfl) ?_ (fun hHeld0 => ?_)
 ·
  go_keep
 refine zT 0 (h := ?_)
 (try simp only [Act.put, zA, zB, zC])
 refine zT 1 (h := ?_)
 (try simp only [Act.put, zA, zB, zC])
 refine zT 2 (h := ?_)
 (try simp only [Act.put, zA, zB, zC])
 refine zT 3 (h := ?_)
 (try simp only [Act.put, zA, zB, zC])
 refine zT 5 (h := ?_)
 (try simp only [Act.put, zA, zB, zC])
 refine zT 6 (h := ?_)
 (try simp only [Act.put, zA, zB, zC])
 refine zT 7 (h := ?_)
 (try simp only [Act.put, zA, zB, zC])
 refine zR 4 (h := fun K hK => ?_)
 go_simp
 go_at_call 28
 refine (HR1.out _).mono ?_
 rintro e w24 ⟨hq, rfl⟩
 dsimp only
 have z0 := zK hq (Nat.lt_of_lt_of_le hb9 HBL.out.size) hHeld0.1
 have z1 := zK hq (Nat.lt_of_lt_of_le hb9 HBL.out.size) hHeld0.2.1
 have z2 := zK hq (Nat.lt_of_lt_of_le hb9 HBL.out.size) hHeld0.2.2
 refine hK.out _ _ ⟨z0, z1, z2⟩ (fun hHeld1 => ?_)
 clear hK K hHeld0 z0 z1 z2
 (try simp only [Act.put, zA, zB, zC])
 have tl := HBL.out.trans ((hq).mono HBL.out.size)
 clear HBL 
 have HBL := zh tl; clear tl
 clear hq
 refine zR 8 (h := fun K hK => ?_)
 go_simp
 go_at_call 28
 refine (HR2.out _).mono ?_
 rintro e w25 ⟨hq, rfl⟩
 dsimp only
 have z0 := zK hq (Nat.lt_of_lt_of_le hb9 HBL.out.size) hHeld1.1
 have z1 := zK hq (Nat.lt_of_lt_of_le hb9 HBL.out.size) hHeld1.2.1
 have z2 := zK hq (Nat.lt_of_lt_of_le hb9 HBL.out.size) hHeld1.2.2
 refine hK.out _ _ ⟨z0, z1, z2⟩ (fun hHeld2 => ?_)
 clear hK K hHeld1 z0 z1 z2
 (try simp only [Act.put, zA, zB, zC])
 have tl := HBL.out.trans ((hq).mono HBL.out.size)
 clear HBL 
 have HBL := zh tl; clear tl
 clear hq
 have hcy := HCX.out _ HBL.out
 have HCY := zh hcy; clear hcy
 refine zR 9 (h := fun K hK => ?_)
 go_simp
 go_at_call 29
 refine (HCY.out).mono ?_
 rintro e w26 ⟨hq, rfl⟩
 dsimp only
 have z0 := zK hq (Nat.lt_of_lt_of_le hb9 HBL.out.size) hHeld2.1
 have z1 := zK hq (Nat.lt_of_lt_of_le hb9 HBL.out.size) hHeld2.2.1
 have z2 := zK hq (Nat.lt_of_lt_of_le hb9 HBL.out.size) hHeld2.2.2
 refine hK.out _ _ ⟨z0, z1, z2⟩ (fun hHeld3 => ?_)
 clear hK K hHeld2 z0 z1 z2
 (try simp only [Act.put, zA, zB, zC])
 have tl := HBL.out.trans ((hq).mono HBL.out.size)
 clear HBL 
 have HBL := zh tl; clear tl
 clear hq
 refine zT 10 (h := ?_)
 (try simp only [Act.put, zA, zB, zC])
 refine zT 11 (h := ?_)
 (try simp only [Act.put, zA, zB, zC])
 refine zT 12 (h := ?_)
 (try simp only [Act.put, zA, zB, zC])
 refine zT 13 (h := ?_)
 (try simp only [Act.put, zA, zB, zC])
 refine zT 14 (h := ?_)
 (try simp only [Act.put, zA, zB, zC])
 refine wpAnyH_done (by kernel_rfl) ?_ _
 (try simp only [List.getElem_toArray, List.getElem_cons_zero, List.getElem_cons_succ, Act.put, zA, zB, zC])
 clear HCX HCY p0 p1 p2
 go_wp2_with fail
 have p0 := (HBL.out.cell (p := ⟨g, 0, none⟩) hb9).trans HP0.out
 have p1 := (HBL.out.cell (p := ⟨g, 1, none⟩) hb9).trans HP1.out
 have p2 := (HBL.out.cell (p := ⟨g, 2, none⟩) hb9).trans HP2.out
 have hcc := fun w' h => HCC.out w' (HRW6.out.below h (Nat.le_refl _))
 have HCX := zh hcc; clear hcc
 have HBL := zh HBL.out.drew
 refine wp_region_held_drew (S := fun w' => w'.cell? ⟨g, 0, none⟩ = some (.int .i64 s0) ∧ w'.cell? ⟨g, 1, none⟩ = some (.int .i64 s1) ∧ w'.cell? ⟨g, 2, none⟩ = some (.int .i64 s2)) (by kernel_rfl) ?_ (fun hHeld0 => ?_)
 ·
  go_keep
 refine zT 0 (h := ?_)
 (try simp only [Act.put, zA, zB, zC])
 refine zT 1 (h := ?_)
 (try simp only [Act.put, zA, zB, zC])
 refine zT 2 (h := ?_)
 (try simp only [Act.put, zA, zB, zC])
 refine zT 3 (h := ?_)
 (try simp only [Act.put, zA, zB, zC])
 refine zT 5 (h := ?_)
 (try simp only [Act.put, zA, zB, zC])
 refine zT 6 (h := ?_)
 (try simp only [Act.put, zA, zB, zC])
 refine zT 7 (h := ?_)
 (try simp only [Act.put, zA, zB, zC])
 refine zR 4 (h := fun K hK => ?_)
 go_simp
 go_at_call 28
 refine (HR0.out _).mono ?_
 rintro e w27 ⟨hq, rfl⟩
 dsimp only
 have z0 := zK hq (Nat.lt_of_lt_of_le hb9 HBL.out.size) hHeld0.1
 have z1 := zK hq (Nat.lt_of_lt_of_le hb9 HBL.out.size) hHeld0.2.1
 have z2 := zK hq (Nat.lt_of_lt_of_le hb9 HBL.out.size) hHeld0.2.2
 refine hK.out _ _ ⟨z0, z1, z2⟩ (fun hHeld1 => ?_)
 clear hK K hHeld0 z0 z1 z2
 (try simp only [Act.put, zA, zB, zC])
 have tl := HBL.out.trans ((hq).mono HBL.out.size)
 clear HBL 
 have HBL := zh tl; clear tl
 clear hq
 refine zR 8 (h := fun K hK => ?_)
 go_simp
 go_at_call 28
 refine (HR2.out _).mono ?_
 rintro e w28 ⟨hq, rfl⟩
 dsimp only
 have z0 := zK hq (Nat.lt_of_lt_of_le hb9 HBL.out.size) hHeld1.1
 have z1 := zK hq (Nat.lt_of_lt_of_le hb9 HBL.out.size) hHeld1.2.1
 have z2 := zK hq (Nat.lt_of_lt_of_le hb9 HBL.out.size) hHeld1.2.2
 refine hK.out _ _ ⟨z0, z1, z2⟩ (fun hHeld2 => ?_)
 clear hK K hHeld1 z0 z1 z2
 (try simp only [Act.put, zA, zB, zC])
 have tl := HBL.out.trans ((hq).mono HBL.out.size)
 clear HBL 
 have HBL := zh tl; clear tl
 clear hq
 have hcy := HCX.out _ HBL.out
 have HCY := zh hcy; clear hcy
 refine zR 9 (h := fun K hK => ?_)
 go_simp
 go_at_call 29
 refine (HCY.out).mono ?_
 rintro e w29 ⟨hq, rfl⟩
 dsimp only
 have z0 := zK hq (Nat.lt_of_lt_of_le hb9 HBL.out.size) hHeld2.1
 have z1 := zK hq (Nat.lt_of_lt_of_le hb9 HBL.out.size) hHeld2.2.1
 have z2 := zK hq (Nat.lt_of_lt_of_le hb9 HBL.out.size) hHeld2.2.2
 refine hK.out _ _ ⟨z0, z1, z2⟩ (fun hHeld3 => ?_)
 clear hK K hHeld2 z0 z1 z2
 (try simp only [Act.put, zA, zB, zC])
 have tl := HBL.out.trans ((hq).mono HBL.out.size)
 clear HBL 
 have HBL := zh tl; clear tl
 clear hq
 refine zT 10 (h := ?_)
 (try simp only [Act.put, zA, zB, zC])
 refine zT 11 (h := ?_)
 (try simp only [Act.put, zA, zB, zC])
 refine zT 12 (h := ?_)
 (try simp only [Act.put, zA, zB, zC])
 refine zT 13 (h := ?_)
 (try simp only [Act.put, zA, zB, zC])
 refine zT 14 (h := ?_)
 (try simp only [Act.put, zA, zB, zC])
 refine wpAnyH_done (by kernel_rfl) ?_ _
 (try simp only [List.getElem_toArray, List.getElem_cons_zero, List.getElem_cons_succ, Act.put, zA, zB, zC])
 clear HCX HCY p0 p1 p2
 go_wp2_with fail
 have hro := HROO.out _ (HRW6.out.below HBL.out (Nat.le_refl _))
 have HRO := zh hro; clear hro
 refine (HRO.out).mono ?_
 rintro e w30 ⟨hq, rfl⟩
 dsimp only
 have tl := HBL.out.trans ((hq).mono HBL.out.size)
 clear HBL 
 have HBL := zh tl; clear tl
 clear hq
 go_wp2_with fail
 have hbo := HBOU.out _ (HRW6.out.below HBL.out (Nat.le_refl _))
 have HBO := zh hbo; clear hbo
 refine (HBO.out).mono ?_
 rintro e w31 ⟨hq, rfl⟩
 dsimp only
 have tl := HBL.out.trans ((hq).mono HBL.out.size)
 clear HBL 
 have HBL := zh tl; clear tl
 clear hq
 obtain ⟨b_b, hb_b⟩ : ∃ b, b = w31.heap.size := ⟨_, rfl⟩
 have hal : Below w31.heap.size w31 (w31.alloc (.cells #[.bool (ineg B), .string (imag B)] 25)) := (Below.refl _ _).alloc (Nat.le_refl _) _
 have k_b : Blk (w31.alloc (.cells #[.bool (ineg B), .string (imag B)] 25)) b_b 25 [.bool (ineg B), .string (imag B)] := by rw [hb_b]; exact Blk.new w31 _ _
 have hge_b : w6.heap.size ≤ b_b := by rw [hb_b]; exact HBL.out.size
 have tl := HBL.out.trans ((hal).mono HBL.out.size)
 clear HBL 
 have HBL := zh tl; clear tl
 clear hal
 obtain ⟨b_0, b_f0, b_1, b_f1⟩ := k_b.f2
 have HB := zh k_b; clear k_b
 go_wp2_with fail
 (try rw [← hb_b])
 have HB_b := zh hb_b; clear hb_b
 refine (HOF.out _).mono ?_
 rintro e w32 ⟨hq, rfl⟩
 dsimp only
 have k_b := HB.out.keep hq
 have tl := HBL.out.trans ((hq).mono HBL.out.size)
 clear HBL HB
 clear b_0 b_f0 b_1 b_f1
 obtain ⟨b_0, b_f0, b_1, b_f1⟩ := k_b.f2
 have HB := zh k_b; clear k_b
 have HBL := zh tl; clear tl
 clear hq
 have hlt_b := HB.out.lt
 obtain ⟨b_t, hb_t⟩ : ∃ b, b = w32.heap.size := ⟨_, rfl⟩
 have hal : Below w32.heap.size w32 (w32.alloc (.cells #[.bool (ineg q.num), .string (imag q.num), .bool (ineg (q.den : Int)), .string (imag (q.den : Int))] 27)) := (Below.refl _ _).alloc (Nat.le_refl _) _
 have k_t : Blk (w32.alloc (.cells #[.bool (ineg q.num), .string (imag q.num), .bool (ineg (q.den : Int)), .string (imag (q.den : Int))] 27)) b_t 27 [.bool (ineg q.num), .string (imag q.num), .bool (ineg (q.den : Int)), .string (imag (q.den : Int))] := by rw [hb_t]; exact Blk.new w32 _ _
 have hge_t : w6.heap.size ≤ b_t := by rw [hb_t]; exact HBL.out.size
 have far_b_t : b_b < b_t := by rw [hb_t]; exact hlt_b
 clear hlt_b
 have k_b := HB.out.keep hal
 have tl := HBL.out.trans ((hal).mono HBL.out.size)
 clear HBL HB
 clear b_0 b_f0 b_1 b_f1
 obtain ⟨b_0, b_f0, b_1, b_f1⟩ := k_b.f2
 have HB := zh k_b; clear k_b
 have HBL := zh tl; clear tl
 clear hal
 obtain ⟨t_0, t_f0, t_1, t_f1, t_2, t_f2, t_3, t_f3⟩ := k_t.f4
 have HT := zh k_t; clear k_t
 go_wp2_with fail
 (try rw [← hb_t])
 have HB_t := zh hb_t; clear hb_t
 have HB := zh HB.out.drew
 have HT := zh HT.out.drew
 have HBL := zh HBL.out.drew
 refine wp_region_held_drew (S := fun w' => w'.cell? ⟨b_t, 0, none⟩ = some (.bool (ineg q.num)) ∧ w'.cell? ⟨b_t, 1, none⟩ = some (.string (imag q.num)) ∧ w'.cell? ⟨b_t, 2, none⟩ = some (.bool (ineg (q.den : Int))) ∧ w'.cell? ⟨b_t, 3, none⟩ = some (.string (imag (q.den : Int)))) (by kernel_rfl) ?_ (fun hHeld0 => ?_)
 ·
  go_keep
 refine zT 0 (h := ?_)
 (try simp only [Act.put, zA, zB, zC])
 refine zT 1 (h := ?_)
 (try simp only [Act.put, zA, zB, zC])
 refine zT 3 (h := ?_)
 (try simp only [Act.put, zA, zB, zC])
 refine zR 2 (h := fun K hK => ?_)
 go_simp
 go_at_call 38
 refine (HNG.out _).mono ?_
 rintro e w33 ⟨hq, rfl⟩
 dsimp only
 have z0 := zK hq HT.out.lt hHeld0.1
 have z1 := zK hq HT.out.lt hHeld0.2.1
 have z2 := zK hq HT.out.lt hHeld0.2.2.1
 have z3 := zK hq HT.out.lt hHeld0.2.2.2
 refine hK.out _ _ ⟨z0, z1, z2, z3⟩ (fun hHeld1 => ?_)
 clear hK K hHeld0 z0 z1 z2 z3
 (try simp only [Act.put, zA, zB, zC])
 have k_b := HB.out.keep hq
 have k_t := HT.out.keep hq
 have tl := HBL.out.trans ((hq).mono HBL.out.size)
 clear HBL HB HT
 clear b_0 b_f0 b_1 b_f1
 obtain ⟨b_0, b_f0, b_1, b_f1⟩ := k_b.f2
 have HB := zh k_b; clear k_b
 clear t_0 t_f0 t_1 t_f1 t_2 t_f2 t_3 t_f3
 obtain ⟨t_0, t_f0, t_1, t_f1, t_2, t_f2, t_3, t_f3⟩ := k_t.f4
 have HT := zh k_t; clear k_t
 have HBL := zh tl; clear tl
 clear hq
 have hcy := HCD.out _ (HRW6.out.below HBL.out (Nat.le_refl _))
 have HCY := zh hcy; clear hcy
 refine zR 4 (h := fun K hK => ?_)
 go_simp
 go_at_call 29
 refine (HCY.out).mono ?_
 rintro e w34 ⟨hq, rfl⟩
 dsimp only
 have z0 := zK hq HT.out.lt hHeld1.1
 have z1 := zK hq HT.out.lt hHeld1.2.1
 have z2 := zK hq HT.out.lt hHeld1.2.2.1
 have z3 := zK hq HT.out.lt hHeld1.2.2.2
 refine hK.out _ _ ⟨z0, z1, z2, z3⟩ (fun hHeld2 => ?_)
 clear hK K hHeld1 z0 z1 z2 z3
 (try simp only [Act.put, zA, zB, zC])
 have k_b := HB.out.keep hq
 have k_t := HT.out.keep hq
 have tl := HBL.out.trans ((hq).mono HBL.out.size)
 clear HBL HB HT
 clear b_0 b_f0 b_1 b_f1
 obtain ⟨b_0, b_f0, b_1, b_f1⟩ := k_b.f2
 have HB := zh k_b; clear k_b
 clear t_0 t_f0 t_1 t_f1 t_2 t_f2 t_3 t_f3
 obtain ⟨t_0, t_f0, t_1, t_f1, t_2, t_f2, t_3, t_f3⟩ := k_t.f4
 have HT := zh k_t; clear k_t
 have HBL := zh tl; clear tl
 clear hq
 refine zT 5 (h := ?_)
 (try simp only [Act.put, zA, zB, zC])
 refine zT 6 (h := ?_)
 (try simp only [Act.put, zA, zB, zC])
 refine zT 7 (h := ?_)
 (try simp only [Act.put, zA, zB, zC])
 refine zT 8 (h := ?_)
 (try simp only [Act.put, zA, zB, zC])
 refine zT 9 (h := ?_)
 (try simp only [Act.put, zA, zB, zC])
 refine wpAnyH_done (by kernel_rfl) ?_ _
 (try simp only [List.getElem_toArray, List.getElem_cons_zero, List.getElem_cons_succ, Act.put, zA, zB, zC])
 clear HCY
 go_wp2_with fail
 have HB := zh HB.out.drew
 have HT := zh HT.out.drew
 have HBL := zh HBL.out.drew
 refine wp_region_held_drew (S := fun w' => w'.cell? ⟨b_t, 0, none⟩ = some (.bool (ineg q.num)) ∧ w'.cell? ⟨b_t, 1, none⟩ = some (.string (imag q.num)) ∧ w'.cell? ⟨b_t, 2, none⟩ = some (.bool (ineg (q.den : Int))) ∧ w'.cell? ⟨b_t, 3, none⟩ = some (.string (imag (q.den : Int)))) (by kernel_rfl) ?_ (fun hHeld0 => ?_)
 ·
  go_keep
 refine zT 0 (h := ?_)
 (try simp only [Act.put, zA, zB, zC])
 refine zT 1 (h := ?_)
 (try simp only [Act.put, zA, zB, zC])
 refine zT 2 (h := ?_)
 (try simp only [Act.put, zA, zB, zC])
 refine zT 3 (h := ?_)
 (try simp only [Act.put, zA, zB, zC])
 refine zR 4 (h := fun K hK => ?_)
 go_simp
 go_at_call 32
 refine (HDD.out _).mono ?_
 rintro e w35 ⟨hq, rfl⟩
 dsimp only
 have z0 := zK hq HT.out.lt hHeld0.1
 have z1 := zK hq HT.out.lt hHeld0.2.1
 have z2 := zK hq HT.out.lt hHeld0.2.2.1
 have z3 := zK hq HT.out.lt hHeld0.2.2.2
 refine hK.out _ _ ⟨z0, z1, z2, z3⟩ (fun hHeld1 => ?_)
 clear hK K hHeld0 z0 z1 z2 z3
 (try simp only [Act.put, zA, zB, zC])
 have k_b := HB.out.keep hq
 have k_t := HT.out.keep hq
 have tl := HBL.out.trans ((hq).mono HBL.out.size)
 clear HBL HB HT
 clear b_0 b_f0 b_1 b_f1
 obtain ⟨b_0, b_f0, b_1, b_f1⟩ := k_b.f2
 have HB := zh k_b; clear k_b
 clear t_0 t_f0 t_1 t_f1 t_2 t_f2 t_3 t_f3
 obtain ⟨t_0, t_f0, t_1, t_f1, t_2, t_f2, t_3, t_f3⟩ := k_t.f4
 have HT := zh k_t; clear k_t
 have HBL := zh tl; clear tl
 clear hq
 have hcy := HCE.out _ (HRW6.out.below HBL.out (Nat.le_refl _))
 have HCY := zh hcy; clear hcy
 refine zR 5 (h := fun K hK => ?_)
 go_simp
 go_at_call 29
 refine (HCY.out).mono ?_
 rintro e w36 ⟨hq, rfl⟩
 dsimp only
 have z0 := zK hq HT.out.lt hHeld1.1
 have z1 := zK hq HT.out.lt hHeld1.2.1
 have z2 := zK hq HT.out.lt hHeld1.2.2.1
 have z3 := zK hq HT.out.lt hHeld1.2.2.2
 refine hK.out _ _ ⟨z0, z1, z2, z3⟩ (fun hHeld2 => ?_)
 clear hK K hHeld1 z0 z1 z2 z3
 (try simp only [Act.put, zA, zB, zC])
 have k_b := HB.out.keep hq
 have k_t := HT.out.keep hq
 have tl := HBL.out.trans ((hq).mono HBL.out.size)
 clear HBL HB HT
 clear b_0 b_f0 b_1 b_f1
 obtain ⟨b_0, b_f0, b_1, b_f1⟩ := k_b.f2
 have HB := zh k_b; clear k_b
 clear t_0 t_f0 t_1 t_f1 t_2 t_f2 t_3 t_f3
 obtain ⟨t_0, t_f0, t_1, t_f1, t_2, t_f2, t_3, t_f3⟩ := k_t.f4
 have HT := zh k_t; clear k_t
 have HBL := zh tl; clear tl
 clear hq
 refine zT 6 (h := ?_)
 (try simp only [Act.put, zA, zB, zC])
 refine zT 7 (h := ?_)
 (try simp only [Act.put, zA, zB, zC])
 refine zT 8 (h := ?_)
 (try simp only [Act.put, zA, zB, zC])
 refine zT 9 (h := ?_)
 (try simp only [Act.put, zA, zB, zC])
 refine zT 10 (h := ?_)
 (try simp only [Act.put, zA, zB, zC])
 refine wpAnyH_done (by kernel_rfl) ?_ _
 (try simp only [List.getElem_toArray, List.getElem_cons_zero, List.getElem_cons_succ, Act.put, zA, zB, zC])
 clear HCY
 go_wp2_with fail
 refine (awake5_true _).mono ?_
 rintro e w37 ⟨hq, rfl⟩
 dsimp only
 have k_b := HB.out.keep hq
 have k_t := HT.out.keep hq
 have tl := HBL.out.trans ((hq).mono HBL.out.size)
 clear HBL HB HT
 clear b_0 b_f0 b_1 b_f1
 obtain ⟨b_0, b_f0, b_1, b_f1⟩ := k_b.f2
 have HB := zh k_b; clear k_b
 clear t_0 t_f0 t_1 t_f1 t_2 t_f2 t_3 t_f3
 obtain ⟨t_0, t_f0, t_1, t_f1, t_2, t_f2, t_3, t_f3⟩ := k_t.f4
 have HT := zh k_t; clear k_t
 have HBL := zh tl; clear tl
 clear hq
 go_wp2_with fail
 go_ret
 exact ⟨HF6.out.trans (HBL.out.mono HF6.out.size), rfl⟩
end Go.Proofs.YtjpalbonclgflaaGreat

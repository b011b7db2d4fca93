/- Contracts and plain laws of several functions, one after the other: StT, StR, SizR, LwC. -/
import Derived.Test.YtjpalbonclgflaaGreatRfn
import Derived.Test.YtjpalbonclgflaaGreatPart13
import Derived.Test.YtjpalbonclgflaaGreatPart14
import Derived.Test.YtjpalbonclgflaaGreatPart11
import Derived.Test.YtjpalbonclgflaaGreatAwk5
/- sturm.Count at canonical numbers (printed by gen_cnt6.py). -/
namespace Go.Proofs.YtjpalbonclgflaaGreat
open Go.RowKit

set_option maxRecDepth 100000 in
set_option maxHeartbeats 6400000 in
theorem sCount_ok (l : List Int) (v : Value) (a b : Rat) (w : World) (M K : Nat) (hr : Row w v l.length (civ l)) (hf : AFine l M) (hK : K ≤ 1000000000) (ha : rs K a) (hb : rs K b) (hab : ¬ b < a) :
  Calls Tryz.prog 29 #[v, RatV a, RatV b] w (Ret w (.tuple #[.int .i64 ((chg (stmA l) a : Int) - (chg (stmA l) b : Int)), .int .i64 0])) := by
 show Calls Tryz.prog 29 #[v, .agg #[.bool (ineg a.num), .string (imag a.num), .bool (ineg (a.den : Int)), .string (imag (a.den : Int))], .agg #[.bool (ineg b.num), .string (imag b.num), .bool (ineg (b.den : Int)), .string (imag (b.den : Int))]] w _
 have hck := fun vq w' h1 h2 => scheck_any l v [rawOf a, rawOf b] vq w' h1 h2 hf.pos hf.len hf.small hf.ends (fun x hx => by
  simp only [List.mem_cons, List.mem_nil_iff, or_false] at hx
  rcases hx with rfl | rfl
  ·
   exact ⟨Nat.le_trans ha.1.size (by omega), Nat.le_trans ha.2.size (by omega)⟩
  ·
   exact ⟨Nat.le_trans hb.1.size (by omega), Nat.le_trans hb.2.size (by omega)⟩)
 have hodd : oddQ [rawOf a, rawOf b] = false := by simp [oddQ, cqB_rawOf]
 rw [hodd] at hck
 simp only [Bool.false_eq_true, if_false] at hck
 have hcr : crv [rawOf a, rawOf b] = [.bool (ineg a.num), .string (imag a.num), .bool (ineg (a.den : Int)), .string (imag (a.den : Int)), .bool (ineg b.num), .string (imag b.num), .bool (ineg (b.den : Int)), .string (imag (b.den : Int))] := rfl
 rw [hcr] at hck
 have hal := fun w' h => sall_any l v w' M h hf
 have hc1 := fun w' => qcompare_any (ineg a.num) (ineg (a.den : Int)) (imag a.num) (imag (a.den : Int)) (ineg b.num) (ineg (b.den : Int)) (imag b.num) (imag (b.den : Int)) w' (Nat.le_trans ha.1.size (by omega)) (Nat.le_trans ha.2.size (by omega)) (Nat.le_trans hb.1.size (by omega)) (Nat.le_trans hb.2.size (by omega))
 simp only [ival_canon, Rat.num_divInt_den] at hc1
 obtain ⟨c, hc⟩ : ∃ c : Int, c = if a < b then -1 else if a = b then 0 else 1 := ⟨_, rfl⟩
 have hc0 : decide (0 < c) = false := decide_eq_false (by
  rw [hc]
  by_cases h1 : a < b
  ·
   rw [if_pos h1]; decide
  ·
   rw [if_neg h1, if_pos (Rat.le_antisymm (Rat.not_lt.1 hab) (Rat.not_lt.1 h1))]; decide)
 rw [← hc] at hc1
 have hrz : ∀ p ∈ stmA l, p.length ≤ 65 ∧ ∀ x ∈ p, zs M x := fun p hp => ⟨stmA_len hf p hp, hf.c p hp⟩
 have hrl := hf.sl
 have hM2 : M ≤ 1000000000 := by have := hf.hM; omega
 have hcn : ∀ va n vc w', n = (stmA l).length → Tab w' (.slice va n vc) (stmA l) → Calls Tryz.prog 65 #[.slice va n vc, .agg #[.bool (ineg a.num), .string (imag a.num), .bool (ineg (a.den : Int)), .string (imag (a.den : Int))], .agg #[.bool (ineg b.num), .string (imag b.num), .bool (ineg (b.den : Int)), .string (imag (b.den : Int))]] w' (Ret w' (.int .i64 ((chg (stmA l) a : Int) - (chg (stmA l) b : Int)))) := fun va n vc w' hn h => by
  have h2 := scount_any (stmA l) (.slice va n vc) (ineg a.num) (ineg (a.den : Int)) (imag a.num) (imag (a.den : Int)) (ineg b.num) (ineg (b.den : Int)) (imag b.num) (imag (b.den : Int)) w' M h hrl hrz hM2 (Nat.le_trans ha.1.size hK) (Nat.le_trans ha.2.size hK) (Nat.le_trans hb.1.size hK) (Nat.le_trans hb.2.size hK)
  simp only [ival_canon, Rat.num_divInt_den] at h2
  exact h2
 obtain ⟨N, hN⟩ : ∃ N : Int, N = (chg (stmA l) a : Int) - (chg (stmA l) b : Int) := ⟨_, rfl⟩
 simp only [← hN] at hcn
 rw [← hN]
 obtain ⟨rows, hrows⟩ : ∃ R, R = stmA l := ⟨_, rfl⟩
 rw [← hrows] at hal
 simp only [← hrows] at hcn
 obtain ⟨va, vc, rfl, -⟩ := hr.slice
 obtain ⟨n, hn⟩ : ∃ n, n = l.length := ⟨_, rfl⟩
 rw [← hn] at hr hck hal ⊢
 unfold AllRet at hal
 have HRW := zh hr; clear hr
 have HCK := zh hck; clear hck
 have HAL := zh hal; clear hal
 have HC1 := zh hc1; clear hc1
 have HCN := zh hcn; clear hcn
 clear hf hrows hn ha hb hab hodd hcr hrz hrl hN hc
 obtain ⟨w4, hw4⟩ : ∃ w4, w4 = (w.alloc (.cells #[.bool (ineg a.num), .string (imag a.num), .bool (ineg (a.den : Int)), .string (imag (a.den : Int))] 27)).alloc (.cells #[.bool (ineg b.num), .string (imag b.num), .bool (ineg (b.den : Int)), .string (imag (b.den : Int))] 27) := ⟨_, rfl⟩
 have k_a : Blk w4 (w.heap.size) 27 [.bool (ineg a.num), .string (imag a.num), .bool (ineg (a.den : Int)), .string (imag (a.den : Int))] := by
  rw [hw4]
  have h := ((Blk.new (w) 27 [.bool (ineg a.num), .string (imag a.num), .bool (ineg (a.den : Int)), .string (imag (a.den : Int))]).alloc (.cells #[.bool (ineg b.num), .string (imag b.num), .bool (ineg (b.den : Int)), .string (imag (b.den : Int))] 27))
  (try simp only [World.size_alloc, Nat.add_assoc, Nat.reduceAdd] at h)
  exact h
 have k_b : Blk w4 (w.heap.size + 1) 27 [.bool (ineg b.num), .string (imag b.num), .bool (ineg (b.den : Int)), .string (imag (b.den : Int))] := by
  rw [hw4]
  have h := (Blk.new (w.alloc (.cells #[.bool (ineg a.num), .string (imag a.num), .bool (ineg (a.den : Int)), .string (imag (a.den : Int))] 27)) 27 [.bool (ineg b.num), .string (imag b.num), .bool (ineg (b.den : Int)), .string (imag (b.den : Int))])
  (try simp only [World.size_alloc, Nat.add_assoc, Nat.reduceAdd] at h)
  exact h
 have tl : Below w.heap.size w w4 := by
  rw [hw4]
  exact (((Below.refl w.heap.size w).alloc (by simp <;> omega) (.cells #[.bool (ineg a.num), .string (imag a.num), .bool (ineg (a.den : Int)), .string (imag (a.den : Int))] 27)).alloc (by simp <;> omega) (.cells #[.bool (ineg b.num), .string (imag b.num), .bool (ineg (b.den : Int)), .string (imag (b.den : Int))] 27))
 have hs4 : w4.heap.size = w.heap.size + 2 := by rw [hw4]; simp only [World.size_alloc]
 obtain ⟨a_0, a_f0, a_1, a_f1, a_2, a_f2, a_3, a_f3⟩ := k_a.f4
 have HA := zh k_a; clear k_a
 obtain ⟨b_0, b_f0, b_1, b_f1, b_2, b_f2, b_3, b_f3⟩ := k_b.f4
 have HB := zh k_b; clear k_b
 have HBL := zh tl; clear tl
 go_enter Tryz.func29, Tryz.ntmps29
 go_upto_region 1 with fail
 (try rw [← hw4])
 clear hw4
 (try simp only [Nat.add_assoc, Nat.reduceAdd])
 go_wp2_with fail
 have hal4 : Below w4.heap.size w4 (w4.alloc (.cells #[.bool (ineg a.num), .string (imag a.num), .bool (ineg (a.den : Int)), .string (imag (a.den : Int)), .bool (ineg b.num), .string (imag b.num), .bool (ineg (b.den : Int)), .string (imag (b.den : Int))] 27)) := (Below.refl _ _).alloc (Nat.le_refl _) _
 have hrq : Row (w4.alloc (.cells #[.bool (ineg a.num), .string (imag a.num), .bool (ineg (a.den : Int)), .string (imag (a.den : Int)), .bool (ineg b.num), .string (imag b.num), .bool (ineg (b.den : Int)), .string (imag (b.den : Int))] 27)) (.slice (some ⟨w4.heap.size, 0, none⟩) 2 2) 2 [.bool (ineg a.num), .string (imag a.num), .bool (ineg (a.den : Int)), .string (imag (a.den : Int)), .bool (ineg b.num), .string (imag b.num), .bool (ineg (b.den : Int)), .string (imag (b.den : Int))] := Row.ofBlk (Blk.new w4 27 [.bool (ineg a.num), .string (imag a.num), .bool (ineg (a.den : Int)), .string (imag (a.den : Int)), .bool (ineg b.num), .string (imag b.num), .bool (ineg (b.den : Int)), .string (imag (b.den : Int))]) (m := 2) (cap := 2) (Nat.le_refl _) (by unfold maxLen; omega) 8
 rw [hs4] at hrq
 have k_a := HA.out.keep hal4
 have k_b := HB.out.keep hal4
 have tl := HBL.out.trans ((hal4).mono HBL.out.size)
 clear HBL HA HB
 clear a_0 a_f0 a_1 a_f1 a_2 a_f2 a_3 a_f3
 obtain ⟨a_0, a_f0, a_1, a_f1, a_2, a_f2, a_3, a_f3⟩ := k_a.f4
 have HA := zh k_a; clear k_a
 clear b_0 b_f0 b_1 b_f1 b_2 b_f2 b_3 b_f3
 obtain ⟨b_0, b_f0, b_1, b_f1, b_2, b_f2, b_3, b_f3⟩ := k_b.f4
 have HB := zh k_b; clear k_b
 have HBL := zh tl; clear tl
 clear hal4
 have hck := HCK.out _ _ (HRW.out.below HBL.out (Nat.le_refl _)) hrq
 have HCK1 := zh hck; clear hck
 clear hrq
 refine (HCK1.out).mono ?_
 rintro e w5 ⟨hq, rfl⟩
 dsimp only
 have k_a := HA.out.keep hq
 have k_b := HB.out.keep hq
 have tl := HBL.out.trans ((hq).mono HBL.out.size)
 clear HBL HA HB
 clear a_0 a_f0 a_1 a_f1 a_2 a_f2 a_3 a_f3
 obtain ⟨a_0, a_f0, a_1, a_f1, a_2, a_f2, a_3, a_f3⟩ := k_a.f4
 have HA := zh k_a; clear k_a
 clear b_0 b_f0 b_1 b_f1 b_2 b_f2 b_3 b_f3
 obtain ⟨b_0, b_f0, b_1, b_f1, b_2, b_f2, b_3, b_f3⟩ := k_b.f4
 have HB := zh k_b; clear k_b
 have HBL := zh tl; clear tl
 clear hq
 go_wp2_with fail
 refine (HC1.out _).mono ?_
 rintro e w6 ⟨hq, rfl⟩
 dsimp only
 have k_a := HA.out.keep hq
 have k_b := HB.out.keep hq
 have tl := HBL.out.trans ((hq).mono HBL.out.size)
 clear HBL HA HB
 clear a_0 a_f0 a_1 a_f1 a_2 a_f2 a_3 a_f3
 obtain ⟨a_0, a_f0, a_1, a_f1, a_2, a_f2, a_3, a_f3⟩ := k_a.f4
 have HA := zh k_a; clear k_a
 clear b_0 b_f0 b_1 b_f1 b_2 b_f2 b_3 b_f3
 obtain ⟨b_0, b_f0, b_1, b_f1, b_2, b_f2, b_3, b_f3⟩ := k_b.f4
 have HB := zh k_b; clear k_b
 have HBL := zh tl; clear tl
 clear hq
 have ha := HAL.out _ (HRW.out.below HBL.out (Nat.le_refl _))
 have HAL1 := zh ha; clear ha
 go_wp2_with fail
 refine (HAL1.out).mono ?_
 rintro e w7 ⟨hq, vt, rfl, hvt⟩
 dsimp only
 have k_a := HA.out.keep hq
 have k_b := HB.out.keep hq
 have tl := HBL.out.trans ((hq).mono HBL.out.size)
 clear HBL HA HB
 clear a_0 a_f0 a_1 a_f1 a_2 a_f2 a_3 a_f3
 obtain ⟨a_0, a_f0, a_1, a_f1, a_2, a_f2, a_3, a_f3⟩ := k_a.f4
 have HA := zh k_a; clear k_a
 clear b_0 b_f0 b_1 b_f1 b_2 b_f2 b_3 b_f3
 obtain ⟨b_0, b_f0, b_1, b_f1, b_2, b_f2, b_3, b_f3⟩ := k_b.f4
 have HB := zh k_b; clear k_b
 have HBL := zh tl; clear tl
 clear hq
 obtain ⟨m2, hm2⟩ : ∃ n, n = rows.length := ⟨_, rfl⟩
 obtain ⟨va2, vc2, rfl⟩ : ∃ a c, vt = .slice a m2 c := by
  obtain ⟨rvs, -, hrow, -⟩ := id hvt
  obtain ⟨a, c, h, -⟩ := hrow.slice
  exact ⟨a, c, by rw [hm2]; exact h⟩
 have hcc := HCN.out va2 m2 vc2 _ hm2 hvt
 have HCC := zh hcc; clear hcc
 clear hvt hm2
 go_wp2_with fail
 refine (HCC.out).mono ?_
 rintro e w8 ⟨hq, rfl⟩
 dsimp only
 have k_a := HA.out.keep hq
 have k_b := HB.out.keep hq
 have tl := HBL.out.trans ((hq).mono HBL.out.size)
 clear HBL HA HB
 clear a_0 a_f0 a_1 a_f1 a_2 a_f2 a_3 a_f3
 obtain ⟨a_0, a_f0, a_1, a_f1, a_2, a_f2, a_3, a_f3⟩ := k_a.f4
 have HA := zh k_a; clear k_a
 clear b_0 b_f0 b_1 b_f1 b_2 b_f2 b_3 b_f3
 obtain ⟨b_0, b_f0, b_1, b_f1, b_2, b_f2, b_3, b_f3⟩ := k_b.f4
 have HB := zh k_b; clear k_b
 have HBL := zh tl; clear tl
 clear hq
 go_wp2_with fail
 refine bodyPost_ret (v := .tuple #[.int .i64 N, .int .i64 0]) (by simp [results, Tryz.results29, go_sem]) rfl ⟨HBL.out, rfl⟩
end Go.Proofs.YtjpalbonclgflaaGreat

/- sturm.Roots; sturm.Count at canonical numbers (printed by gen_cnt5.py). -/
namespace Go.Proofs.YtjpalbonclgflaaGreat
open Go.RowKit

set_option maxRecDepth 100000 in
set_option maxHeartbeats 6400000 in
theorem sRoots_any (l : List Int) (v : Value) (w : World) (M : Nat) (hr : Row w v l.length (civ l)) (hf : AFine l M) :
  Calls Tryz.prog 36 #[v] w (Ret w (.tuple #[.int .i64 ((chg (stmA l) (-(Rat.divInt (bnd l : Int) 1)) : Int) - (chg (stmA l) (Rat.divInt (bnd l : Int) 1) : Int)), .int .i64 0])) := by
 have hck := scheck_nil l v w hr hf
 have hal := fun w' h => sall_any l v w' M h hf
 have hbo := fun w' h => sbound_any l v w' M h hf.pos (by have := hf.len; omega) hf.ends hf.z (by have := hf.hM; omega)
 have hbz := bnd_zs hf.ends hf.pos hf.z (Nat.le_refl (bndK l))
 have hbb : (((2 : Nat) ^ bndK l : Nat) : Int) = (bnd l : Int) := rfl
 rw [hbb] at hbz
 obtain ⟨B, hB⟩ : ∃ B : Int, B = (bnd l : Int) := ⟨_, rfl⟩
 rw [← hB] at hbo hbz ⊢
 have hM1 : M + 1 ≤ 100000000 := by have := hf.hM; omega
 have hof := fun w' => qof_any (ineg B) (imag B) w' (Nat.le_trans hbz.size (by omega))
 simp only [ival_canon] at hof
 have hz1 : zs (M + 1) (1 : Int) := zs_nat 1 (M + 1) (Nat.one_lt_pow (by omega) (by decide))
 have hqs := divInt_sized hbz hz1 (by omega)
 obtain ⟨q, hq'⟩ : ∃ q, q = Rat.divInt B 1 := ⟨_, rfl⟩
 rw [← hq'] at hof hqs ⊢
 have hng := fun w' => qneg_any (ineg q.num) (ineg (q.den : Int)) (imag q.num) (imag (q.den : Int)) w' (Nat.le_trans hqs.1.size (by omega)) (Nat.le_trans hqs.2.size (by omega))
 simp only [ival_canon, Rat.num_divInt_den] at hng
 have hrz : ∀ p ∈ stmA l, p.length ≤ 65 ∧ ∀ x ∈ p, zs M x := fun p hp => ⟨stmA_len hf p hp, hf.c p hp⟩
 have hrl := hf.sl
 have hM2 : M ≤ 1000000000 := by have := hf.hM; omega
 have hns : rs (M + 1) (-q) := ⟨hqs.1.neg, hqs.2⟩
 have hcn : ∀ va n vc w', n = (stmA l).length → Tab w' (.slice va n vc) (stmA l) → Calls Tryz.prog 65 #[.slice va n vc, RatV (-q), .agg #[.bool (ineg q.num), .string (imag q.num), .bool (ineg (q.den : Int)), .string (imag (q.den : Int))]] w' (Ret w' (.int .i64 ((chg (stmA l) (-q) : Int) - (chg (stmA l) q : Int)))) := fun va n vc w' hn h => by
  have h2 := scount_any (stmA l) (.slice va n vc) (ineg (-q).num) (ineg ((-q).den : Int)) (imag (-q).num) (imag ((-q).den : Int)) (ineg q.num) (ineg (q.den : Int)) (imag q.num) (imag (q.den : Int)) w' M h hrl hrz hM2 (Nat.le_trans hns.1.size (by omega)) (Nat.le_trans hns.2.size (by omega)) (Nat.le_trans hqs.1.size (by omega)) (Nat.le_trans hqs.2.size (by omega))
  simp only [ival_canon, Rat.num_divInt_den] at h2
  exact h2
 obtain ⟨N, hN⟩ : ∃ N : Int, N = (chg (stmA l) (-q) : Int) - (chg (stmA l) q : Int) := ⟨_, rfl⟩
 simp only [← hN] at hcn
 rw [← hN]
 obtain ⟨rows, hrows⟩ : ∃ R, R = stmA l := ⟨_, rfl⟩
 rw [← hrows] at hal
 simp only [← hrows] at hcn
 obtain ⟨nq, hnq⟩ : ∃ nq, nq = -q := ⟨_, rfl⟩
 rw [← hnq] at hng
 simp only [← hnq] at hcn
 obtain ⟨va, vc, rfl, -⟩ := hr.slice
 obtain ⟨n, hn⟩ : ∃ n, n = l.length := ⟨_, rfl⟩
 rw [← hn] at hr hck hal hbo ⊢
 unfold AllRet at hal
 have HRW := zh hr; clear hr
 have HCK := zh hck; clear hck
 have HAL := zh hal; clear hal
 have HBO := zh hbo; clear hbo
 have HOF := zh hof; clear hof
 have HNG := zh hng; clear hng
 have HCN := zh hcn; clear hcn
 clear hf hrows hn hB hq' hqs hbz hbb hz1 hrz hrl hns hN hnq
 go_enter Tryz.func36, Tryz.ntmps36
 go_wp2_with fail
 refine (HCK.out).mono ?_
 rintro e1 w1 ⟨hq1, rfl⟩
 dsimp only
 have hr1 := HRW.out.below hq1 (Nat.le_refl _)
 have ha := HAL.out _ hr1
 have HR1 := zh hr1; clear hr1
 have HA := zh ha; clear ha
 have S1 := zh hq1; clear hq1
 go_wp2_with fail
 refine (HA.out).mono ?_
 rintro e2 w2 ⟨hq2, v2, rfl, hv2⟩
 dsimp only
 have tl := S1.out.trans (hq2.mono S1.out.size)
 have hr2 := HR1.out.below hq2 (Nat.le_refl _)
 obtain ⟨m2, hm2⟩ : ∃ n, n = rows.length := ⟨_, rfl⟩
 obtain ⟨va2, vc2, rfl⟩ : ∃ a c, v2 = .slice a m2 c := by
  obtain ⟨rvs, -, hrow, -⟩ := id hv2
  obtain ⟨a, c, h, -⟩ := hrow.slice
  exact ⟨a, c, by rw [hm2]; exact h⟩
 have hbo := HBO.out _ hr2
 have HM2 := zh hm2; clear hm2
 have HV2 := zh hv2; clear hv2
 have HBL := zh tl; clear tl
 have HBO1 := zh hbo; clear hbo
 clear hq2 hr2
 go_wp2_with fail
 refine (HBO1.out).mono ?_
 rintro e w21 ⟨hq, rfl⟩
 dsimp only
 have hv3 := HV2.out.below hq (Nat.le_refl _)
 have tl := HBL.out.trans ((hq).mono HBL.out.size)
 clear HBL 
 have HBL := zh tl; clear tl
 clear hq
 have HV3 := zh hv3; clear hv3
 go_wp2_with fail
 refine (HOF.out _).mono ?_
 rintro e w22 ⟨hq, rfl⟩
 dsimp only
 have hv4 := HV3.out.below hq (Nat.le_refl _)
 have tl := HBL.out.trans ((hq).mono HBL.out.size)
 clear HBL 
 have HBL := zh tl; clear tl
 clear hq
 have HV4 := zh hv4; clear hv4
 have hal : Below w22.heap.size w22 (w22.alloc (.cells #[.bool (ineg q.num), .string (imag q.num), .bool (ineg (q.den : Int)), .string (imag (q.den : Int))] 27)) := (Below.refl _ _).alloc (Nat.le_refl _) _
 have hv5 := HV4.out.below hal (Nat.le_refl _)
 have HV5 := zh hv5; clear hv5
 clear hal
 obtain ⟨b_q, hb_q⟩ : ∃ b, b = w22.heap.size := ⟨_, rfl⟩
 have hal : Below w22.heap.size w22 (w22.alloc (.cells #[.bool (ineg q.num), .string (imag q.num), .bool (ineg (q.den : Int)), .string (imag (q.den : Int))] 27)) := (Below.refl _ _).alloc (Nat.le_refl _) _
 have k_q : Blk (w22.alloc (.cells #[.bool (ineg q.num), .string (imag q.num), .bool (ineg (q.den : Int)), .string (imag (q.den : Int))] 27)) b_q 27 [.bool (ineg q.num), .string (imag q.num), .bool (ineg (q.den : Int)), .string (imag (q.den : Int))] := by rw [hb_q]; exact Blk.new w22 _ _
 have hge_q : w.heap.size ≤ b_q := by rw [hb_q]; exact HBL.out.size
 have tl := HBL.out.trans ((hal).mono HBL.out.size)
 clear HBL 
 have HBL := zh tl; clear tl
 clear hal
 obtain ⟨q_0, q_f0, q_1, q_f1, q_2, q_f2, q_3, q_f3⟩ := k_q.f4
 have HQ := zh k_q; clear k_q
 go_wp2_with fail
 (try rw [← hb_q])
 have HB_q := zh hb_q; clear hb_q
 have HQ := zh HQ.out.drew
 have HBL := zh HBL.out.drew
 refine wp_region_held_drew (S := fun w' => w'.cell? ⟨b_q, 0, none⟩ = some (.bool (ineg q.num)) ∧ w'.cell? ⟨b_q, 1, none⟩ = some (.string (imag q.num)) ∧ w'.cell? ⟨b_q, 2, none⟩ = some (.bool (ineg (q.den : Int))) ∧ w'.cell? ⟨b_q, 3, none⟩ = some (.string (imag (q.den : Int)))) (by kernel_rfl) ?_ (fun hHeld0 => ?_)
 ·
  go_keep
 refine zT 0 (h := ?_)
 (try simp only [Act.put, zA, zB, zC])
 refine zT 1 (h := ?_)
 (try simp only [Act.put, zA, zB, zC])
 refine zT 3 (h := ?_)
 (try simp only [Act.put, zA, zB, zC])
 refine zR 2 (h := fun K hK => ?_)
 go_simp
 go_at_call 38
 refine (HNG.out _).mono ?_
 rintro e w23 ⟨hq, rfl⟩
 dsimp only
 have hv6 := (HV5.out.drew).below hq (Nat.le_refl _)
 have z0 := zK hq HQ.out.lt hHeld0.1
 have z1 := zK hq HQ.out.lt hHeld0.2.1
 have z2 := zK hq HQ.out.lt hHeld0.2.2.1
 have z3 := zK hq HQ.out.lt hHeld0.2.2.2
 refine hK.out _ _ ⟨z0, z1, z2, z3⟩ (fun hHeld1 => ?_)
 clear hK K hHeld0 z0 z1 z2 z3
 (try simp only [Act.put, zA, zB, zC])
 have k_q := HQ.out.keep hq
 have tl := HBL.out.trans ((hq).mono HBL.out.size)
 clear HBL HQ
 clear q_0 q_f0 q_1 q_f1 q_2 q_f2 q_3 q_f3
 obtain ⟨q_0, q_f0, q_1, q_f1, q_2, q_f2, q_3, q_f3⟩ := k_q.f4
 have HQ := zh k_q; clear k_q
 have HBL := zh tl; clear tl
 clear hq
 have hcc := HCN.out va2 m2 vc2 _ HM2.out hv6
 have HCC := zh hcc; clear hcc
 clear hv6
 refine zR 4 (h := fun K hK => ?_)
 go_simp
 go_at_call 65
 refine (HCC.out).mono ?_
 rintro e w24 ⟨hq, rfl⟩
 dsimp only
 have z0 := zK hq HQ.out.lt hHeld1.1
 have z1 := zK hq HQ.out.lt hHeld1.2.1
 have z2 := zK hq HQ.out.lt hHeld1.2.2.1
 have z3 := zK hq HQ.out.lt hHeld1.2.2.2
 refine hK.out _ _ ⟨z0, z1, z2, z3⟩ (fun hHeld2 => ?_)
 clear hK K hHeld1 z0 z1 z2 z3
 (try simp only [Act.put, zA, zB, zC])
 have k_q := HQ.out.keep hq
 have tl := HBL.out.trans ((hq).mono HBL.out.size)
 clear HBL HQ
 clear q_0 q_f0 q_1 q_f1 q_2 q_f2 q_3 q_f3
 obtain ⟨q_0, q_f0, q_1, q_f1, q_2, q_f2, q_3, q_f3⟩ := k_q.f4
 have HQ := zh k_q; clear k_q
 have HBL := zh tl; clear tl
 clear hq
 refine zT 5 (h := ?_)
 (try simp only [Act.put, zA, zB, zC])
 refine zT 6 (h := ?_)
 (try simp only [Act.put, zA, zB, zC])
 refine wpAnyH_done (by kernel_rfl) ?_ _
 (try simp only [List.getElem_toArray, List.getElem_cons_zero, List.getElem_cons_succ, Act.put, zA, zB, zC])
 go_wp2_with fail
 refine bodyPost_ret (v := .tuple #[.int .i64 N, .int .i64 0]) (by simp [results, Tryz.results36, go_sem]) rfl ⟨HBL.out, rfl⟩
end Go.Proofs.YtjpalbonclgflaaGreat

/- What sturm.all meets at a polynomial of at most eight coefficients of three bytes is not too large: plain. -/
namespace Go.Proofs.YtjpalbonclgflaaGreat

theorem chn_length : ∀ (n : Nat) (p q : List Int), (chn n p q).length ≤ n
 | 0, _, _ => Nat.le_refl _
 | n + 1, p, q =>
  by
  by_cases h : q.length = 0
  ·
   rw [chn_nil h]; simp
  ·
   rw [chn_step h]; have := chn_length n q (red (pdv p q).2 (sgS p q)); simp; omega
theorem chn_siz {A L : Nat} : ∀ (n : Nat) (p q : List Int) (s : Nat), q.length < p.length → p.length ≤ L → (∀ x ∈ p, zs s x) → (∀ x ∈ q, zs s x) → s + 1 ≤ A * 3 ^ (L - p.length) → ∀ r ∈ chn n p q, ∀ x ∈ r, zs (A * 3 ^ (L - 2)) x
 | 0, _, _, _ => fun _ _ _ _ _ r hr => by cases hr
 | n + 1, p, q, s =>
  fun h1 h2 hp hq hs r hr => by
  by_cases h : q.length = 0
  ·
   rw [chn_nil h] at hr; cases hr
  ·
   rw [chn_step h] at hr
   rcases List.mem_cons.1 hr with rfl | hr
   ·
    intro x hx
    have : A * 3 ^ (L - p.length) ≤ A * 3 ^ (L - 2) := Nat.mul_le_mul_left _ (Nat.pow_le_pow_right (by decide) (by omega))
    exact (hq x hx).mono (by omega)
   ·
    have hd := pow3_step (d := p.length - q.length + 1) (by omega)
    have hz := (pdv_zs (a := p) (b := q) hp hq).2
    refine chn_siz n q _ (s + (p.length - q.length + 1) * (s + 1)) (chn_less _ h) (by omega) (fun x hx => (hq x hx).mono (Nat.le_add_right _ _)) (red_zs hz) ?_ r hr
    have e1 : L - q.length = (L - p.length) + (p.length - q.length + 1 - 1) := by omega
    rw [e1, Nat.pow_add, ← Nat.mul_assoc]
    calc s + (p.length - q.length + 1) * (s + 1) + 1 = (s + 1) * (1 + (p.length - q.length + 1)) := by grind
     _ ≤ (A * 3 ^ (L - p.length)) * 3 ^ (p.length - q.length + 1 - 1) := Nat.mul_le_mul hs hd
theorem stm_siz {f : List Int} {t : Nat} (h0 : 0 < f.length) (h7 : f.length ≤ 1000) (hz : ∀ x ∈ f, zs t x) {M : Nat} (hM : (t + 3) * 3 ^ (f.length - 2) ≤ M) : ∀ r ∈ stm f, ∀ x ∈ r, zs M x := by
 intro r hr
 have hd := red_zs (s := 1) (der_sized h7 hz)
 unfold stm at hr
 have ht : t ≤ (t + 3) * 3 ^ (f.length - 2) := by
  have : 1 ≤ 3 ^ (f.length - 2) := Nat.pow_pos (by decide)
  have := Nat.mul_le_mul_left (t + 3) this
  omega
 rcases List.mem_cons.1 hr with rfl | hr
 ·
  exact fun x hx => (hz x hx).mono (by omega)
 ·
  split at hr
  ·
   cases hr
  ·
   intro x hx
   have hl : (red (der f) 1).length < f.length := Nat.lt_of_le_of_lt (red_len _ _) (by rw [der_length]; omega)
   exact (chn_siz (A := t + 3) (L := f.length) f.length f _ (t + 2) hl (Nat.le_refl _) (fun x hx => (hz x hx).mono (by omega)) hd (by rw [Nat.sub_self]; simp) r hr x hx).mono hM
theorem gcd_siz {l : List Int} {L m : Nat} (h8 : l.length ≤ L) (hL : L ≤ 8) (h0 : 0 < l.length) (hz : ∀ x ∈ l, zs m x) : SizS (m + 3) L (prm l, prm (der l)) := by
 have hd := prm_zs (der_sized (by omega) hz)
 have hp := prm_zs hz
 have hk : ∀ k, m + 3 ≤ (m + 3) * 3 ^ (L - k) := fun k => by
  have h1 : 1 ≤ 3 ^ (L - k) := Nat.pow_pos (by decide)
  have := Nat.mul_le_mul_left (m + 3) h1
  omega
 by_cases h : (der l).length = 0
 ·
  exact .inl ⟨by show (prm _).length = 0; rw [prm_length]; exact h, m, hp, Nat.le_trans (by omega) (hk _)⟩
 ·
  refine .inr ⟨?_, ?_, ?_, m + 2, fun x hx => (hp x hx).mono (by omega), hd, hk _⟩
  ·
   show (prm _).length ≠ (prm _).length
   rw [prm_length, prm_length, der_length]; omega
  ·
   show (prm _).length ≤ L
   rw [prm_length]; exact h8
  ·
   show (prm _).length ≤ L
   rw [prm_length, der_length]; omega
theorem gcd_facts {l : List Int} {L m : Nat} (h8 : l.length ≤ L) (hL : L ≤ 8) (h0 : 0 < l.length) (hz : ∀ x ∈ l, zs m x) (he : Ends l) :
  Ends (gcdP l (der l)) ∧ 0 < (gcdP l (der l)).length ∧ (gcdP l (der l)).length ≤ l.length ∧ ((gcdP l (der l)).length = 1 → gcdP l (der l) = [1]) ∧ ∃ s, (∀ x ∈ gcdP l (der l), zs s x) ∧ s + 1 ≤ (m + 3) * 3 ^ (L - (gcdP l (der l)).length) := by
 have hs := gsts_siz (gcd_siz h8 hL h0 hz) (prm (der l)).length
 have h2 : (gsts (prm l, prm (der l)) (prm (der l)).length).2.length = 0 := by have := gsts_len (prm l, prm (der l)) (prm (der l)).length; simp only at this; omega
 have hen := gsts_ends (p := (prm l, prm (der l))) (prm_ends he) (prm_ends (der_ends he)) (prm (der l)).length
 have hpo := gsts_pos (p := (prm l, prm (der l))) (by show 0 < (prm l).length; rw [prm_length]; exact h0) (prm (der l)).length
 have hle := gsts_lens (p := (prm l, prm (der l))) (L := l.length) (by show (prm l).length ≤ _; rw [prm_length]; exact Nat.le_refl _) (by show (prm _).length ≤ _; rw [prm_length, der_length]; omega) (prm (der l)).length
 have hpr := gsts_prm (p := (prm l, prm (der l))) ⟨_, rfl, he⟩ ⟨_, rfl, der_ends he⟩ (prm_ends he) (prm_ends (der_ends he)) (prm (der l)).length
 have hg : gcdP l (der l) = (gsts (prm l, prm (der l)) (prm (der l)).length).1 := rfl
 rw [hg]
 refine ⟨hen.1, hpo, hle.1, fun h => hpr.1.one h, ?_⟩
 rcases hs with ⟨-, s, h3, h4⟩ | ⟨-, -, -, s, h3, -, h4⟩
 ·
  exact ⟨s, h3, h4⟩
 ·
  refine ⟨s, h3, ?_⟩
  rw [h2, Nat.max_eq_left (Nat.zero_le _)] at h4
  exact h4
theorem sqf_siz {l : List Int} {L m M : Nat} (h8 : l.length ≤ L) (hL : L ≤ 8) (hL3 : 3 ≤ L) (h0 : 0 < l.length) (hz : ∀ x ∈ l, zs m x) (he : Ends l) (hM1 : ((m + 3) + (L - 1) * ((m + 3) * 3 ^ (L - 2))) * 3 ^ (L - 3) ≤ M) (hM2 : (m + 2 * L + 3) * 3 ^ (L - 2) ≤ M) :
  0 < (sqf l).length ∧ ∃ t, (∀ x ∈ sqf l, zs t x) ∧ (t + 3) * 3 ^ ((sqf l).length - 2) ≤ M := by
 obtain ⟨g1, g2, g3, g4, s, g5, g6⟩ := gcd_facts h8 hL h0 hz he
 have hq := pdv_q_pos he g1 g2 g3
 have hl1 := pdv_len1 l (gcdP l (der l))
 have hsz := (pdv_zs (a := l) (b := gcdP l (der l)) hz g5).1
 refine ⟨by unfold sqf; rw [prm_length]; exact hq, ?_⟩
 have hsl : (sqf l).length = (pdv l (gcdP l (der l))).1.length := by unfold sqf; rw [prm_length]
 rw [hsl]
 rcases Nat.lt_or_ge 1 (gcdP l (der l)).length with hj | hj
 ·
  refine ⟨_, prm_zs hsz, ?_⟩
  have h1 : (m + 3) * 3 ^ (L - (gcdP l (der l)).length) ≤ (m + 3) * 3 ^ (L - 2) := Nat.mul_le_mul_left _ (Nat.pow_le_pow_right (by decide) (by omega))
  have h2 : (l.length - (gcdP l (der l)).length + 1) * (s + 1) ≤ (L - 1) * ((m + 3) * 3 ^ (L - 2)) := Nat.mul_le_mul (by omega) (by omega)
  have h3 : 3 ^ ((pdv l (gcdP l (der l))).1.length - 2) ≤ 3 ^ (L - 3) := Nat.pow_le_pow_right (by decide) (by omega)
  exact Nat.le_trans (Nat.mul_le_mul (by omega) h3) hM1
 ·
  have hg := g4 (by omega)
  rw [hg] at hsz hl1 ⊢
  have hsz := (pdv_zs (a := l) (b := [1]) (k := 1) hz (by intro x hx; simp at hx; subst hx; exact zs_nat 1 1 (by decide))).1
  have hf : sqf l = prm (pdv l [1]).1 := by unfold sqf; rw [hg]
  have h11 : [(1 : Int)].length = 1 := rfl
  rw [h11] at hl1 hsz
  have h3 : 3 ^ ((pdv l [1]).1.length - 2) ≤ 3 ^ (L - 2) := Nat.pow_le_pow_right (by decide) (by omega)
  refine ⟨m + 2 * L, fun x hx => (prm_zs hsz x (by rw [← hf]; exact hx)).mono (by omega), ?_⟩
  exact Nat.le_trans (Nat.mul_le_mul_left _ h3) hM2
theorem afine_gen {l : List Int} {L m M : Nat} (h8 : l.length ≤ L) (hL : L ≤ 8) (hL3 : 3 ≤ L) (h0 : 0 < l.length) (hz : ∀ x ∈ l, zs m x) (he : Ends l) (hM1 : ((m + 3) + (L - 1) * ((m + 3) * 3 ^ (L - 2))) * 3 ^ (L - 3) ≤ M) (hM2 : (m + 2 * L + 3) * 3 ^ (L - 2) ≤ M) (hM3 : (m + 3) * 3 ^ (L - 1) ≤ M) (hM : M ≤ 90000000) : AFine l M := by
 obtain ⟨q1, t, q2, q3⟩ := sqf_siz h8 hL hL3 h0 hz he hM1 hM2
 have hlen := sqf_len h0
 have hmM : m + 2 ≤ M := by
  have h1 : 1 ≤ 3 ^ (L - 1) := Nat.pow_pos (by decide)
  have := Nat.mul_le_mul_left (m + 3) h1
  omega
 exact {
  len := by omega
  pos := h0
  ends := he
  hM := hM
  z := fun x hx => (hz x hx).mono (by omega)
  zd := fun x hx => (der_sized (by omega) hz x hx).mono hmM
  g := (gcd_siz h8 hL h0 hz).fine (by show 0 < (prm l).length; rw [prm_length]; exact h0) (by omega)
  c := stm_siz q1 (by omega) q2 q3
  sl := by
   unfold stmA stm
   split
   ·
    simp
   ·
    have := chn_length (sqf l).length (sqf l) (red (der (sqf l)) 1)
    simp only [List.length_cons]
    omega
  sp := q1 }
theorem afine_of {l : List Int} (h8 : l.length ≤ 8) (h0 : 0 < l.length) (hz : ∀ x ∈ l, zs 3 x) (he : Ends l) : AFine l 8000000 :=
 afine_gen (L := 8) (m := 3) h8 (by decide) (by decide) h0 hz he (by decide) (by decide) (by decide) (by decide)
end Go.Proofs.YtjpalbonclgflaaGreat

/- The laws of group 05: rational numbers in their canonical form, lists of intervals. -/
namespace Go.Proofs.YtjpalbonclgflaaGreat
open Go.RowKit

theorem qadd_ok (a b : Rat) (w : World) (K : Nat) (hK : K ≤ 20000000000) (ha : rs K a) (hb : rs K b) : Calls Tryz.prog 32 #[RatV a, RatV b] w (Ret w (RatV (a + b))) := by
 have h := radd_anyQ (ineg a.num) (ineg (a.den : Int)) (imag a.num) (imag (a.den : Int)) (ineg b.num) (ineg (b.den : Int)) (imag b.num) (imag (b.den : Int)) w (Nat.le_trans ha.1.size hK) (Nat.le_trans ha.2.size hK) (Nat.le_trans hb.1.size hK) (Nat.le_trans hb.2.size hK)
 simp only [ival_canon, Rat.num_divInt_den] at h
 exact h
theorem qneg_ok (a : Rat) (w : World) (K : Nat) (hK : K ≤ 100000000000) (ha : rs K a) : Calls Tryz.prog 38 #[RatV a] w (Ret w (RatV (-a))) := by
 have h := qneg_any (ineg a.num) (ineg (a.den : Int)) (imag a.num) (imag (a.den : Int)) w (Nat.le_trans ha.1.size hK) (Nat.le_trans ha.2.size hK)
 simp only [ival_canon, Rat.num_divInt_den] at h
 exact h
theorem qof_ok (z : Int) (w : World) (K : Nat) (hK : K ≤ 100000000000) (hz : zs K z) : Calls Tryz.prog 39 #[.agg #[.bool (ineg z), .string (imag z)]] w (Ret w (RatV (Rat.divInt z 1))) := by
 have h := qof_any (ineg z) (imag z) w (Nat.le_trans hz.size hK)
 simp only [ival_canon] at h
 exact h
theorem count_ok (l : List Int) (v : Value) (a b : Rat) (w : World) (M K : Nat) (hr : Row w v l.length (civ l)) (hf : AFine l M) (hK : K ≤ 1000000000) (ha : rs K a) (hb : rs K b) (hab : a ≤ b) :
  Calls Tryz.prog 29 #[v, RatV a, RatV b] w (Ret w (.tuple #[.int .i64 (T.Nn l a b), .int .i64 0])) := sCount_ok l v a b w M K hr hf hK ha hb (Rat.not_lt.2 hab)
end Go.Proofs.YtjpalbonclgflaaGreat


/- sturm.Roots; sturm.Count at canonical numbers (printed by gen_cnt5.py). -/
import Derived.Test.YtjpalbonclgflaaRfn
namespace Go.Proofs.Ytjpalbonclgflaa
open Go.RowKit

set_option maxRecDepth 100000 in
set_option maxHeartbeats 6400000 in
theorem sRoots_any (l : List Int) (v : Value) (w : World) (M : Nat) (hr : Row w v l.length (civ l)) (hf : AFine l M) :
  Calls Try.prog 11 #[v] w (Ret w (.tuple #[.int .i64 ((chg (stmA l) (-(Rat.divInt (bnd l : Int) 1)) : Int) - (chg (stmA l) (Rat.divInt (bnd l : Int) 1) : Int)), .int .i64 0])) := by
 have hck := scheck_nil l v w hr hf
 have hal := fun w' h => sall_any l v w' M h hf
 have hbo := fun w' h => sbound_any l v w' M h hf.pos (by have := hf.len; omega) hf.ends hf.z (by have := hf.hM; omega)
 have hbz := bnd_zs hf.ends hf.pos hf.z (Nat.le_refl (bndK l))
 have hbb : (((2 : Nat) ^ bndK l : Nat) : Int) = (bnd l : Int) := rfl
 rw [hbb] at hbz
 obtain ⟨B, hB⟩ : ∃ B : Int, B = (bnd l : Int) := ⟨_, rfl⟩
 rw [← hB] at hbo hbz ⊢
 have hM1 : M + 1 ≤ 100000000 := by have := hf.hM; omega
 have hof := fun w' => qof_any (ineg B) (imag B) w' (Nat.le_trans hbz.size (by omega))
 simp only [ival_canon] at hof
 have hz1 : zs (M + 1) (1 : Int) := zs_nat 1 (M + 1) (Nat.one_lt_pow (by omega) (by decide))
 have hqs := divInt_sized hbz hz1 (by omega)
 obtain ⟨q, hq'⟩ : ∃ q, q = Rat.divInt B 1 := ⟨_, rfl⟩
 rw [← hq'] at hof hqs ⊢
 have hng := fun w' => qneg_any (ineg q.num) (ineg (q.den : Int)) (imag q.num) (imag (q.den : Int)) w' (Nat.le_trans hqs.1.size (by omega)) (Nat.le_trans hqs.2.size (by omega))
 simp only [ival_canon, Rat.num_divInt_den] at hng
 have hrz : ∀ p ∈ stmA l, p.length ≤ 65 ∧ ∀ x ∈ p, zs M x := fun p hp => ⟨stmA_len hf p hp, hf.c p hp⟩
 have hrl := hf.sl
 have hM2 : M ≤ 1000000000 := by have := hf.hM; omega
 have hns : rs (M + 1) (-q) := ⟨hqs.1.neg, hqs.2⟩
 have hcn : ∀ va n vc w', n = (stmA l).length → Tab w' (.slice va n vc) (stmA l) → Calls Try.prog 28 #[.slice va n vc, RatV (-q), .agg #[.bool (ineg q.num), .string (imag q.num), .bool (ineg (q.den : Int)), .string (imag (q.den : Int))]] w' (Ret w' (.int .i64 ((chg (stmA l) (-q) : Int) - (chg (stmA l) q : Int)))) := fun va n vc w' hn h => by
  have h2 := scount_any (stmA l) (.slice va n vc) (ineg (-q).num) (ineg ((-q).den : Int)) (imag (-q).num) (imag ((-q).den : Int)) (ineg q.num) (ineg (q.den : Int)) (imag q.num) (imag (q.den : Int)) w' M h hrl hrz hM2 (Nat.le_trans hns.1.size (by omega)) (Nat.le_trans hns.2.size (by omega)) (Nat.le_trans hqs.1.size (by omega)) (Nat.le_trans hqs.2.size (by omega))
  simp only [ival_canon, Rat.num_divInt_den] at h2
  exact h2
 obtain ⟨N, hN⟩ : ∃ N : Int, N = (chg (stmA l) (-q) : Int) - (chg (stmA l) q : Int) := ⟨_, rfl⟩
 simp only [← hN] at hcn
 rw [← hN]
 obtain ⟨rows, hrows⟩ : ∃ R, R = stmA l := ⟨_, rfl⟩
 rw [← hrows] at hal
 simp only [← hrows] at hcn
 obtain ⟨nq, hnq⟩ : ∃ nq, nq = -q := ⟨_, rfl⟩
 rw [← hnq] at hng
 simp only [← hnq] at hcn
 obtain ⟨va, vc, rfl, -⟩ := hr.slice
 obtain ⟨n, hn⟩ : ∃ n, n = l.length := ⟨_, rfl⟩
 rw [← hn] at hr hck hal hbo ⊢
 unfold AllRet at hal
 have HRW := zh hr; clear hr
 have HCK := zh hck; clear hck
 have HAL := zh hal; clear hal
 have HBO := zh hbo; clear hbo
 have HOF := zh hof; clear hof
 have HNG := zh hng; clear hng
 have HCN := zh hcn; clear hcn
 clear hf hrows hn hB hq' hqs hbz hbb hz1 hrz hrl hns hN hnq
 go_enter Try.func11, Try.ntmps11
 go_wp2_with fail
 refine (HCK.out).mono ?_
 rintro e1 w1 ⟨hq1, rfl⟩
 dsimp only
 have hr1 := HRW.out.below hq1 (Nat.le_refl _)
 have ha := HAL.out _ hr1
 have HR1 := zh hr1; clear hr1
 have HA := zh ha; clear ha
 have S1 := zh hq1; clear hq1
 go_wp2_with fail
 refine (HA.out).mono ?_
 rintro e2 w2 ⟨hq2, v2, rfl, hv2⟩
 dsimp only
 have tl := S1.out.trans (hq2.mono S1.out.size)
 have hr2 := HR1.out.below hq2 (Nat.le_refl _)
 obtain ⟨m2, hm2⟩ : ∃ n, n = rows.length := ⟨_, rfl⟩
 obtain ⟨va2, vc2, rfl⟩ : ∃ a c, v2 = .slice a m2 c := by
  obtain ⟨rvs, -, hrow, -⟩ := id hv2
  obtain ⟨a, c, h, -⟩ := hrow.slice
  exact ⟨a, c, by rw [hm2]; exact h⟩
 have hbo := HBO.out _ hr2
 have HM2 := zh hm2; clear hm2
 have HV2 := zh hv2; clear hv2
 have HBL := zh tl; clear tl
 have HBO1 := zh hbo; clear hbo
 clear hq2 hr2
 go_wp2_with fail
 refine (HBO1.out).mono ?_
 rintro e w21 ⟨hq, rfl⟩
 dsimp only
 have hv3 := HV2.out.below hq (Nat.le_refl _)
 have tl := HBL.out.trans ((hq).mono HBL.out.size)
 clear HBL 
 have HBL := zh tl; clear tl
 clear hq
 have HV3 := zh hv3; clear hv3
 go_wp2_with fail
 refine (HOF.out _).mono ?_
 rintro e w22 ⟨hq, rfl⟩
 dsimp only
 have hv4 := HV3.out.below hq (Nat.le_refl _)
 have tl := HBL.out.trans ((hq).mono HBL.out.size)
 clear HBL 
 have HBL := zh tl; clear tl
 clear hq
 have HV4 := zh hv4; clear hv4
 have hal : Below w22.heap.size w22 (w22.alloc (.cells #[.bool (ineg q.num), .string (imag q.num), .bool (ineg (q.den : Int)), .string (imag (q.den : Int))] 35)) := (Below.refl _ _).alloc (Nat.le_refl _) _
 have hv5 := HV4.out.below hal (Nat.le_refl _)
 have HV5 := zh hv5; clear hv5
 clear hal
 obtain ⟨b_q, hb_q⟩ : ∃ b, b = w22.heap.size := ⟨_, rfl⟩
 have hal : Below w22.heap.size w22 (w22.alloc (.cells #[.bool (ineg q.num), .string (imag q.num), .bool (ineg (q.den : Int)), .string (imag (q.den : Int))] 35)) := (Below.refl _ _).alloc (Nat.le_refl _) _
 have k_q : Blk (w22.alloc (.cells #[.bool (ineg q.num), .string (imag q.num), .bool (ineg (q.den : Int)), .string (imag (q.den : Int))] 35)) b_q 35 [.bool (ineg q.num), .string (imag q.num), .bool (ineg (q.den : Int)), .string (imag (q.den : Int))] := by rw [hb_q]; exact Blk.new w22 _ _
 have hge_q : w.heap.size ≤ b_q := by rw [hb_q]; exact HBL.out.size
 have tl := HBL.out.trans ((hal).mono HBL.out.size)
 clear HBL 
 have HBL := zh tl; clear tl
 clear hal
 obtain ⟨q_0, q_f0, q_1, q_f1, q_2, q_f2, q_3, q_f3⟩ := k_q.f4
 have HQ := zh k_q; clear k_q
 go_wp2_with fail
 (try rw [← hb_q])
 have HB_q := zh hb_q; clear hb_q
 have HQ := zh HQ.out.drew
 have HBL := zh HBL.out.drew
 refine wp_region_held_drew (S := fun w' => w'.cell? ⟨b_q, 0, none⟩ = some (.bool (ineg q.num)) ∧ w'.cell? ⟨b_q, 1, none⟩ = some (.string (imag q.num)) ∧ w'.cell? ⟨b_q, 2, none⟩ = some (.bool (ineg (q.den : Int))) ∧ w'.cell? ⟨b_q, 3, none⟩ = some (.string (imag (q.den : Int)))) (by kernel_rfl) ?_ (fun hHeld0 => ?_)
 ·
  go_keep
 refine zT 0 (h := ?_)
 (try simp only [Act.put, zA, zB, zC])
 refine zT 1 (h := ?_)
 (try simp only [Act.put, zA, zB, zC])
 refine zT 3 (h := ?_)
 (try simp only [Act.put, zA, zB, zC])
 refine zR 2 (h := fun K hK => ?_)
 go_simp
 go_at_call 31
 refine (HNG.out _).mono ?_
 rintro e w23 ⟨hq, rfl⟩
 dsimp only
 have hv6 := (HV5.out.drew).below hq (Nat.le_refl _)
 have z0 := zK hq HQ.out.lt hHeld0.1
 have z1 := zK hq HQ.out.lt hHeld0.2.1
 have z2 := zK hq HQ.out.lt hHeld0.2.2.1
 have z3 := zK hq HQ.out.lt hHeld0.2.2.2
 refine hK.out _ _ ⟨z0, z1, z2, z3⟩ (fun hHeld1 => ?_)
 clear hK K hHeld0 z0 z1 z2 z3
 (try simp only [Act.put, zA, zB, zC])
 have k_q := HQ.out.keep hq
 have tl := HBL.out.trans ((hq).mono HBL.out.size)
 clear HBL HQ
 clear q_0 q_f0 q_1 q_f1 q_2 q_f2 q_3 q_f3
 obtain ⟨q_0, q_f0, q_1, q_f1, q_2, q_f2, q_3, q_f3⟩ := k_q.f4
 have HQ := zh k_q; clear k_q
 have HBL := zh tl; clear tl
 clear hq
 have hcc := HCN.out va2 m2 vc2 _ HM2.out hv6
 have HCC := zh hcc; clear hcc
 clear hv6
 refine zR 4 (h := fun K hK => ?_)
 go_simp
 go_at_call 28
 refine (HCC.out).mono ?_
 rintro e w24 ⟨hq, rfl⟩
 dsimp only
 have z0 := zK hq HQ.out.lt hHeld1.1
 have z1 := zK hq HQ.out.lt hHeld1.2.1
 have z2 := zK hq HQ.out.lt hHeld1.2.2.1
 have z3 := zK hq HQ.out.lt hHeld1.2.2.2
 refine hK.out _ _ ⟨z0, z1, z2, z3⟩ (fun hHeld2 => ?_)
 clear hK K hHeld1 z0 z1 z2 z3
 (try simp only [Act.put, zA, zB, zC])
 have k_q := HQ.out.keep hq
 have tl := HBL.out.trans ((hq).mono HBL.out.size)
 clear HBL HQ
 clear q_0 q_f0 q_1 q_f1 q_2 q_f2 q_3 q_f3
 obtain ⟨q_0, q_f0, q_1, q_f1, q_2, q_f2, q_3, q_f3⟩ := k_q.f4
 have HQ := zh k_q; clear k_q
 have HBL := zh tl; clear tl
 clear hq
 refine zT 5 (h := ?_)
 (try simp only [Act.put, zA, zB, zC])
 refine zT 6 (h := ?_)
 (try simp only [Act.put, zA, zB, zC])
 refine wpAnyH_done (by kernel_rfl) ?_ _
 (try simp only [List.getElem_toArray, List.getElem_cons_zero, List.getElem_cons_succ, Act.put, zA, zB, zC])
 go_wp2_with fail
 refine bodyPost_ret (v := .tuple #[.int .i64 N, .int .i64 0]) (by simp [results, Try.results11, go_sem]) rfl ⟨HBL.out, rfl⟩
end Go.Proofs.Ytjpalbonclgflaa

/- Contracts and plain laws of several functions, one after the other: StT, SizR, LwC, MulP, KnoP. -/
import Derived.Test.YtjpalbonclgflaaRfn
import Derived.Test.YtjpalbonclgflaaPart5
import Derived.Test.YtjpalbonclgflaaPart16
import Derived.Test.YtjpalbonclgflaaPart2
import Derived.Test.YtjpalbonclgflaaStR
import Derived.Test.YtjpalbonclgflaaAwk5
/- sturm.Count at canonical numbers (printed by gen_cnt6.py). -/
namespace Go.Proofs.Ytjpalbonclgflaa
open Go.RowKit

set_option maxRecDepth 100000 in
set_option maxHeartbeats 6400000 in
theorem sCount_ok (l : List Int) (v : Value) (a b : Rat) (w : World) (M K : Nat) (hr : Row w v l.length (civ l)) (hf : AFine l M) (hK : K ≤ 1000000000) (ha : rs K a) (hb : rs K b) (hab : ¬ b < a) :
  Calls Try.prog 10 #[v, RatV a, RatV b] w (Ret w (.tuple #[.int .i64 ((chg (stmA l) a : Int) - (chg (stmA l) b : Int)), .int .i64 0])) := by
 show Calls Try.prog 10 #[v, .agg #[.bool (ineg a.num), .string (imag a.num), .bool (ineg (a.den : Int)), .string (imag (a.den : Int))], .agg #[.bool (ineg b.num), .string (imag b.num), .bool (ineg (b.den : Int)), .string (imag (b.den : Int))]] w _
 have hck := fun vq w' h1 h2 => scheck_any l v [rawOf a, rawOf b] vq w' h1 h2 hf.pos hf.len hf.small hf.ends (fun x hx => by
  simp only [List.mem_cons, List.mem_nil_iff, or_false] at hx
  rcases hx with rfl | rfl
  ·
   exact ⟨Nat.le_trans ha.1.size (by omega), Nat.le_trans ha.2.size (by omega)⟩
  ·
   exact ⟨Nat.le_trans hb.1.size (by omega), Nat.le_trans hb.2.size (by omega)⟩)
 have hodd : oddQ [rawOf a, rawOf b] = false := by simp [oddQ, cqB_rawOf]
 rw [hodd] at hck
 simp only [Bool.false_eq_true, if_false] at hck
 have hcr : crv [rawOf a, rawOf b] = [.bool (ineg a.num), .string (imag a.num), .bool (ineg (a.den : Int)), .string (imag (a.den : Int)), .bool (ineg b.num), .string (imag b.num), .bool (ineg (b.den : Int)), .string (imag (b.den : Int))] := rfl
 rw [hcr] at hck
 have hal := fun w' h => sall_any l v w' M h hf
 have hc1 := fun w' => qcompare_any (ineg a.num) (ineg (a.den : Int)) (imag a.num) (imag (a.den : Int)) (ineg b.num) (ineg (b.den : Int)) (imag b.num) (imag (b.den : Int)) w' (Nat.le_trans ha.1.size (by omega)) (Nat.le_trans ha.2.size (by omega)) (Nat.le_trans hb.1.size (by omega)) (Nat.le_trans hb.2.size (by omega))
 simp only [ival_canon, Rat.num_divInt_den] at hc1
 obtain ⟨c, hc⟩ : ∃ c : Int, c = if a < b then -1 else if a = b then 0 else 1 := ⟨_, rfl⟩
 have hc0 : decide (0 < c) = false := decide_eq_false (by
  rw [hc]
  by_cases h1 : a < b
  ·
   rw [if_pos h1]; decide
  ·
   rw [if_neg h1, if_pos (Rat.le_antisymm (Rat.not_lt.1 hab) (Rat.not_lt.1 h1))]; decide)
 rw [← hc] at hc1
 have hrz : ∀ p ∈ stmA l, p.length ≤ 65 ∧ ∀ x ∈ p, zs M x := fun p hp => ⟨stmA_len hf p hp, hf.c p hp⟩
 have hrl := hf.sl
 have hM2 : M ≤ 1000000000 := by have := hf.hM; omega
 have hcn : ∀ va n vc w', n = (stmA l).length → Tab w' (.slice va n vc) (stmA l) → Calls Try.prog 28 #[.slice va n vc, .agg #[.bool (ineg a.num), .string (imag a.num), .bool (ineg (a.den : Int)), .string (imag (a.den : Int))], .agg #[.bool (ineg b.num), .string (imag b.num), .bool (ineg (b.den : Int)), .string (imag (b.den : Int))]] w' (Ret w' (.int .i64 ((chg (stmA l) a : Int) - (chg (stmA l) b : Int)))) := fun va n vc w' hn h => by
  have h2 := scount_any (stmA l) (.slice va n vc) (ineg a.num) (ineg (a.den : Int)) (imag a.num) (imag (a.den : Int)) (ineg b.num) (ineg (b.den : Int)) (imag b.num) (imag (b.den : Int)) w' M h hrl hrz hM2 (Nat.le_trans ha.1.size hK) (Nat.le_trans ha.2.size hK) (Nat.le_trans hb.1.size hK) (Nat.le_trans hb.2.size hK)
  simp only [ival_canon, Rat.num_divInt_den] at h2
  exact h2
 obtain ⟨N, hN⟩ : ∃ N : Int, N = (chg (stmA l) a : Int) - (chg (stmA l) b : Int) := ⟨_, rfl⟩
 simp only [← hN] at hcn
 rw [← hN]
 obtain ⟨rows, hrows⟩ : ∃ R, R = stmA l := ⟨_, rfl⟩
 rw [← hrows] at hal
 simp only [← hrows] at hcn
 obtain ⟨va, vc, rfl, -⟩ := hr.slice
 obtain ⟨n, hn⟩ : ∃ n, n = l.length := ⟨_, rfl⟩
 rw [← hn] at hr hck hal ⊢
 unfold AllRet at hal
 have HRW := zh hr; clear hr
 have HCK := zh hck; clear hck
 have HAL := zh hal; clear hal
 have HC1 := zh hc1; clear hc1
 have HCN := zh hcn; clear hcn
 clear hf hrows hn ha hb hab hodd hcr hrz hrl hN hc
 obtain ⟨w4, hw4⟩ : ∃ w4, w4 = (w.alloc (.cells #[.bool (ineg a.num), .string (imag a.num), .bool (ineg (a.den : Int)), .string (imag (a.den : Int))] 35)).alloc (.cells #[.bool (ineg b.num), .string (imag b.num), .bool (ineg (b.den : Int)), .string (imag (b.den : Int))] 35) := ⟨_, rfl⟩
 have k_a : Blk w4 (w.heap.size) 35 [.bool (ineg a.num), .string (imag a.num), .bool (ineg (a.den : Int)), .string (imag (a.den : Int))] := by
  rw [hw4]
  have h := ((Blk.new (w) 35 [.bool (ineg a.num), .string (imag a.num), .bool (ineg (a.den : Int)), .string (imag (a.den : Int))]).alloc (.cells #[.bool (ineg b.num), .string (imag b.num), .bool (ineg (b.den : Int)), .string (imag (b.den : Int))] 35))
  (try simp only [World.size_alloc, Nat.add_assoc, Nat.reduceAdd] at h)
  exact h
 have k_b : Blk w4 (w.heap.size + 1) 35 [.bool (ineg b.num), .string (imag b.num), .bool (ineg (b.den : Int)), .string (imag (b.den : Int))] := by
  rw [hw4]
  have h := (Blk.new (w.alloc (.cells #[.bool (ineg a.num), .string (imag a.num), .bool (ineg (a.den : Int)), .string (imag (a.den : Int))] 35)) 35 [.bool (ineg b.num), .string (imag b.num), .bool (ineg (b.den : Int)), .string (imag (b.den : Int))])
  (try simp only [World.size_alloc, Nat.add_assoc, Nat.reduceAdd] at h)
  exact h
 have tl : Below w.heap.size w w4 := by
  rw [hw4]
  exact (((Below.refl w.heap.size w).alloc (by simp <;> omega) (.cells #[.bool (ineg a.num), .string (imag a.num), .bool (ineg (a.den : Int)), .string (imag (a.den : Int))] 35)).alloc (by simp <;> omega) (.cells #[.bool (ineg b.num), .string (imag b.num), .bool (ineg (b.den : Int)), .string (imag (b.den : Int))] 35))
 have hs4 : w4.heap.size = w.heap.size + 2 := by rw [hw4]; simp only [World.size_alloc]
 obtain ⟨a_0, a_f0, a_1, a_f1, a_2, a_f2, a_3, a_f3⟩ := k_a.f4
 have HA := zh k_a; clear k_a
 obtain ⟨b_0, b_f0, b_1, b_f1, b_2, b_f2, b_3, b_f3⟩ := k_b.f4
 have HB := zh k_b; clear k_b
 have HBL := zh tl; clear tl
 go_enter Try.func10, Try.ntmps10
 go_upto_region 1 with fail
 (try rw [← hw4])
 clear hw4
 (try simp only [Nat.add_assoc, Nat.reduceAdd])
 go_wp2_with fail
 have hal4 : Below w4.heap.size w4 (w4.alloc (.cells #[.bool (ineg a.num), .string (imag a.num), .bool (ineg (a.den : Int)), .string (imag (a.den : Int)), .bool (ineg b.num), .string (imag b.num), .bool (ineg (b.den : Int)), .string (imag (b.den : Int))] 35)) := (Below.refl _ _).alloc (Nat.le_refl _) _
 have hrq : Row (w4.alloc (.cells #[.bool (ineg a.num), .string (imag a.num), .bool (ineg (a.den : Int)), .string (imag (a.den : Int)), .bool (ineg b.num), .string (imag b.num), .bool (ineg (b.den : Int)), .string (imag (b.den : Int))] 35)) (.slice (some ⟨w4.heap.size, 0, none⟩) 2 2) 2 [.bool (ineg a.num), .string (imag a.num), .bool (ineg (a.den : Int)), .string (imag (a.den : Int)), .bool (ineg b.num), .string (imag b.num), .bool (ineg (b.den : Int)), .string (imag (b.den : Int))] := Row.ofBlk (Blk.new w4 35 [.bool (ineg a.num), .string (imag a.num), .bool (ineg (a.den : Int)), .string (imag (a.den : Int)), .bool (ineg b.num), .string (imag b.num), .bool (ineg (b.den : Int)), .string (imag (b.den : Int))]) (m := 2) (cap := 2) (Nat.le_refl _) (by unfold maxLen; omega) 8
 rw [hs4] at hrq
 have k_a := HA.out.keep hal4
 have k_b := HB.out.keep hal4
 have tl := HBL.out.trans ((hal4).mono HBL.out.size)
 clear HBL HA HB
 clear a_0 a_f0 a_1 a_f1 a_2 a_f2 a_3 a_f3
 obtain ⟨a_0, a_f0, a_1, a_f1, a_2, a_f2, a_3, a_f3⟩ := k_a.f4
 have HA := zh k_a; clear k_a
 clear b_0 b_f0 b_1 b_f1 b_2 b_f2 b_3 b_f3
 obtain ⟨b_0, b_f0, b_1, b_f1, b_2, b_f2, b_3, b_f3⟩ := k_b.f4
 have HB := zh k_b; clear k_b
 have HBL := zh tl; clear tl
 clear hal4
 have hck := HCK.out _ _ (HRW.out.below HBL.out (Nat.le_refl _)) hrq
 have HCK1 := zh hck; clear hck
 clear hrq
 refine (HCK1.out).mono ?_
 rintro e w5 ⟨hq, rfl⟩
 dsimp only
 have k_a := HA.out.keep hq
 have k_b := HB.out.keep hq
 have tl := HBL.out.trans ((hq).mono HBL.out.size)
 clear HBL HA HB
 clear a_0 a_f0 a_1 a_f1 a_2 a_f2 a_3 a_f3
 obtain ⟨a_0, a_f0, a_1, a_f1, a_2, a_f2, a_3, a_f3⟩ := k_a.f4
 have HA := zh k_a; clear k_a
 clear b_0 b_f0 b_1 b_f1 b_2 b_f2 b_3 b_f3
 obtain ⟨b_0, b_f0, b_1, b_f1, b_2, b_f2, b_3, b_f3⟩ := k_b.f4
 have HB := zh k_b; clear k_b
 have HBL := zh tl; clear tl
 clear hq
 go_wp2_with fail
 refine (HC1.out _).mono ?_
 rintro e w6 ⟨hq, rfl⟩
 dsimp only
 have k_a := HA.out.keep hq
 have k_b := HB.out.keep hq
 have tl := HBL.out.trans ((hq).mono HBL.out.size)
 clear HBL HA HB
 clear a_0 a_f0 a_1 a_f1 a_2 a_f2 a_3 a_f3
 obtain ⟨a_0, a_f0, a_1, a_f1, a_2, a_f2, a_3, a_f3⟩ := k_a.f4
 have HA := zh k_a; clear k_a
 clear b_0 b_f0 b_1 b_f1 b_2 b_f2 b_3 b_f3
 obtain ⟨b_0, b_f0, b_1, b_f1, b_2, b_f2, b_3, b_f3⟩ := k_b.f4
 have HB := zh k_b; clear k_b
 have HBL := zh tl; clear tl
 clear hq
 have ha := HAL.out _ (HRW.out.below HBL.out (Nat.le_refl _))
 have HAL1 := zh ha; clear ha
 go_wp2_with fail
 refine (HAL1.out).mono ?_
 rintro e w7 ⟨hq, vt, rfl, hvt⟩
 dsimp only
 have k_a := HA.out.keep hq
 have k_b := HB.out.keep hq
 have tl := HBL.out.trans ((hq).mono HBL.out.size)
 clear HBL HA HB
 clear a_0 a_f0 a_1 a_f1 a_2 a_f2 a_3 a_f3
 obtain ⟨a_0, a_f0, a_1, a_f1, a_2, a_f2, a_3, a_f3⟩ := k_a.f4
 have HA := zh k_a; clear k_a
 clear b_0 b_f0 b_1 b_f1 b_2 b_f2 b_3 b_f3
 obtain ⟨b_0, b_f0, b_1, b_f1, b_2, b_f2, b_3, b_f3⟩ := k_b.f4
 have HB := zh k_b; clear k_b
 have HBL := zh tl; clear tl
 clear hq
 obtain ⟨m2, hm2⟩ : ∃ n, n = rows.length := ⟨_, rfl⟩
 obtain ⟨va2, vc2, rfl⟩ : ∃ a c, vt = .slice a m2 c := by
  obtain ⟨rvs, -, hrow, -⟩ := id hvt
  obtain ⟨a, c, h, -⟩ := hrow.slice
  exact ⟨a, c, by rw [hm2]; exact h⟩
 have hcc := HCN.out va2 m2 vc2 _ hm2 hvt
 have HCC := zh hcc; clear hcc
 clear hvt hm2
 go_wp2_with fail
 refine (HCC.out).mono ?_
 rintro e w8 ⟨hq, rfl⟩
 dsimp only
 have k_a := HA.out.keep hq
 have k_b := HB.out.keep hq
 have tl := HBL.out.trans ((hq).mono HBL.out.size)
 clear HBL HA HB
 clear a_0 a_f0 a_1 a_f1 a_2 a_f2 a_3 a_f3
 obtain ⟨a_0, a_f0, a_1, a_f1, a_2, a_f2, a_3, a_f3⟩ := k_a.f4
 have HA := zh k_a; clear k_a
 clear b_0 b_f0 b_1 b_f1 b_2 b_f2 b_3 b_f3
 obtain ⟨b_0, b_f0, b_1, b_f1, b_2, b_f2, b_3, b_f3⟩ := k_b.f4
 have HB := zh k_b; clear k_b
 have HBL := zh tl; clear tl
 clear hq
 go_wp2_with fail
 refine bodyPost_ret (v := .tuple #[.int .i64 N, .int .i64 0]) (by simp [results, Try.results10, go_sem]) rfl ⟨HBL.out, rfl⟩
end Go.Proofs.Ytjpalbonclgflaa

/- What sturm.all meets at a polynomial of at most eight coefficients of three bytes is not too large: plain. -/
namespace Go.Proofs.Ytjpalbonclgflaa

theorem chn_length : ∀ (n : Nat) (p q : List Int), (chn n p q).length ≤ n
 | 0, _, _ => Nat.le_refl _
 | n + 1, p, q =>
  by
  by_cases h : q.length = 0
  ·
   rw [chn_nil h]; simp
  ·
   rw [chn_step h]; have := chn_length n q (red (pdv p q).2 (sgS p q)); simp; omega
theorem chn_siz {A L : Nat} : ∀ (n : Nat) (p q : List Int) (s : Nat), q.length < p.length → p.length ≤ L → (∀ x ∈ p, zs s x) → (∀ x ∈ q, zs s x) → s + 1 ≤ A * 3 ^ (L - p.length) → ∀ r ∈ chn n p q, ∀ x ∈ r, zs (A * 3 ^ (L - 2)) x
 | 0, _, _, _ => fun _ _ _ _ _ r hr => by cases hr
 | n + 1, p, q, s =>
  fun h1 h2 hp hq hs r hr => by
  by_cases h : q.length = 0
  ·
   rw [chn_nil h] at hr; cases hr
  ·
   rw [chn_step h] at hr
   rcases List.mem_cons.1 hr with rfl | hr
   ·
    intro x hx
    have : A * 3 ^ (L - p.length) ≤ A * 3 ^ (L - 2) := Nat.mul_le_mul_left _ (Nat.pow_le_pow_right (by decide) (by omega))
    exact (hq x hx).mono (by omega)
   ·
    have hd := pow3_step (d := p.length - q.length + 1) (by omega)
    have hz := (pdv_zs (a := p) (b := q) hp hq).2
    refine chn_siz n q _ (s + (p.length - q.length + 1) * (s + 1)) (chn_less _ h) (by omega) (fun x hx => (hq x hx).mono (Nat.le_add_right _ _)) (red_zs hz) ?_ r hr
    have e1 : L - q.length = (L - p.length) + (p.length - q.length + 1 - 1) := by omega
    rw [e1, Nat.pow_add, ← Nat.mul_assoc]
    calc s + (p.length - q.length + 1) * (s + 1) + 1 = (s + 1) * (1 + (p.length - q.length + 1)) := by grind
     _ ≤ (A * 3 ^ (L - p.length)) * 3 ^ (p.length - q.length + 1 - 1) := Nat.mul_le_mul hs hd
theorem stm_siz {f : List Int} {t : Nat} (h0 : 0 < f.length) (h7 : f.length ≤ 1000) (hz : ∀ x ∈ f, zs t x) {M : Nat} (hM : (t + 3) * 3 ^ (f.length - 2) ≤ M) : ∀ r ∈ stm f, ∀ x ∈ r, zs M x := by
 intro r hr
 have hd := red_zs (s := 1) (der_sized h7 hz)
 unfold stm at hr
 have ht : t ≤ (t + 3) * 3 ^ (f.length - 2) := by
  have : 1 ≤ 3 ^ (f.length - 2) := Nat.pow_pos (by decide)
  have := Nat.mul_le_mul_left (t + 3) this
  omega
 rcases List.mem_cons.1 hr with rfl | hr
 ·
  exact fun x hx => (hz x hx).mono (by omega)
 ·
  split at hr
  ·
   cases hr
  ·
   intro x hx
   have hl : (red (der f) 1).length < f.length := Nat.lt_of_le_of_lt (red_len _ _) (by rw [der_length]; omega)
   exact (chn_siz (A := t + 3) (L := f.length) f.length f _ (t + 2) hl (Nat.le_refl _) (fun x hx => (hz x hx).mono (by omega)) hd (by rw [Nat.sub_self]; simp) r hr x hx).mono hM
theorem gcd_siz {l : List Int} {L m : Nat} (h8 : l.length ≤ L) (hL : L ≤ 8) (h0 : 0 < l.length) (hz : ∀ x ∈ l, zs m x) : SizS (m + 3) L (prm l, prm (der l)) := by
 have hd := prm_zs (der_sized (by omega) hz)
 have hp := prm_zs hz
 have hk : ∀ k, m + 3 ≤ (m + 3) * 3 ^ (L - k) := fun k => by
  have h1 : 1 ≤ 3 ^ (L - k) := Nat.pow_pos (by decide)
  have := Nat.mul_le_mul_left (m + 3) h1
  omega
 by_cases h : (der l).length = 0
 ·
  exact .inl ⟨by show (prm _).length = 0; rw [prm_length]; exact h, m, hp, Nat.le_trans (by omega) (hk _)⟩
 ·
  refine .inr ⟨?_, ?_, ?_, m + 2, fun x hx => (hp x hx).mono (by omega), hd, hk _⟩
  ·
   show (prm _).length ≠ (prm _).length
   rw [prm_length, prm_length, der_length]; omega
  ·
   show (prm _).length ≤ L
   rw [prm_length]; exact h8
  ·
   show (prm _).length ≤ L
   rw [prm_length, der_length]; omega
theorem gcd_facts {l : List Int} {L m : Nat} (h8 : l.length ≤ L) (hL : L ≤ 8) (h0 : 0 < l.length) (hz : ∀ x ∈ l, zs m x) (he : Ends l) :
  Ends (gcdP l (der l)) ∧ 0 < (gcdP l (der l)).length ∧ (gcdP l (der l)).length ≤ l.length ∧ ((gcdP l (der l)).length = 1 → gcdP l (der l) = [1]) ∧ ∃ s, (∀ x ∈ gcdP l (der l), zs s x) ∧ s + 1 ≤ (m + 3) * 3 ^ (L - (gcdP l (der l)).length) := by
 have hs := gsts_siz (gcd_siz h8 hL h0 hz) (prm (der l)).length
 have h2 : (gsts (prm l, prm (der l)) (prm (der l)).length).2.length = 0 := by have := gsts_len (prm l, prm (der l)) (prm (der l)).length; simp only at this; omega
 have hen := gsts_ends (p := (prm l, prm (der l))) (prm_ends he) (prm_ends (der_ends he)) (prm (der l)).length
 have hpo := gsts_pos (p := (prm l, prm (der l))) (by show 0 < (prm l).length; rw [prm_length]; exact h0) (prm (der l)).length
 have hle := gsts_lens (p := (prm l, prm (der l))) (L := l.length) (by show (prm l).length ≤ _; rw [prm_length]; exact Nat.le_refl _) (by show (prm _).length ≤ _; rw [prm_length, der_length]; omega) (prm (der l)).length
 have hpr := gsts_prm (p := (prm l, prm (der l))) ⟨_, rfl, he⟩ ⟨_, rfl, der_ends he⟩ (prm_ends he) (prm_ends (der_ends he)) (prm (der l)).length
 have hg : gcdP l (der l) = (gsts (prm l, prm (der l)) (prm (der l)).length).1 := rfl
 rw [hg]
 refine ⟨hen.1, hpo, hle.1, fun h => hpr.1.one h, ?_⟩
 rcases hs with ⟨-, s, h3, h4⟩ | ⟨-, -, -, s, h3, -, h4⟩
 ·
  exact ⟨s, h3, h4⟩
 ·
  refine ⟨s, h3, ?_⟩
  rw [h2, Nat.max_eq_left (Nat.zero_le _)] at h4
  exact h4
theorem sqf_siz {l : List Int} {L m M : Nat} (h8 : l.length ≤ L) (hL : L ≤ 8) (hL3 : 3 ≤ L) (h0 : 0 < l.length) (hz : ∀ x ∈ l, zs m x) (he : Ends l) (hM1 : ((m + 3) + (L - 1) * ((m + 3) * 3 ^ (L - 2))) * 3 ^ (L - 3) ≤ M) (hM2 : (m + 2 * L + 3) * 3 ^ (L - 2) ≤ M) :
  0 < (sqf l).length ∧ ∃ t, (∀ x ∈ sqf l, zs t x) ∧ (t + 3) * 3 ^ ((sqf l).length - 2) ≤ M := by
 obtain ⟨g1, g2, g3, g4, s, g5, g6⟩ := gcd_facts h8 hL h0 hz he
 have hq := pdv_q_pos he g1 g2 g3
 have hl1 := pdv_len1 l (gcdP l (der l))
 have hsz := (pdv_zs (a := l) (b := gcdP l (der l)) hz g5).1
 refine ⟨by unfold sqf; rw [prm_length]; exact hq, ?_⟩
 have hsl : (sqf l).length = (pdv l (gcdP l (der l))).1.length := by unfold sqf; rw [prm_length]
 rw [hsl]
 rcases Nat.lt_or_ge 1 (gcdP l (der l)).length with hj | hj
 ·
  refine ⟨_, prm_zs hsz, ?_⟩
  have h1 : (m + 3) * 3 ^ (L - (gcdP l (der l)).length) ≤ (m + 3) * 3 ^ (L - 2) := Nat.mul_le_mul_left _ (Nat.pow_le_pow_right (by decide) (by omega))
  have h2 : (l.length - (gcdP l (der l)).length + 1) * (s + 1) ≤ (L - 1) * ((m + 3) * 3 ^ (L - 2)) := Nat.mul_le_mul (by omega) (by omega)
  have h3 : 3 ^ ((pdv l (gcdP l (der l))).1.length - 2) ≤ 3 ^ (L - 3) := Nat.pow_le_pow_right (by decide) (by omega)
  exact Nat.le_trans (Nat.mul_le_mul (by omega) h3) hM1
 ·
  have hg := g4 (by omega)
  rw [hg] at hsz hl1 ⊢
  have hsz := (pdv_zs (a := l) (b := [1]) (k := 1) hz (by intro x hx; simp at hx; subst hx; exact zs_nat 1 1 (by decide))).1
  have hf : sqf l = prm (pdv l [1]).1 := by unfold sqf; rw [hg]
  have h11 : [(1 : Int)].length = 1 := rfl
  rw [h11] at hl1 hsz
  have h3 : 3 ^ ((pdv l [1]).1.length - 2) ≤ 3 ^ (L - 2) := Nat.pow_le_pow_right (by decide) (by omega)
  refine ⟨m + 2 * L, fun x hx => (prm_zs hsz x (by rw [← hf]; exact hx)).mono (by omega), ?_⟩
  exact Nat.le_trans (Nat.mul_le_mul_left _ h3) hM2
theorem afine_gen {l : List Int} {L m M : Nat} (h8 : l.length ≤ L) (hL : L ≤ 8) (hL3 : 3 ≤ L) (h0 : 0 < l.length) (hz : ∀ x ∈ l, zs m x) (he : Ends l) (hM1 : ((m + 3) + (L - 1) * ((m + 3) * 3 ^ (L - 2))) * 3 ^ (L - 3) ≤ M) (hM2 : (m + 2 * L + 3) * 3 ^ (L - 2) ≤ M) (hM3 : (m + 3) * 3 ^ (L - 1) ≤ M) (hM : M ≤ 90000000) : AFine l M := by
 obtain ⟨q1, t, q2, q3⟩ := sqf_siz h8 hL hL3 h0 hz he hM1 hM2
 have hlen := sqf_len h0
 have hmM : m + 2 ≤ M := by
  have h1 : 1 ≤ 3 ^ (L - 1) := Nat.pow_pos (by decide)
  have := Nat.mul_le_mul_left (m + 3) h1
  omega
 exact {
  len := by omega
  pos := h0
  ends := he
  hM := hM
  z := fun x hx => (hz x hx).mono (by omega)
  zd := fun x hx => (der_sized (by omega) hz x hx).mono hmM
  g := (gcd_siz h8 hL h0 hz).fine (by show 0 < (prm l).length; rw [prm_length]; exact h0) (by omega)
  c := stm_siz q1 (by omega) q2 q3
  sl := by
   unfold stmA stm
   split
   ·
    simp
   ·
    have := chn_length (sqf l).length (sqf l) (red (der (sqf l)) 1)
    simp only [List.length_cons]
    omega
  sp := q1 }
end Go.Proofs.Ytjpalbonclgflaa

/- The laws of group 05: rational numbers in their canonical form, lists of intervals. -/
namespace Go.Proofs.Ytjpalbonclgflaa
open Go.RowKit

def cmpq (a b : Rat) : Int := if a < b then -1 else if a = b then 0 else 1
theorem cmpq_le {a b : Rat} (h : a ≤ b) : decide (0 < cmpq a b) = false ∧ decide (cmpq a b ≤ 0) = true := by
 unfold cmpq
 by_cases h1 : a < b
 ·
  rw [if_pos h1]; decide
 ·
  rw [if_neg h1, if_pos (Rat.le_antisymm h (Rat.not_lt.1 h1))]; decide
theorem cmpq_lt {a b : Rat} (h : a < b) : decide (0 ≤ cmpq a b) = false ∧ decide (cmpq a b < 0) = true := by
 unfold cmpq
 rw [if_pos h]; decide
theorem qcmp_ok (a b : Rat) (w : World) (K : Nat) (hK : K ≤ 20000000000) (ha : rs K a) (hb : rs K b) : Calls Try.prog 9 #[RatV a, RatV b] w (Ret w (.int .i64 (cmpq a b))) := by
 have h := qcompare_any (ineg a.num) (ineg (a.den : Int)) (imag a.num) (imag (a.den : Int)) (ineg b.num) (ineg (b.den : Int)) (imag b.num) (imag (b.den : Int)) w (Nat.le_trans ha.1.size hK) (Nat.le_trans ha.2.size hK) (Nat.le_trans hb.1.size hK) (Nat.le_trans hb.2.size hK)
 simp only [ival_canon, Rat.num_divInt_den] at h
 exact h
theorem count_ok (l : List Int) (v : Value) (a b : Rat) (w : World) (M K : Nat) (hr : Row w v l.length (civ l)) (hf : AFine l M) (hK : K ≤ 1000000000) (ha : rs K a) (hb : rs K b) (hab : a ≤ b) :
  Calls Try.prog 10 #[v, RatV a, RatV b] w (Ret w (.tuple #[.int .i64 (T.Nn l a b), .int .i64 0])) := sCount_ok l v a b w M K hr hf hK ha hb (Rat.not_lt.2 hab)
end Go.Proofs.Ytjpalbonclgflaa

/- The product of polynomials, as the program makes it: plain. -/
namespace Go.Proofs.Ytjpalbonclgflaa

def inn (x : Int) (b : List Int) (i : Nat) (O : List Int) : Nat → List Int
 | 0 => O
 | j + 1 => (inn x b i O j).set (i + j) ((inn x b i O j).getD (i + j) 0 + x * b.getD j 0)
def mulO (a b : List Int) : Nat → List Int
 | 0 => List.replicate (a.length + b.length - 1) 0
 | i + 1 => inn (a.getD i 0) b i (mulO a b i) b.length
def mulL (a b : List Int) : List Int := tzI (mulO a b a.length)
theorem inn_length (x : Int) (b : List Int) (i : Nat) (O : List Int) : ∀ j, (inn x b i O j).length = O.length
 | 0 => rfl
 | j + 1 => by rw [inn, List.length_set]; exact inn_length x b i O j
theorem mulO_length (a b : List Int) : ∀ i, (mulO a b i).length = a.length + b.length - 1
 | 0 => by rw [mulO, List.length_replicate]
 | i + 1 => by rw [mulO, inn_length]; exact mulO_length a b i
theorem inn_rest (x : Int) (b : List Int) (i : Nat) (O : List Int) : ∀ j k, i + j ≤ k → (inn x b i O j).getD k 0 = O.getD k 0
 | 0, _, _ => rfl
 | j + 1, k, h => by rw [inn, getD_set_ne (by omega)]; exact inn_rest x b i O j k (by omega)
theorem inn_zs {x : Int} {b : List Int} {i : Nat} {O : List Int} {s ma mb : Nat} (hO : ∀ y ∈ O, zs s y) (hx : zs ma x) (hb : ∀ y ∈ b, zs mb y) (hs : ma + mb ≤ s) : ∀ j, ∀ y ∈ inn x b i O j, zs (s + 1) y
 | 0 => fun y hy => (hO y hy).mono (by omega)
 | j + 1 =>
  fun y hy => by
  rw [inn] at hy
  rcases List.mem_or_eq_of_mem_set hy with h | rfl
  ·
   exact inn_zs hO hx hb hs j y h
  ·
   rw [inn_rest x b i O j (i + j) (Nat.le_refl _)]
   exact (getD_zs hO _).add ((hx.mul (getD_zs hb _)).mono hs)
theorem mulO_zs {a b : List Int} {ma mb : Nat} (ha : ∀ y ∈ a, zs ma y) (hb : ∀ y ∈ b, zs mb y) : ∀ i, ∀ y ∈ mulO a b i, zs (ma + mb + i) y
 | 0 =>
  fun y hy => by
  rw [mulO] at hy
  rw [List.eq_of_mem_replicate hy]
  exact zs_nat 0 _ (Nat.pow_pos (by decide))
 | i + 1 =>
  fun y hy => by
  rw [mulO] at hy
  exact inn_zs (mulO_zs ha hb i) (getD_zs ha i) hb (by omega) _ y hy
theorem mulL_zs {a b : List Int} {ma mb : Nat} (ha : ∀ y ∈ a, zs ma y) (hb : ∀ y ∈ b, zs mb y) : ∀ y ∈ mulL a b, zs (ma + mb + a.length) y := fun y hy => mulO_zs ha hb _ y (tzI_mem hy)
theorem mulL_len (a b : List Int) : (mulL a b).length ≤ a.length + b.length - 1 := by
 have h := tzI_len (mulO a b a.length)
 rw [mulO_length] at h
 exact h
theorem mulL_ends (a b : List Int) : Ends (mulL a b) := tzI_ends _
namespace T
theorem evQ_take_succ (l : List Int) (j : Nat) (x : Rat) (h : j < l.length) : evQ (l.take (j + 1)) x = evQ (l.take j) x + cf l j * x ^ j := by
 have e : l.take (j + 1) = l.take j ++ [l.getD j 0] := by
  rw [List.take_add_one, List.getD, List.getElem?_eq_getElem h]; rfl
 rw [e, evQ_snoc, List.length_take, Nat.min_eq_left (Nat.le_of_lt h)]
 unfold cf
 grind
theorem inn_ev (X : Rat) (x : Int) (b : List Int) (i : Nat) (O : List Int) (h : i + b.length ≤ O.length) : ∀ j, j ≤ b.length → evQ (inn x b i O j) X = evQ O X + (x : Rat) * X ^ i * evQ (b.take j) X
 | 0, _ => by rw [inn, List.take_zero, evQ_nil]; grind
 | j + 1, hj =>
  by
  have ih := inn_ev X x b i O h j (by omega)
  rw [inn, evQ_set X _ (by rw [inn_length]; omega), ih, evQ_take_succ b j X (by omega), Rat.intCast_add, Rat.intCast_mul]
  unfold cf
  rw [powAdd]
  grind
theorem mulO_ev (X : Rat) (a b : List Int) : ∀ i, i ≤ a.length → evQ (mulO a b i) X = evQ (a.take i) X * evQ b X
 | 0, _ =>
  by
  have e : ∀ m, evQ (List.replicate m 0) X = 0 := fun m => by
   induction m with
   | zero => rfl
   | succ m ih => rw [List.replicate_succ, evQ_cons, ih]; show (0 : Rat) * X + 0 = 0; grind
  rw [mulO, e, List.take_zero, evQ_nil]; grind
 | i + 1, hi =>
  by
  have ih := mulO_ev X a b i (by omega)
  rw [mulO, inn_ev X _ b i _ (by rw [mulO_length]; omega) _ (Nat.le_refl _), List.take_of_length_le (Nat.le_refl _), ih, evQ_take_succ a i X (by omega)]
  unfold cf
  grind
theorem mulL_ev (a b : List Int) (X : Rat) : evQ (mulL a b) X = evQ a X * evQ b X := by
 unfold mulL
 rw [evQ_tz, mulO_ev X a b _ (Nat.le_refl _), List.take_of_length_le (Nat.le_refl _)]
theorem mulL_pos {a b : List Int} (ha : Ends a) (hb : Ends b) (ha0 : 0 < a.length) (hb0 : 0 < b.length) : 0 < (mulL a b).length := by
 rcases Nat.eq_zero_or_pos (mulL a b).length with h | h
 ·
  exfalso
  have h1 := (Ends.dg ha ha0).mul (Ends.dg hb hb0)
  exact h1.nz fun x => by rw [← mulL_ev, List.length_eq_zero_iff.1 h]; rfl
 ·
  exact h
end T
end Go.Proofs.Ytjpalbonclgflaa

/- A product of linear polynomials, as the law SturmKnown makes it: plain. -/
namespace Go.Proofs.Ytjpalbonclgflaa
namespace T
def linP (x : Int × Int) : List Int := [-x.1, x.2]
def knP (l : List (Int × Int)) : List Int := l.foldl (fun p x => mulL p (linP x)) [1]
def knL (l : List (Int × Int)) : List Rat := l.foldl (fun L x => if Rat.divInt x.1 x.2 ∈ L then L else L ++ [Rat.divInt x.1 x.2]) []
theorem knP_snoc (l : List (Int × Int)) (x : Int × Int) : knP (l ++ [x]) = mulL (knP l) (linP x) := by simp [knP]
theorem knL_snoc (l : List (Int × Int)) (x : Int × Int) : knL (l ++ [x]) = if Rat.divInt x.1 x.2 ∈ knL l then knL l else knL l ++ [Rat.divInt x.1 x.2] := by unfold knL; rw [List.foldl_append]; rfl
theorem lin_append (L : List Rat) (r : Rat) (x : Rat) : lin (L ++ [r]) x = lin L x * (x - r) := by
 induction L with
 | nil => show (x - r) * 1 = 1 * (x - r); grind
 | cons s L ih => rw [List.cons_append, lin_cons, ih, lin_cons]; grind
theorem linP_ev {x : Int × Int} (h : 0 < x.2) (X : Rat) : evQ (linP x) X = (x.2 : Rat) * (X - Rat.divInt x.1 x.2) := by
 have hd : ((x.2 : Int) : Rat) ≠ 0 := castNe (by omega)
 have e : Rat.divInt x.1 x.2 * (x.2 : Rat) = x.1 := by rw [Rat.divInt_eq_div]; exact Rat.div_mul_cancel hd
 show ((0 : Rat) * X + (x.2 : Rat)) * X + ((-x.1 : Int) : Rat) = _
 rw [Rat.intCast_neg]
 grind
theorem linP_ends {x : Int × Int} (h : 0 < x.2) : Ends (linP x) := by
 intro k y hk
 have h2 := congrArg List.getLast? hk
 simp [linP] at h2
 omega
def knM : Nat → Nat
 | 0 => 1
 | k + 1 => knM k + 1 + (k + 1)
structure KnP (l : List (Int × Int)) : Prop where
 ends : Ends (knP l)
 pos : 0 < (knP l).length
 len : (knP l).length ≤ l.length + 1
 sz : ∀ x ∈ knP l, zs (knM l.length) x
 nd : (knL l).Nodup
 dv : Dd (lin (knL l)) (evQ (knP l))
 pw : ∃ m : Nat, Dd (evQ (knP l)) (fun x => lin (knL l) x ^ m)
 le : (knL l).length ≤ l.length
 mem : ∀ r ∈ knL l, ∃ x ∈ l, r = Rat.divInt x.1 x.2
theorem kn_ok (l : List (Int × Int)) (h : ∀ x ∈ l, -128 ≤ x.1 ∧ x.1 ≤ 127 ∧ 0 < x.2 ∧ x.2 ≤ 4) : KnP l := by
 induction hn : l.length generalizing l with
 | zero =>
  rw [List.length_eq_zero_iff.1 hn]
  exact ⟨fun k y hk => by
    have h2 := congrArg List.getLast? hk
    simp [knP] at h2
    omega, by decide, by decide, fun x hx => by simp [knP] at hx; subst hx; exact zs_nat 1 1 (by decide), List.nodup_nil, ⟨fun _ => 1, .const 1, fun x => by show ((0 : Rat) * x + ((1 : Int) : Rat)) = 1 * 1; have : ((1 : Int) : Rat) = 1 := rfl; rw [this]; grind⟩, ⟨0, fun _ => 1, .const 1, fun x => by show lin [] x ^ 0 = ((0 : Rat) * x + ((1 : Int) : Rat)) * 1; have : ((1 : Int) : Rat) = 1 := rfl; rw [this]; grind⟩, by decide, fun r hr => by simp [knL] at hr⟩
 | succ n ih =>
  rcases List.eq_nil_or_concat l with rfl | ⟨l0, x, rfl⟩
  ·
   cases hn
  ·
   rw [List.concat_eq_append] at *
   have h0 : l0.length = n := by simpa using hn
   have k := ih l0 (fun y hy => h y (by simp [hy])) h0
   obtain ⟨x1, x2, x3, x4⟩ := h x (by simp)
   have hle := linP_ends x3
   have hll : (linP x).length = 2 := rfl
   have hlz : ∀ y ∈ linP x, zs 1 y := fun y hy => by
    simp [linP] at hy
    show y.natAbs < 256 ^ 1
    omega
   have hev := linP_ev x3
   have hd : ((x.2 : Int) : Rat) ≠ 0 := castNe (by omega)
   have hi := Rat.mul_inv_cancel _ hd
   obtain ⟨r, hr⟩ : ∃ r, r = Rat.divInt x.1 x.2 := ⟨_, rfl⟩
   simp only [← hr] at hev
   have hlen := mulL_len (knP l0) (linP x)
   have hz := mulL_zs k.sz hlz
   have hp := mulL_pos k.ends hle k.pos (by rw [hll]; decide)
   have hmv := mulL_ev (knP l0) (linP x)
   have hl1 := k.len
   have hsz : ∀ y ∈ knP (l0 ++ [x]), zs (knM (l0 ++ [x]).length) y := fun y hy => by
    rw [knP_snoc] at hy
    rw [List.length_append, List.length_singleton]
    exact (hz y hy).mono (by show knM l0.length + 1 + _ ≤ knM l0.length + 1 + (l0.length + 1); omega)
   have hpr := lin_p (knL l0)
   obtain ⟨m, q, q1, q2⟩ := k.pw
   obtain ⟨u, u1, u2⟩ := k.dv
   have q2' : ∀ y, lin (knL l0) y ^ m = evQ (knP l0) y * q y := q2
   by_cases hin : r ∈ knL l0
   ·
    have hL : knL (l0 ++ [x]) = knL l0 := by rw [knL_snoc, ← hr, if_pos hin]
    obtain ⟨t, t1, t2⟩ := lin_dvd hin
    exact {
     ends := by rw [knP_snoc]; exact mulL_ends _ _
     pos := by rw [knP_snoc]; exact hp
     len := by rw [knP_snoc, List.length_append, List.length_singleton]; omega
     sz := hsz
     nd := by rw [hL]; exact k.nd
     dv := by
      rw [hL, knP_snoc]
      exact ⟨fun y => u y * evQ (linP x) y, u1.mul (evQ_p _), fun y => by rw [hmv, u2 y]; grind⟩
     pw := by
      rw [hL, knP_snoc]
      refine ⟨m + 1, fun y => q y * ((x.2 : Rat)⁻¹ * t y), q1.mul ((P.const _).mul t1), fun y => ?_⟩
      have e1 := q2' y
      have e2 := t2 y
      have e3 := hev y
      show lin (knL l0) y ^ (m + 1) = _
      rw [Rat.pow_succ, e1, hmv, e3]
      have e4 : lin (knL l0) y = (y - r) * t y := e2
      rw [e4]
      grind
     le := by rw [hL, List.length_append]; have := k.le; omega
     mem := by
      rw [hL]
      intro s hs
      obtain ⟨y, hy, e⟩ := k.mem s hs
      exact ⟨y, by simp [hy], e⟩ }
   ·
    have hL : knL (l0 ++ [x]) = knL l0 ++ [r] := by rw [knL_snoc, ← hr, if_neg hin]
    exact {
     ends := by rw [knP_snoc]; exact mulL_ends _ _
     pos := by rw [knP_snoc]; exact hp
     len := by rw [knP_snoc, List.length_append, List.length_singleton]; omega
     sz := hsz
     nd := by
      rw [hL]
      exact List.nodup_append.2 ⟨k.nd, by simp, fun a ha b hb => by simp at hb; subst hb; exact fun e => hin (e ▸ ha)⟩
     dv := by
      rw [hL, knP_snoc]
      exact ⟨fun y => u y * (x.2 : Rat), u1.mul (.const _), fun y => by rw [hmv, u2 y, hev, lin_append]; grind⟩
     pw := by
      rw [hL, knP_snoc]
      refine ⟨m + 1, fun y => q y * ((x.2 : Rat)⁻¹ * (lin (knL l0) y * (y - r) ^ m)), q1.mul ((P.const _).mul (hpr.mul ((P.id.sub (.const r)).pow m))), fun y => ?_⟩
      have e1 := q2' y
      have e3 := hev y
      have q4 : ∀ m : Nat, (lin (knL l0) y * (y - r)) ^ m = lin (knL l0) y ^ m * (y - r) ^ m := fun m => by
       induction m with
       | zero => grind
       | succ m ih => rw [Rat.pow_succ, ih, Rat.pow_succ, Rat.pow_succ]; grind
      show lin (knL l0 ++ [r]) y ^ (m + 1) = _
      rw [lin_append, Rat.pow_succ, q4, e1, hmv, e3]
      grind
     le := by rw [hL, List.length_append, List.length_append]; have := k.le; simp; omega
     mem := by
      rw [hL]
      intro s hs
      rcases List.mem_append.1 hs with hs | hs
      ·
       obtain ⟨y, hy, e⟩ := k.mem s hs
       exact ⟨y, by simp [hy], e⟩
      ·
       simp at hs
       exact ⟨x, by simp, by rw [hs, hr]⟩ }
theorem kn_fine {l : List (Int × Int)} (h : ∀ x ∈ l, -128 ≤ x.1 ∧ x.1 ≤ 127 ∧ 0 < x.2 ∧ x.2 ≤ 4) (h5 : l.length ≤ 5) : AFine (knP l) 40000000 := by
 have k := kn_ok l h
 have hl := k.len
 have hm : knM l.length ≤ 21 := by
  have : ∀ n, n ≤ 5 → knM n ≤ 21 := fun n hn => by
   rcases n with _ | _ | _ | _ | _ | _ | n <;> first | decide | omega
  exact this _ h5
 exact afine_gen (L := 8) (m := 21) (by omega) (by decide) (by decide) k.pos (fun x hx => (k.sz x hx).mono hm) k.ends (by decide) (by decide) (by decide) (by decide)
theorem cntL_filter (L : List Rat) {a b : Rat} (hab : a ≤ b) : cntL L a b = ((L.filter fun r => decide (a < r) && decide (r ≤ b)).length : Int) := by
 unfold cntL
 induction L with
 | nil => rfl
 | cons r L ih =>
  rw [List.map_cons, List.sum_cons, ih, List.filter_cons]
  by_cases h1 : a < r
  ·
   by_cases h2 : r ≤ b
   ·
    rw [if_pos h1, if_neg (by grind), if_pos (by simp [h1, h2]), List.length_cons]; omega
   ·
    rw [if_pos h1, if_pos (by grind), if_neg (by simp [h2])]; omega
  ·
   rw [if_neg h1, if_neg (by grind), if_neg (by simp [h1])]; omega
theorem known_count {l : List (Int × Int)} (h : ∀ x ∈ l, -128 ≤ x.1 ∧ x.1 ≤ 127 ∧ 0 < x.2 ∧ x.2 ≤ 4) (h5 : l.length ≤ 5) {a b : Rat} (hab : a ≤ b) : Nn (knP l) a b = (((knL l).filter fun r => decide (a < r) && decide (r ≤ b)).length : Int) := by
 have k := kn_ok l h
 rw [known (kn_fine h h5) k.nd k.dv k.pw hab, cntL_filter _ hab]
theorem lin_zero {L : List Rat} {r : Rat} (h : r ∈ L) : lin L r = 0 := by
 obtain ⟨q, _, q2⟩ := lin_dvd h
 rw [q2 r]; grind
theorem known_roots {l : List (Int × Int)} (h : ∀ x ∈ l, -128 ≤ x.1 ∧ x.1 ≤ 127 ∧ 0 < x.2 ∧ x.2 ≤ 4) (h5 : l.length ≤ 5) : Nn (knP l) (-(bnd (knP l) : Rat)) (bnd (knP l) : Rat) = ((knL l).length : Int) := by
 have k := kn_ok l h
 have hB : (0 : Rat) ≤ (bnd (knP l) : Rat) := Rat.natCast_le_natCast.2 (Nat.zero_le _)
 rw [known_count h h5 (by grind), List.filter_eq_self.2]
 intro r hr
 obtain ⟨u, _, u2⟩ := k.dv
 have h0 : evQ (knP l) r = 0 := by rw [u2 r, lin_zero hr]; grind
 have h1 := root_in k.ends k.pos h0
 simp only [Bool.and_eq_true, decide_eq_true_eq]
 exact ⟨h1.1, Rat.le_of_lt h1.2⟩
end T
end Go.Proofs.Ytjpalbonclgflaa


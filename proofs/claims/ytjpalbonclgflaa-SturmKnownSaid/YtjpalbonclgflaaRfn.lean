/- sturm.Refine, the way without errors (printed by gen_rfn.py). -/
import Derived.Test.YtjpalbonclgflaaIsl
namespace Go.Proofs.Ytjpalbonclgflaa
open Go.RowKit

def rawOf (q : Rat) : RawQ := (ineg q.num, imag q.num, ineg (q.den : Int), imag (q.den : Int))
theorem rqv_rawOf (q : Rat) : rqv (rawOf q) = q := by unfold rqv rawOf; simp only [ival_canon, Rat.num_divInt_den]
theorem bytes_beq (s : ByteArray) : (s == s) = true := by rw [beq_toListBytes]; simp
theorem cqB_rawOf (q : Rat) : cqB (rawOf q) = true := by unfold cqB; rw [rqv_rawOf]; simp [rawOf, bytes_beq]
def wds (lo hi : Rat) : Nat → Rat
 | 0 => hi - lo
 | n + 1 => (wds lo hi n + 0) / 2
def rfn (rows : List (List Int)) (x : Ivl) : Nat → Ivl
 | 0 => x
 | n + 1 => if (chg rows (rfn rows x n).1 : Int) - (chg rows (((rfn rows x n).1 + (rfn rows x n).2) / 2) : Int) = 1 then ((rfn rows x n).1, ((rfn rows x n).1 + (rfn rows x n).2) / 2) else (((rfn rows x n).1 + (rfn rows x n).2) / 2, (rfn rows x n).2)
abbrev IvlV (x : Ivl) : Value := .agg #[.bool (ineg (x.1).num), .string (imag (x.1).num), .bool (ineg ((x.1).den : Int)), .string (imag ((x.1).den : Int)), .bool (ineg (x.2).num), .string (imag (x.2).num), .bool (ineg ((x.2).den : Int)), .string (imag ((x.2).den : Int))]
set_option maxRecDepth 100000 in
set_option maxHeartbeats 12800000 in
theorem sRefine_any (l : List Int) (v : Value) (lo hi wd : Rat) (w : World) (M K N : Nat) (hr : Row w v l.length (civ l)) (hf : AFine l M) (hK : K ≤ 1000000000) (hK1 : 1 ≤ K) (hwd : rs K wd) (hlt : lo < hi) (hw0 : 0 < wd)
  (hroot : (chg (stmA l) lo : Int) - (chg (stmA l) hi : Int) = 1) (hN : N ≤ 4096) (hNw : ∀ k, k < N → wd < wds lo hi k) (hNe : ¬ wd < wds lo hi N) (hsw : ∀ k, k ≤ N → rs K (wds lo hi k)) (hsr : ∀ k, k ≤ N → rs K (rfn (stmA l) (lo, hi) k).1 ∧ rs K (rfn (stmA l) (lo, hi) k).2) :
  Calls Try.prog 17 #[v, IvlV (lo, hi), RatV wd] w (Ret w (.tuple #[IvlV (rfn (stmA l) (lo, hi) N), .int .i64 0])) := by
 show Calls Try.prog 17 #[v, .agg #[.bool (ineg lo.num), .string (imag lo.num), .bool (ineg (lo.den : Int)), .string (imag (lo.den : Int)), .bool (ineg hi.num), .string (imag hi.num), .bool (ineg (hi.den : Int)), .string (imag (hi.den : Int))], .agg #[.bool (ineg wd.num), .string (imag wd.num), .bool (ineg (wd.den : Int)), .string (imag (wd.den : Int))]] w _
 have hlo : rs K lo := (hsr 0 (Nat.zero_le _)).1
 have hhi : rs K hi := (hsr 0 (Nat.zero_le _)).2
 have hK0 : rs K 0 := ⟨zs_nat 0 K (Nat.pow_pos (by decide)), zs_nat 1 K (Nat.one_lt_pow (by omega) (by decide))⟩
 have hck := fun vq w' h1 h2 => scheck_any l v [rawOf lo, rawOf hi, rawOf wd] vq w' h1 h2 hf.pos hf.len hf.small hf.ends (fun x hx => by
  simp only [List.mem_cons, List.mem_nil_iff, or_false] at hx
  rcases hx with rfl | rfl | rfl
  ·
   exact ⟨Nat.le_trans hlo.1.size (by omega), Nat.le_trans hlo.2.size (by omega)⟩
  ·
   exact ⟨Nat.le_trans hhi.1.size (by omega), Nat.le_trans hhi.2.size (by omega)⟩
  ·
   exact ⟨Nat.le_trans hwd.1.size (by omega), Nat.le_trans hwd.2.size (by omega)⟩)
 have hodd : oddQ [rawOf lo, rawOf hi, rawOf wd] = false := by simp [oddQ, cqB_rawOf]
 rw [hodd] at hck
 simp only [Bool.false_eq_true, if_false] at hck
 have hcr : crv [rawOf lo, rawOf hi, rawOf wd] = [.bool (ineg lo.num), .string (imag lo.num), .bool (ineg (lo.den : Int)), .string (imag (lo.den : Int)), .bool (ineg hi.num), .string (imag hi.num), .bool (ineg (hi.den : Int)), .string (imag (hi.den : Int)), .bool (ineg wd.num), .string (imag wd.num), .bool (ineg (wd.den : Int)), .string (imag (wd.den : Int))] := rfl
 rw [hcr] at hck
 have hal := fun w' h => sall_fresh l v w' M h hf
 have hc1 := fun w' => qcompare_any (ineg lo.num) (ineg (lo.den : Int)) (imag lo.num) (imag (lo.den : Int)) (ineg hi.num) (ineg (hi.den : Int)) (imag hi.num) (imag (hi.den : Int)) w' (Nat.le_trans hlo.1.size (by omega)) (Nat.le_trans hlo.2.size (by omega)) (Nat.le_trans hhi.1.size (by omega)) (Nat.le_trans hhi.2.size (by omega))
 have hc2 := fun w' => qcompare_any (ineg wd.num) (ineg (wd.den : Int)) (imag wd.num) (imag (wd.den : Int)) (ineg (0 : Rat).num) (ineg ((0 : Rat).den : Int)) (imag (0 : Rat).num) (imag ((0 : Rat).den : Int)) w' (Nat.le_trans hwd.1.size (by omega)) (Nat.le_trans hwd.2.size (by omega)) (Nat.le_trans hK0.1.size (by omega)) (Nat.le_trans hK0.2.size (by omega))
 simp only [ival_canon, Rat.num_divInt_den] at hc1 hc2
 rw [if_pos hlt] at hc1
 rw [if_neg (Rat.not_lt.2 (Rat.le_of_lt hw0)), if_neg (fun e => absurd hw0 (by rw [e]; exact Rat.lt_irrefl))] at hc2
 have hnum := fun w' => snumber_any 0 w' (by decide) (by decide)
 rw [show Rat.divInt 0 1 = 0 from rfl] at hnum
 have hsub := fun w' => rsub_anyQ (ineg hi.num) (ineg (hi.den : Int)) (imag hi.num) (imag (hi.den : Int)) (ineg lo.num) (ineg (lo.den : Int)) (imag lo.num) (imag (lo.den : Int)) w' (Nat.le_trans hhi.1.size (by omega)) (Nat.le_trans hhi.2.size (by omega)) (Nat.le_trans hlo.1.size (by omega)) (Nat.le_trans hlo.2.size (by omega))
 simp only [ival_canon, Rat.num_divInt_den] at hsub
 have hrz : ∀ p ∈ stmA l, p.length ≤ 65 ∧ ∀ x ∈ p, zs M x := fun p hp => ⟨stmA_len hf p hp, hf.c p hp⟩
 have hrl := hf.sl
 have hM2 : M ≤ 1000000000 := by have := hf.hM; omega
 have hcn : ∀ (a b : Rat), rs K a → rs K b → ∀ va n vc w', n = (stmA l).length → Tab w' (.slice va n vc) (stmA l) → Calls Try.prog 28 #[.slice va n vc, .agg #[.bool (ineg a.num), .string (imag a.num), .bool (ineg (a.den : Int)), .string (imag (a.den : Int))], .agg #[.bool (ineg b.num), .string (imag b.num), .bool (ineg (b.den : Int)), .string (imag (b.den : Int))]] w' (Ret w' (.int .i64 ((chg (stmA l) a : Int) - (chg (stmA l) b : Int)))) := fun a b ha hb va n vc w' hn h => by
  have h2 := scount_any (stmA l) (.slice va n vc) (ineg a.num) (ineg (a.den : Int)) (imag a.num) (imag (a.den : Int)) (ineg b.num) (ineg (b.den : Int)) (imag b.num) (imag (b.den : Int)) w' M h hrl hrz hM2 (Nat.le_trans ha.1.size hK) (Nat.le_trans ha.2.size hK) (Nat.le_trans hb.1.size hK) (Nat.le_trans hb.2.size hK)
  simp only [ival_canon, Rat.num_divInt_den] at h2
  exact h2
 have hmd : ∀ (a b : Rat), rs K a → rs K b → ∀ w', Calls Try.prog 33 #[.agg #[.bool (ineg a.num), .string (imag a.num), .bool (ineg (a.den : Int)), .string (imag (a.den : Int))], .agg #[.bool (ineg b.num), .string (imag b.num), .bool (ineg (b.den : Int)), .string (imag (b.den : Int))]] w' (Ret w' (RatV ((a + b) / 2))) := fun a b ha hb w' => by
  have h2 := smiddle_any (ineg a.num) (ineg (a.den : Int)) (imag a.num) (imag (a.den : Int)) (ineg b.num) (ineg (b.den : Int)) (imag b.num) (imag (b.den : Int)) w' (Nat.le_trans ha.1.size (by omega)) (Nat.le_trans ha.2.size (by omega)) (Nat.le_trans hb.1.size (by omega)) (Nat.le_trans hb.2.size (by omega))
  simp only [ival_canon, Rat.num_divInt_den] at h2
  exact h2
 have hcw : ∀ (a : Rat), rs K a → ∀ w', Calls Try.prog 9 #[.agg #[.bool (ineg a.num), .string (imag a.num), .bool (ineg (a.den : Int)), .string (imag (a.den : Int))], .agg #[.bool (ineg wd.num), .string (imag wd.num), .bool (ineg (wd.den : Int)), .string (imag (wd.den : Int))]] w' (Ret w' (.int .i64 (if a < wd then -1 else if a = wd then 0 else 1))) := fun a ha w' => by
  have h2 := qcompare_any (ineg a.num) (ineg (a.den : Int)) (imag a.num) (imag (a.den : Int)) (ineg wd.num) (ineg (wd.den : Int)) (imag wd.num) (imag (wd.den : Int)) w' (Nat.le_trans ha.1.size (by omega)) (Nat.le_trans ha.2.size (by omega)) (Nat.le_trans hwd.1.size (by omega)) (Nat.le_trans hwd.2.size (by omega))
  simp only [ival_canon, Rat.num_divInt_den] at h2
  exact h2
 have hwd0 : wds lo hi 0 = hi - lo := rfl
 rw [← hwd0] at hsub
 have hrf0 : rfn (stmA l) (lo, hi) 0 = (lo, hi) := rfl
 have hcnt := hcn lo hi hlo hhi
 rw [hroot] at hcnt
 obtain ⟨rows, hrows⟩ : ∃ R, R = stmA l := ⟨_, rfl⟩
 rw [← hrows] at hal hsr hcn hcnt hrl hrf0 ⊢
 obtain ⟨va, vc, rfl, -⟩ := hr.slice
 obtain ⟨n, hn⟩ : ∃ n, n = l.length := ⟨_, rfl⟩
 rw [← hn] at hr hck hal ⊢
 unfold AllRetF at hal
 have HRW := zh hr; clear hr
 have HCK := zh hck; clear hck
 have HAL := zh hal; clear hal
 have HC1 := zh hc1; clear hc1
 have HC2 := zh hc2; clear hc2
 have HNUM := zh hnum; clear hnum
 have HSUB := zh hsub; clear hsub
 have HCN := zh hcn; clear hcn
 have HCNT := zh hcnt; clear hcnt
 have HMD := zh hmd; clear hmd
 have HCW := zh hcw; clear hcw
 have HSW := zh hsw; clear hsw
 have HSR := zh hsr; clear hsr
 have HNW := zh hNw; clear hNw
 have HNE := zh hNe; clear hNe
 have HRF0 := zh hrf0; clear hrf0
 have HK0 := zh hK0; clear hK0
 clear hf hrows hn hlo hhi hwd hlt hw0 hodd hcr hrz hrl hwd0 hroot
 obtain ⟨w4, hw4⟩ : ∃ w4, w4 = ((w.alloc (.cells #[.bool (ineg lo.num), .string (imag lo.num), .bool (ineg (lo.den : Int)), .string (imag (lo.den : Int)), .bool (ineg hi.num), .string (imag hi.num), .bool (ineg (hi.den : Int)), .string (imag (hi.den : Int))] 54)).alloc (.cells #[.bool (ineg wd.num), .string (imag wd.num), .bool (ineg (wd.den : Int)), .string (imag (wd.den : Int))] 35)).alloc (.cells #[.bool false, .string ⟨#[]⟩, .bool false, .string ⟨#[]⟩, .bool false, .string ⟨#[]⟩, .bool false, .string ⟨#[]⟩] 54) := ⟨_, rfl⟩
 have k_i : Blk w4 (w.heap.size) 54 [.bool (ineg lo.num), .string (imag lo.num), .bool (ineg (lo.den : Int)), .string (imag (lo.den : Int)), .bool (ineg hi.num), .string (imag hi.num), .bool (ineg (hi.den : Int)), .string (imag (hi.den : Int))] := by
  rw [hw4]
  have h := (((Blk.new (w) 54 [.bool (ineg lo.num), .string (imag lo.num), .bool (ineg (lo.den : Int)), .string (imag (lo.den : Int)), .bool (ineg hi.num), .string (imag hi.num), .bool (ineg (hi.den : Int)), .string (imag (hi.den : Int))]).alloc (.cells #[.bool (ineg wd.num), .string (imag wd.num), .bool (ineg (wd.den : Int)), .string (imag (wd.den : Int))] 35)).alloc (.cells #[.bool false, .string ⟨#[]⟩, .bool false, .string ⟨#[]⟩, .bool false, .string ⟨#[]⟩, .bool false, .string ⟨#[]⟩] 54))
  (try simp only [World.size_alloc, Nat.add_assoc, Nat.reduceAdd] at h)
  exact h
 have k_d : Blk w4 (w.heap.size + 1) 35 [.bool (ineg wd.num), .string (imag wd.num), .bool (ineg (wd.den : Int)), .string (imag (wd.den : Int))] := by
  rw [hw4]
  have h := ((Blk.new (w.alloc (.cells #[.bool (ineg lo.num), .string (imag lo.num), .bool (ineg (lo.den : Int)), .string (imag (lo.den : Int)), .bool (ineg hi.num), .string (imag hi.num), .bool (ineg (hi.den : Int)), .string (imag (hi.den : Int))] 54)) 35 [.bool (ineg wd.num), .string (imag wd.num), .bool (ineg (wd.den : Int)), .string (imag (wd.den : Int))]).alloc (.cells #[.bool false, .string ⟨#[]⟩, .bool false, .string ⟨#[]⟩, .bool false, .string ⟨#[]⟩, .bool false, .string ⟨#[]⟩] 54))
  (try simp only [World.size_alloc, Nat.add_assoc, Nat.reduceAdd] at h)
  exact h
 have k_r : Blk w4 (w.heap.size + 2) 54 [.bool false, .string ⟨#[]⟩, .bool false, .string ⟨#[]⟩, .bool false, .string ⟨#[]⟩, .bool false, .string ⟨#[]⟩] := by
  rw [hw4]
  have h := (Blk.new ((w.alloc (.cells #[.bool (ineg lo.num), .string (imag lo.num), .bool (ineg (lo.den : Int)), .string (imag (lo.den : Int)), .bool (ineg hi.num), .string (imag hi.num), .bool (ineg (hi.den : Int)), .string (imag (hi.den : Int))] 54)).alloc (.cells #[.bool (ineg wd.num), .string (imag wd.num), .bool (ineg (wd.den : Int)), .string (imag (wd.den : Int))] 35)) 54 [.bool false, .string ⟨#[]⟩, .bool false, .string ⟨#[]⟩, .bool false, .string ⟨#[]⟩, .bool false, .string ⟨#[]⟩])
  (try simp only [World.size_alloc, Nat.add_assoc, Nat.reduceAdd] at h)
  exact h
 have tl : Below w.heap.size w w4 := by
  rw [hw4]
  exact ((((Below.refl w.heap.size w).alloc (by simp <;> omega) (.cells #[.bool (ineg lo.num), .string (imag lo.num), .bool (ineg (lo.den : Int)), .string (imag (lo.den : Int)), .bool (ineg hi.num), .string (imag hi.num), .bool (ineg (hi.den : Int)), .string (imag (hi.den : Int))] 54)).alloc (by simp <;> omega) (.cells #[.bool (ineg wd.num), .string (imag wd.num), .bool (ineg (wd.den : Int)), .string (imag (wd.den : Int))] 35)).alloc (by simp <;> omega) (.cells #[.bool false, .string ⟨#[]⟩, .bool false, .string ⟨#[]⟩, .bool false, .string ⟨#[]⟩, .bool false, .string ⟨#[]⟩] 54))
 have hs4 : w4.heap.size = w.heap.size + 3 := by rw [hw4]; simp only [World.size_alloc]
 obtain ⟨i_0, i_f0, i_1, i_f1, i_2, i_f2, i_3, i_f3, i_4, i_f4, i_5, i_f5, i_6, i_f6, i_7, i_f7⟩ := k_i.f8
 have HI := zh k_i; clear k_i
 obtain ⟨d_0, d_f0, d_1, d_f1, d_2, d_f2, d_3, d_f3⟩ := k_d.f4
 have HD := zh k_d; clear k_d
 obtain ⟨r_0, r_f0, r_1, r_f1, r_2, r_f2, r_3, r_f3, r_4, r_f4, r_5, r_f5, r_6, r_f6, r_7, r_f7⟩ := k_r.f8
 have HR := zh k_r; clear k_r
 have HBL := zh tl; clear tl
 go_enter Try.func17, Try.ntmps17
 go_upto_region 1 with fail
 (try rw [← hw4])
 clear hw4
 (try simp only [Nat.add_assoc, Nat.reduceAdd])
 go_wp2_with fail
 have hal4 : Below w4.heap.size w4 (w4.alloc (.cells #[.bool (ineg lo.num), .string (imag lo.num), .bool (ineg (lo.den : Int)), .string (imag (lo.den : Int)), .bool (ineg hi.num), .string (imag hi.num), .bool (ineg (hi.den : Int)), .string (imag (hi.den : Int)), .bool (ineg wd.num), .string (imag wd.num), .bool (ineg (wd.den : Int)), .string (imag (wd.den : Int))] 35)) := (Below.refl _ _).alloc (Nat.le_refl _) _
 have hrq : Row (w4.alloc (.cells #[.bool (ineg lo.num), .string (imag lo.num), .bool (ineg (lo.den : Int)), .string (imag (lo.den : Int)), .bool (ineg hi.num), .string (imag hi.num), .bool (ineg (hi.den : Int)), .string (imag (hi.den : Int)), .bool (ineg wd.num), .string (imag wd.num), .bool (ineg (wd.den : Int)), .string (imag (wd.den : Int))] 35)) (.slice (some ⟨w4.heap.size, 0, none⟩) 3 3) 3 [.bool (ineg lo.num), .string (imag lo.num), .bool (ineg (lo.den : Int)), .string (imag (lo.den : Int)), .bool (ineg hi.num), .string (imag hi.num), .bool (ineg (hi.den : Int)), .string (imag (hi.den : Int)), .bool (ineg wd.num), .string (imag wd.num), .bool (ineg (wd.den : Int)), .string (imag (wd.den : Int))] := Row.ofBlk (Blk.new w4 35 [.bool (ineg lo.num), .string (imag lo.num), .bool (ineg (lo.den : Int)), .string (imag (lo.den : Int)), .bool (ineg hi.num), .string (imag hi.num), .bool (ineg (hi.den : Int)), .string (imag (hi.den : Int)), .bool (ineg wd.num), .string (imag wd.num), .bool (ineg (wd.den : Int)), .string (imag (wd.den : Int))]) (m := 3) (cap := 3) (Nat.le_refl _) (by unfold maxLen; omega) 12
 rw [hs4] at hrq
 have k_i := HI.out.keep hal4
 have k_d := HD.out.keep hal4
 have k_r := HR.out.keep hal4
 have tl := HBL.out.trans ((hal4).mono HBL.out.size)
 clear HBL HI HD HR
 clear i_0 i_f0 i_1 i_f1 i_2 i_f2 i_3 i_f3 i_4 i_f4 i_5 i_f5 i_6 i_f6 i_7 i_f7
 obtain ⟨i_0, i_f0, i_1, i_f1, i_2, i_f2, i_3, i_f3, i_4, i_f4, i_5, i_f5, i_6, i_f6, i_7, i_f7⟩ := k_i.f8
 have HI := zh k_i; clear k_i
 clear d_0 d_f0 d_1 d_f1 d_2 d_f2 d_3 d_f3
 obtain ⟨d_0, d_f0, d_1, d_f1, d_2, d_f2, d_3, d_f3⟩ := k_d.f4
 have HD := zh k_d; clear k_d
 clear r_0 r_f0 r_1 r_f1 r_2 r_f2 r_3 r_f3 r_4 r_f4 r_5 r_f5 r_6 r_f6 r_7 r_f7
 obtain ⟨r_0, r_f0, r_1, r_f1, r_2, r_f2, r_3, r_f3, r_4, r_f4, r_5, r_f5, r_6, r_f6, r_7, r_f7⟩ := k_r.f8
 have HR := zh k_r; clear k_r
 have HBL := zh tl; clear tl
 clear hal4
 have hck := HCK.out _ _ (HRW.out.below HBL.out (Nat.le_refl _)) hrq
 have HCK1 := zh hck; clear hck
 clear hrq
 refine (HCK1.out).mono ?_
 rintro e w5 ⟨hq, rfl⟩
 dsimp only
 have k_i := HI.out.keep hq
 have k_d := HD.out.keep hq
 have k_r := HR.out.keep hq
 have tl := HBL.out.trans ((hq).mono HBL.out.size)
 clear HBL HI HD HR
 clear i_0 i_f0 i_1 i_f1 i_2 i_f2 i_3 i_f3 i_4 i_f4 i_5 i_f5 i_6 i_f6 i_7 i_f7
 obtain ⟨i_0, i_f0, i_1, i_f1, i_2, i_f2, i_3, i_f3, i_4, i_f4, i_5, i_f5, i_6, i_f6, i_7, i_f7⟩ := k_i.f8
 have HI := zh k_i; clear k_i
 clear d_0 d_f0 d_1 d_f1 d_2 d_f2 d_3 d_f3
 obtain ⟨d_0, d_f0, d_1, d_f1, d_2, d_f2, d_3, d_f3⟩ := k_d.f4
 have HD := zh k_d; clear k_d
 clear r_0 r_f0 r_1 r_f1 r_2 r_f2 r_3 r_f3 r_4 r_f4 r_5 r_f5 r_6 r_f6 r_7 r_f7
 obtain ⟨r_0, r_f0, r_1, r_f1, r_2, r_f2, r_3, r_f3, r_4, r_f4, r_5, r_f5, r_6, r_f6, r_7, r_f7⟩ := k_r.f8
 have HR := zh k_r; clear k_r
 have HBL := zh tl; clear tl
 clear hq
 go_wp2_with fail
 refine (HC1.out _).mono ?_
 rintro e w6 ⟨hq, rfl⟩
 dsimp only
 have k_i := HI.out.keep hq
 have k_d := HD.out.keep hq
 have k_r := HR.out.keep hq
 have tl := HBL.out.trans ((hq).mono HBL.out.size)
 clear HBL HI HD HR
 clear i_0 i_f0 i_1 i_f1 i_2 i_f2 i_3 i_f3 i_4 i_f4 i_5 i_f5 i_6 i_f6 i_7 i_f7
 obtain ⟨i_0, i_f0, i_1, i_f1, i_2, i_f2, i_3, i_f3, i_4, i_f4, i_5, i_f5, i_6, i_f6, i_7, i_f7⟩ := k_i.f8
 have HI := zh k_i; clear k_i
 clear d_0 d_f0 d_1 d_f1 d_2 d_f2 d_3 d_f3
 obtain ⟨d_0, d_f0, d_1, d_f1, d_2, d_f2, d_3, d_f3⟩ := k_d.f4
 have HD := zh k_d; clear k_d
 clear r_0 r_f0 r_1 r_f1 r_2 r_f2 r_3 r_f3 r_4 r_f4 r_5 r_f5 r_6 r_f6 r_7 r_f7
 obtain ⟨r_0, r_f0, r_1, r_f1, r_2, r_f2, r_3, r_f3, r_4, r_f4, r_5, r_f5, r_6, r_f6, r_7, r_f7⟩ := k_r.f8
 have HR := zh k_r; clear k_r
 have HBL := zh tl; clear tl
 clear hq
 go_wp2_with fail
 have HI := zh HI.out.drew
 have HD := zh HD.out.drew
 have HR := zh HR.out.drew
 have HBL := zh HBL.out.drew
 refine wp_region_held_drew (S := fun w' => w'.cell? ⟨w.heap.size + 1, 0, none⟩ = some (.bool (ineg wd.num)) ∧ w'.cell? ⟨w.heap.size + 1, 1, none⟩ = some (.string (imag wd.num)) ∧ w'.cell? ⟨w.heap.size + 1, 2, none⟩ = some (.bool (ineg (wd.den : Int))) ∧ w'.cell? ⟨w.heap.size + 1, 3, none⟩ = some (.string (imag (wd.den : Int)))) (by kernel_rfl) ?_ (fun hHeld0 => ?_)
 ·
  go_keep
 refine zT 0 (h := ?_)
 (try simp only [Act.put, zA, zB, zC])
 refine zR 1 (h := fun K hK => ?_)
 go_simp
 go_at_call 36
 refine (HNUM.out _).mono ?_
 rintro e w7 ⟨hq, rfl⟩
 dsimp only
 have z0 := zK hq HD.out.lt hHeld0.1
 have z1 := zK hq HD.out.lt hHeld0.2.1
 have z2 := zK hq HD.out.lt hHeld0.2.2.1
 have z3 := zK hq HD.out.lt hHeld0.2.2.2
 refine hK.out _ _ ⟨z0, z1, z2, z3⟩ (fun hHeld1 => ?_)
 clear hK K hHeld0 z0 z1 z2 z3
 (try simp only [Act.put, zA, zB, zC])
 have k_i := HI.out.keep hq
 have k_d := HD.out.keep hq
 have k_r := HR.out.keep hq
 have tl := HBL.out.trans ((hq).mono HBL.out.size)
 clear HBL HI HD HR
 clear i_0 i_f0 i_1 i_f1 i_2 i_f2 i_3 i_f3 i_4 i_f4 i_5 i_f5 i_6 i_f6 i_7 i_f7
 obtain ⟨i_0, i_f0, i_1, i_f1, i_2, i_f2, i_3, i_f3, i_4, i_f4, i_5, i_f5, i_6, i_f6, i_7, i_f7⟩ := k_i.f8
 have HI := zh k_i; clear k_i
 clear d_0 d_f0 d_1 d_f1 d_2 d_f2 d_3 d_f3
 obtain ⟨d_0, d_f0, d_1, d_f1, d_2, d_f2, d_3, d_f3⟩ := k_d.f4
 have HD := zh k_d; clear k_d
 clear r_0 r_f0 r_1 r_f1 r_2 r_f2 r_3 r_f3 r_4 r_f4 r_5 r_f5 r_6 r_f6 r_7 r_f7
 obtain ⟨r_0, r_f0, r_1, r_f1, r_2, r_f2, r_3, r_f3, r_4, r_f4, r_5, r_f5, r_6, r_f6, r_7, r_f7⟩ := k_r.f8
 have HR := zh k_r; clear k_r
 have HBL := zh tl; clear tl
 clear hq
 refine zR 2 (h := fun K hK => ?_)
 go_simp
 go_at_call 9
 refine (HC2.out _).mono ?_
 rintro e w8 ⟨hq, rfl⟩
 dsimp only
 have z0 := zK hq HD.out.lt hHeld1.1
 have z1 := zK hq HD.out.lt hHeld1.2.1
 have z2 := zK hq HD.out.lt hHeld1.2.2.1
 have z3 := zK hq HD.out.lt hHeld1.2.2.2
 refine hK.out _ _ ⟨z0, z1, z2, z3⟩ (fun hHeld2 => ?_)
 clear hK K hHeld1 z0 z1 z2 z3
 (try simp only [Act.put, zA, zB, zC])
 have k_i := HI.out.keep hq
 have k_d := HD.out.keep hq
 have k_r := HR.out.keep hq
 have tl := HBL.out.trans ((hq).mono HBL.out.size)
 clear HBL HI HD HR
 clear i_0 i_f0 i_1 i_f1 i_2 i_f2 i_3 i_f3 i_4 i_f4 i_5 i_f5 i_6 i_f6 i_7 i_f7
 obtain ⟨i_0, i_f0, i_1, i_f1, i_2, i_f2, i_3, i_f3, i_4, i_f4, i_5, i_f5, i_6, i_f6, i_7, i_f7⟩ := k_i.f8
 have HI := zh k_i; clear k_i
 clear d_0 d_f0 d_1 d_f1 d_2 d_f2 d_3 d_f3
 obtain ⟨d_0, d_f0, d_1, d_f1, d_2, d_f2, d_3, d_f3⟩ := k_d.f4
 have HD := zh k_d; clear k_d
 clear r_0 r_f0 r_1 r_f1 r_2 r_f2 r_3 r_f3 r_4 r_f4 r_5 r_f5 r_6 r_f6 r_7 r_f7
 obtain ⟨r_0, r_f0, r_1, r_f1, r_2, r_f2, r_3, r_f3, r_4, r_f4, r_5, r_f5, r_6, r_f6, r_7, r_f7⟩ := k_r.f8
 have HR := zh k_r; clear k_r
 have HBL := zh tl; clear tl
 clear hq
 refine zT 3 (h := ?_)
 (try simp only [Act.put, zA, zB, zC])
 refine wpAnyH_done (by kernel_rfl) ?_ _
 (try simp only [List.getElem_toArray, List.getElem_cons_zero, List.getElem_cons_succ, Act.put, zA, zB, zC])
 have ha := HAL.out _ (HRW.out.below HBL.out (Nat.le_refl _))
 have HA := zh ha; clear ha
 go_wp2_with fail
 have hDD0 : w.heap.size + 2 < w8.heap.size := HR.out.lt
 refine (HA.out).mono ?_
 rintro e w9 ⟨hq, vt, rfl, hvt⟩
 dsimp only
 have hDD1 := hq.size
 have k_i := HI.out.keep hq
 have k_d := HD.out.keep hq
 have k_r := HR.out.keep hq
 have tl := HBL.out.trans ((hq).mono HBL.out.size)
 clear HBL HI HD HR
 clear i_0 i_f0 i_1 i_f1 i_2 i_f2 i_3 i_f3 i_4 i_f4 i_5 i_f5 i_6 i_f6 i_7 i_f7
 obtain ⟨i_0, i_f0, i_1, i_f1, i_2, i_f2, i_3, i_f3, i_4, i_f4, i_5, i_f5, i_6, i_f6, i_7, i_f7⟩ := k_i.f8
 have HI := zh k_i; clear k_i
 clear d_0 d_f0 d_1 d_f1 d_2 d_f2 d_3 d_f3
 obtain ⟨d_0, d_f0, d_1, d_f1, d_2, d_f2, d_3, d_f3⟩ := k_d.f4
 have HD := zh k_d; clear k_d
 clear r_0 r_f0 r_1 r_f1 r_2 r_f2 r_3 r_f3 r_4 r_f4 r_5 r_f5 r_6 r_f6 r_7 r_f7
 obtain ⟨r_0, r_f0, r_1, r_f1, r_2, r_f2, r_3, r_f3, r_4, r_f4, r_5, r_f5, r_6, r_f6, r_7, r_f7⟩ := k_r.f8
 have HR := zh k_r; clear k_r
 have HBL := zh tl; clear tl
 clear hq
 obtain ⟨D, hD⟩ : ∃ D, D = w8.heap.size := ⟨_, rfl⟩
 rw [← hD] at hvt
 have hDw : w.heap.size + 2 < D := by rw [hD]; exact hDD0
 obtain ⟨m2, hm2⟩ : ∃ n, n = rows.length := ⟨_, rfl⟩
 obtain ⟨va2, vc2, rfl⟩ : ∃ a c, vt = .slice a m2 c := by
  obtain ⟨rvs, -, ⟨hrow, -⟩, -⟩ := id hvt
  obtain ⟨a, c, h, -⟩ := hrow.slice
  exact ⟨a, c, by rw [hm2]; exact h⟩
 have hcc := HCNT.out va2 m2 vc2 _ hm2 hvt.tab
 obtain ⟨AW, hAW⟩ : ∃ x, x = w9 := ⟨_, rfl⟩
 have hto : Only (fun k _ => k < D) AW w9 := by rw [hAW]; exact Only.refl _ _
 have hDA : D ≤ AW.heap.size := by rw [hAW, hD]; exact hDD1
 rw [← hAW] at hvt
 have HTO := zh hto; clear hto
 have HCC := zh hcc; clear hcc
 have HVT := zh hvt; clear hvt
 have HM2 := zh hm2; clear hm2
 clear HA hAW hD hDD0 hDD1
 go_wp2_with fail
 refine (HCC.out).mono ?_
 rintro e w10 ⟨hq, rfl⟩
 dsimp only
 have k_i := HI.out.keep hq
 have k_d := HD.out.keep hq
 have k_r := HR.out.keep hq
 have tl := HBL.out.trans ((hq).mono HBL.out.size)
 have to_ := HTO.out.trans (Only.ofBelow _ (hq))
 clear HTO
 have HTO := zh to_; clear to_
 clear HBL HI HD HR
 clear i_0 i_f0 i_1 i_f1 i_2 i_f2 i_3 i_f3 i_4 i_f4 i_5 i_f5 i_6 i_f6 i_7 i_f7
 obtain ⟨i_0, i_f0, i_1, i_f1, i_2, i_f2, i_3, i_f3, i_4, i_f4, i_5, i_f5, i_6, i_f6, i_7, i_f7⟩ := k_i.f8
 have HI := zh k_i; clear k_i
 clear d_0 d_f0 d_1 d_f1 d_2 d_f2 d_3 d_f3
 obtain ⟨d_0, d_f0, d_1, d_f1, d_2, d_f2, d_3, d_f3⟩ := k_d.f4
 have HD := zh k_d; clear k_d
 clear r_0 r_f0 r_1 r_f1 r_2 r_f2 r_3 r_f3 r_4 r_f4 r_5 r_f5 r_6 r_f6 r_7 r_f7
 obtain ⟨r_0, r_f0, r_1, r_f1, r_2, r_f2, r_3, r_f3, r_4, r_f4, r_5, r_f5, r_6, r_f6, r_7, r_f7⟩ := k_r.f8
 have HR := zh k_r; clear k_r
 have HBL := zh tl; clear tl
 clear hq
 go_wp2_with fail
 refine (HSUB.out _).mono ?_
 rintro e w11 ⟨hq, rfl⟩
 dsimp only
 have k_i := HI.out.keep hq
 have k_d := HD.out.keep hq
 have k_r := HR.out.keep hq
 have tl := HBL.out.trans ((hq).mono HBL.out.size)
 have to_ := HTO.out.trans (Only.ofBelow _ (hq))
 clear HTO
 have HTO := zh to_; clear to_
 clear HBL HI HD HR
 clear i_0 i_f0 i_1 i_f1 i_2 i_f2 i_3 i_f3 i_4 i_f4 i_5 i_f5 i_6 i_f6 i_7 i_f7
 obtain ⟨i_0, i_f0, i_1, i_f1, i_2, i_f2, i_3, i_f3, i_4, i_f4, i_5, i_f5, i_6, i_f6, i_7, i_f7⟩ := k_i.f8
 have HI := zh k_i; clear k_i
 clear d_0 d_f0 d_1 d_f1 d_2 d_f2 d_3 d_f3
 obtain ⟨d_0, d_f0, d_1, d_f1, d_2, d_f2, d_3, d_f3⟩ := k_d.f4
 have HD := zh k_d; clear k_d
 clear r_0 r_f0 r_1 r_f1 r_2 r_f2 r_3 r_f3 r_4 r_f4 r_5 r_f5 r_6 r_f6 r_7 r_f7
 obtain ⟨r_0, r_f0, r_1, r_f1, r_2, r_f2, r_3, r_f3, r_4, r_f4, r_5, r_f5, r_6, r_f6, r_7, r_f7⟩ := k_r.f8
 have HR := zh k_r; clear k_r
 have HBL := zh tl; clear tl
 clear hq
 have hxA0 := HTO.out.size
 have hlt_r := HR.out.lt
 obtain ⟨b_x, hb_x⟩ : ∃ b, b = w11.heap.size := ⟨_, rfl⟩
 have hal : Below w11.heap.size w11 (w11.alloc (.cells #[.bool (ineg ((wds lo hi 0)).num), .string (imag ((wds lo hi 0)).num), .bool (ineg (((wds lo hi 0)).den : Int)), .string (imag (((wds lo hi 0)).den : Int))] 35)) := (Below.refl _ _).alloc (Nat.le_refl _) _
 have k_x : Blk (w11.alloc (.cells #[.bool (ineg ((wds lo hi 0)).num), .string (imag ((wds lo hi 0)).num), .bool (ineg (((wds lo hi 0)).den : Int)), .string (imag (((wds lo hi 0)).den : Int))] 35)) b_x 35 [.bool (ineg ((wds lo hi 0)).num), .string (imag ((wds lo hi 0)).num), .bool (ineg (((wds lo hi 0)).den : Int)), .string (imag (((wds lo hi 0)).den : Int))] := by rw [hb_x]; exact Blk.new w11 _ _
 have hge_x : w.heap.size ≤ b_x := by rw [hb_x]; exact HBL.out.size
 have far_r_x : w.heap.size + 2 < b_x := by rw [hb_x]; exact hlt_r
 clear hlt_r
 have k_i := HI.out.keep hal
 have k_d := HD.out.keep hal
 have k_r := HR.out.keep hal
 have tl := HBL.out.trans ((hal).mono HBL.out.size)
 have to_ := HTO.out.trans (Only.ofBelow _ (hal))
 clear HTO
 have HTO := zh to_; clear to_
 clear HBL HI HD HR
 clear i_0 i_f0 i_1 i_f1 i_2 i_f2 i_3 i_f3 i_4 i_f4 i_5 i_f5 i_6 i_f6 i_7 i_f7
 obtain ⟨i_0, i_f0, i_1, i_f1, i_2, i_f2, i_3, i_f3, i_4, i_f4, i_5, i_f5, i_6, i_f6, i_7, i_f7⟩ := k_i.f8
 have HI := zh k_i; clear k_i
 clear d_0 d_f0 d_1 d_f1 d_2 d_f2 d_3 d_f3
 obtain ⟨d_0, d_f0, d_1, d_f1, d_2, d_f2, d_3, d_f3⟩ := k_d.f4
 have HD := zh k_d; clear k_d
 clear r_0 r_f0 r_1 r_f1 r_2 r_f2 r_3 r_f3 r_4 r_f4 r_5 r_f5 r_6 r_f6 r_7 r_f7
 obtain ⟨r_0, r_f0, r_1, r_f1, r_2, r_f2, r_3, r_f3, r_4, r_f4, r_5, r_f5, r_6, r_f6, r_7, r_f7⟩ := k_r.f8
 have HR := zh k_r; clear k_r
 have HBL := zh tl; clear tl
 clear hal
 obtain ⟨x_0, x_f0, x_1, x_f1, x_2, x_f2, x_3, x_f3⟩ := k_x.f4
 have HX := zh k_x; clear k_x
 have hxA : AW.heap.size ≤ b_x := by rw [hb_x]; exact hxA0
 clear hxA0
 go_wp2_with fail
 (try rw [← hb_x])
 have HB_x := zh hb_x; clear hb_x
 go_loopw [11, 12] (fun s p wr => ∃ (k bx : Nat), k ≤ N ∧ s = .int .i64 (k : Int) ∧ p = .pointer (some ⟨bx, 0, none⟩) ∧ AW.heap.size ≤ bx ∧ Below w.heap.size w wr ∧ Only (fun k _ => k < D) AW wr ∧ Blk wr w.heap.size 54 [.bool (ineg lo.num), .string (imag lo.num), .bool (ineg (lo.den : Int)), .string (imag (lo.den : Int)), .bool (ineg hi.num), .string (imag hi.num), .bool (ineg (hi.den : Int)), .string (imag (hi.den : Int))] ∧ Blk wr (w.heap.size + 1) 35 [.bool (ineg wd.num), .string (imag wd.num), .bool (ineg (wd.den : Int)), .string (imag (wd.den : Int))] ∧ Blk wr (w.heap.size + 2) 54 [.bool false, .string ⟨#[]⟩, .bool false, .string ⟨#[]⟩, .bool false, .string ⟨#[]⟩, .bool false, .string ⟨#[]⟩] ∧ Blk wr bx 35 [.bool (ineg ((wds lo hi k)).num), .string (imag ((wds lo hi k)).num), .bool (ineg (((wds lo hi k)).den : Int)), .string (imag (((wds lo hi k)).den : Int))]) (fun s _ _ => N - (intOf s).toNat)
 case atStart => exact ⟨0, b_x, Nat.zero_le _, rfl, rfl, hxA, HBL.out, HTO.out, HI.out, HD.out, HR.out, HX.out⟩
 case round =>
  clear HBL HTO HI HD HR HX hxA i_0 i_f0 i_1 i_f1 i_2 i_f2 i_3 i_f3 i_4 i_f4 i_5 i_f5 i_6 i_f6 i_7 i_f7 d_0 d_f0 d_1 d_f1 d_2 d_f2 d_3 d_f3 r_0 r_f0 r_1 r_f1 r_2 r_f2 r_3 r_f3 r_4 r_f4 r_5 r_f5 r_6 r_f6 r_7 r_f7 x_0 x_f0 x_1 x_f1 x_2 x_f2 x_3 x_f3
  obtain ⟨k, bx, hk, rfl, rfl, hxA, tl, hto, k_i, k_d, k_r, k_x⟩ := hrel
  obtain ⟨wo, rfl⟩ : ∃ wo : World, wo = wr := ⟨_, rfl⟩
  have HTO := zh hto; clear hto
  have hsk := HSW.out k hk
  have hcw := HCW.out _ hsk
  by_cases hkN : k < N
  ·
   have hgt := HNW.out k hkN
   rw [if_neg (Rat.not_lt.2 (Rat.le_of_lt hgt)), if_neg (fun e => absurd hgt (by rw [e]; exact Rat.lt_irrefl))] at hcw
   have hk4 : ((k : Int) == 4096) = false := by simp; omega
   have hmd := HMD.out _ _ hsk HK0.out
   have hwk : (wds lo hi k + 0) / 2 = wds lo hi (k + 1) := rfl
   rw [hwk] at hmd
   clear hgt hwk hsk
   have HCW1 := zh hcw; clear hcw
   have HMD1 := zh hmd; clear hmd
   obtain ⟨i_0, i_f0, i_1, i_f1, i_2, i_f2, i_3, i_f3, i_4, i_f4, i_5, i_f5, i_6, i_f6, i_7, i_f7⟩ := k_i.f8
   have HI := zh k_i; clear k_i
   obtain ⟨d_0, d_f0, d_1, d_f1, d_2, d_f2, d_3, d_f3⟩ := k_d.f4
   have HD := zh k_d; clear k_d
   obtain ⟨r_0, r_f0, r_1, r_f1, r_2, r_f2, r_3, r_f3, r_4, r_f4, r_5, r_f5, r_6, r_f6, r_7, r_f7⟩ := k_r.f8
   have HR := zh k_r; clear k_r
   obtain ⟨x_0, x_f0, x_1, x_f1, x_2, x_f2, x_3, x_f3⟩ := k_x.f4
   have HX := zh k_x; clear k_x
   have HBL := zh tl; clear tl
   go_wp2_with fail
   refine (HCW1.out _).mono ?_
   rintro e w41 ⟨hq, rfl⟩
   dsimp only
   have k_i := HI.out.keep hq
   have k_d := HD.out.keep hq
   have k_r := HR.out.keep hq
   have k_x := HX.out.keep hq
   have tl := HBL.out.trans ((hq).mono HBL.out.size)
   have to_ := HTO.out.trans (Only.ofBelow _ (hq))
   clear HTO
   have HTO := zh to_; clear to_
   clear HBL HI HD HR HX
   clear i_0 i_f0 i_1 i_f1 i_2 i_f2 i_3 i_f3 i_4 i_f4 i_5 i_f5 i_6 i_f6 i_7 i_f7
   obtain ⟨i_0, i_f0, i_1, i_f1, i_2, i_f2, i_3, i_f3, i_4, i_f4, i_5, i_f5, i_6, i_f6, i_7, i_f7⟩ := k_i.f8
   have HI := zh k_i; clear k_i
   clear d_0 d_f0 d_1 d_f1 d_2 d_f2 d_3 d_f3
   obtain ⟨d_0, d_f0, d_1, d_f1, d_2, d_f2, d_3, d_f3⟩ := k_d.f4
   have HD := zh k_d; clear k_d
   clear r_0 r_f0 r_1 r_f1 r_2 r_f2 r_3 r_f3 r_4 r_f4 r_5 r_f5 r_6 r_f6 r_7 r_f7
   obtain ⟨r_0, r_f0, r_1, r_f1, r_2, r_f2, r_3, r_f3, r_4, r_f4, r_5, r_f5, r_6, r_f6, r_7, r_f7⟩ := k_r.f8
   have HR := zh k_r; clear k_r
   clear x_0 x_f0 x_1 x_f1 x_2 x_f2 x_3 x_f3
   obtain ⟨x_0, x_f0, x_1, x_f1, x_2, x_f2, x_3, x_f3⟩ := k_x.f4
   have HX := zh k_x; clear k_x
   have HBL := zh tl; clear tl
   clear hq
   go_wp2_with fail
   have HI := zh HI.out.drew
   have HD := zh HD.out.drew
   have HR := zh HR.out.drew
   have HX := zh HX.out.drew
   have HBL := zh HBL.out.drew
   have to_ := HTO.out.trans (Only.drew _ _)
   clear HTO
   have HTO := zh to_; clear to_
   refine wp_region_held_drew (S := fun _ => True) (by kernel_rfl) trivial (fun _ => ?_)
   refine wpAnyH_ready (rs := [0, 1]) (by kernel_rfl) (by simp) ?_
   refine (AllReadyH.cons rfl (fun K hK => ?_) (AllReadyH.cons rfl (fun K hK => ?_) AllReadyH.nil))
   ·
    go_simp
    refine hK.out _ _ trivial (fun _ => ?_)
    clear hK K
    (try simp only [Act.put, zA, zB, zC])
    refine wpAnyH_ready (rs := [1]) (by kernel_rfl) (by simp) ?_
    refine (AllReadyH.cons rfl (fun K hK => ?_) AllReadyH.nil)
    ·
     go_simp
     go_at_call 36
     refine (HNUM.out _).mono ?_
     rintro e w42 ⟨hq, rfl⟩
     dsimp only
     refine hK.out _ _ trivial (fun _ => ?_)
     clear hK K
     (try simp only [Act.put, zA, zB, zC])
     have k_i := HI.out.keep hq
     have k_d := HD.out.keep hq
     have k_r := HR.out.keep hq
     have k_x := HX.out.keep hq
     have tl := HBL.out.trans ((hq).mono HBL.out.size)
     have to_ := HTO.out.trans (Only.ofBelow _ (hq))
     clear HTO
     have HTO := zh to_; clear to_
     clear HBL HI HD HR HX
     clear i_0 i_f0 i_1 i_f1 i_2 i_f2 i_3 i_f3 i_4 i_f4 i_5 i_f5 i_6 i_f6 i_7 i_f7
     obtain ⟨i_0, i_f0, i_1, i_f1, i_2, i_f2, i_3, i_f3, i_4, i_f4, i_5, i_f5, i_6, i_f6, i_7, i_f7⟩ := k_i.f8
     have HI := zh k_i; clear k_i
     clear d_0 d_f0 d_1 d_f1 d_2 d_f2 d_3 d_f3
     obtain ⟨d_0, d_f0, d_1, d_f1, d_2, d_f2, d_3, d_f3⟩ := k_d.f4
     have HD := zh k_d; clear k_d
     clear r_0 r_f0 r_1 r_f1 r_2 r_f2 r_3 r_f3 r_4 r_f4 r_5 r_f5 r_6 r_f6 r_7 r_f7
     obtain ⟨r_0, r_f0, r_1, r_f1, r_2, r_f2, r_3, r_f3, r_4, r_f4, r_5, r_f5, r_6, r_f6, r_7, r_f7⟩ := k_r.f8
     have HR := zh k_r; clear k_r
     clear x_0 x_f0 x_1 x_f1 x_2 x_f2 x_3 x_f3
     obtain ⟨x_0, x_f0, x_1, x_f1, x_2, x_f2, x_3, x_f3⟩ := k_x.f4
     have HX := zh k_x; clear k_x
     have HBL := zh tl; clear tl
     clear hq
     refine wpAnyH_ready (rs := [2]) (by kernel_rfl) (by simp) ?_
     refine (AllReadyH.cons rfl (fun K hK => ?_) AllReadyH.nil)
     ·
      go_simp
      go_at_call 33
      refine (HMD1.out _).mono ?_
      rintro e w43 ⟨hq, rfl⟩
      dsimp only
      refine hK.out _ _ trivial (fun _ => ?_)
      clear hK K
      (try simp only [Act.put, zA, zB, zC])
      have k_i := HI.out.keep hq
      have k_d := HD.out.keep hq
      have k_r := HR.out.keep hq
      have k_x := HX.out.keep hq
      have tl := HBL.out.trans ((hq).mono HBL.out.size)
      have to_ := HTO.out.trans (Only.ofBelow _ (hq))
      clear HTO
      have HTO := zh to_; clear to_
      clear HBL HI HD HR HX
      clear i_0 i_f0 i_1 i_f1 i_2 i_f2 i_3 i_f3 i_4 i_f4 i_5 i_f5 i_6 i_f6 i_7 i_f7
      obtain ⟨i_0, i_f0, i_1, i_f1, i_2, i_f2, i_3, i_f3, i_4, i_f4, i_5, i_f5, i_6, i_f6, i_7, i_f7⟩ := k_i.f8
      have HI := zh k_i; clear k_i
      clear d_0 d_f0 d_1 d_f1 d_2 d_f2 d_3 d_f3
      obtain ⟨d_0, d_f0, d_1, d_f1, d_2, d_f2, d_3, d_f3⟩ := k_d.f4
      have HD := zh k_d; clear k_d
      clear r_0 r_f0 r_1 r_f1 r_2 r_f2 r_3 r_f3 r_4 r_f4 r_5 r_f5 r_6 r_f6 r_7 r_f7
      obtain ⟨r_0, r_f0, r_1, r_f1, r_2, r_f2, r_3, r_f3, r_4, r_f4, r_5, r_f5, r_6, r_f6, r_7, r_f7⟩ := k_r.f8
      have HR := zh k_r; clear k_r
      clear x_0 x_f0 x_1 x_f1 x_2 x_f2 x_3 x_f3
      obtain ⟨x_0, x_f0, x_1, x_f1, x_2, x_f2, x_3, x_f3⟩ := k_x.f4
      have HX := zh k_x; clear k_x
      have HBL := zh tl; clear tl
      clear hq
      refine wpAnyH_ready (rs := [3]) (by kernel_rfl) (by simp) ?_
      refine (AllReadyH.cons rfl (fun K hK => ?_) AllReadyH.nil)
      ·
       go_simp
       refine hK.out _ _ trivial (fun _ => ?_)
       clear hK K
       (try simp only [Act.put, zA, zB, zC])
       refine wpAnyH_done (by kernel_rfl) ?_ _
       (try simp only [List.getElem_toArray, List.getElem_cons_zero, List.getElem_cons_succ, Act.put, zA, zB, zC])
       obtain ⟨w44, hw_⟩ : ∃ x, x = ((((w43).setCell ⟨bx, 0, none⟩ (.bool (ineg ((wds lo hi (k + 1))).num))).setCell ⟨bx, 1, none⟩ (.string (imag ((wds lo hi (k + 1))).num))).setCell ⟨bx, 2, none⟩ (.bool (ineg (((wds lo hi (k + 1))).den : Int)))).setCell ⟨bx, 3, none⟩ (.string (imag (((wds lo hi (k + 1))).den : Int))) := ⟨_, rfl⟩
       (try rw [← hw_])
       have k_i : Blk w44 (w.heap.size) 54 [.bool (ineg lo.num), .string (imag lo.num), .bool (ineg (lo.den : Int)), .string (imag (lo.den : Int)), .bool (ineg hi.num), .string (imag hi.num), .bool (ineg (hi.den : Int)), .string (imag (hi.den : Int))] := by rw [hw_]; exact ((((HI.out.setOther (a := ⟨bx, 0, none⟩) (by show bx ≠ w.heap.size; omega) (.bool (ineg ((wds lo hi (k + 1))).num))).setOther (a := ⟨bx, 1, none⟩) (by show bx ≠ w.heap.size; omega) (.string (imag ((wds lo hi (k + 1))).num))).setOther (a := ⟨bx, 2, none⟩) (by show bx ≠ w.heap.size; omega) (.bool (ineg (((wds lo hi (k + 1))).den : Int)))).setOther (a := ⟨bx, 3, none⟩) (by show bx ≠ w.heap.size; omega) (.string (imag (((wds lo hi (k + 1))).den : Int))))
       have k_d : Blk w44 (w.heap.size + 1) 35 [.bool (ineg wd.num), .string (imag wd.num), .bool (ineg (wd.den : Int)), .string (imag (wd.den : Int))] := by rw [hw_]; exact ((((HD.out.setOther (a := ⟨bx, 0, none⟩) (by show bx ≠ w.heap.size + 1; omega) (.bool (ineg ((wds lo hi (k + 1))).num))).setOther (a := ⟨bx, 1, none⟩) (by show bx ≠ w.heap.size + 1; omega) (.string (imag ((wds lo hi (k + 1))).num))).setOther (a := ⟨bx, 2, none⟩) (by show bx ≠ w.heap.size + 1; omega) (.bool (ineg (((wds lo hi (k + 1))).den : Int)))).setOther (a := ⟨bx, 3, none⟩) (by show bx ≠ w.heap.size + 1; omega) (.string (imag (((wds lo hi (k + 1))).den : Int))))
       have k_r : Blk w44 (w.heap.size + 2) 54 [.bool false, .string ⟨#[]⟩, .bool false, .string ⟨#[]⟩, .bool false, .string ⟨#[]⟩, .bool false, .string ⟨#[]⟩] := by rw [hw_]; exact ((((HR.out.setOther (a := ⟨bx, 0, none⟩) (by show bx ≠ w.heap.size + 2; omega) (.bool (ineg ((wds lo hi (k + 1))).num))).setOther (a := ⟨bx, 1, none⟩) (by show bx ≠ w.heap.size + 2; omega) (.string (imag ((wds lo hi (k + 1))).num))).setOther (a := ⟨bx, 2, none⟩) (by show bx ≠ w.heap.size + 2; omega) (.bool (ineg (((wds lo hi (k + 1))).den : Int)))).setOther (a := ⟨bx, 3, none⟩) (by show bx ≠ w.heap.size + 2; omega) (.string (imag (((wds lo hi (k + 1))).den : Int))))
       have k_x : Blk w44 (bx) 35 [.bool (ineg ((wds lo hi (k + 1))).num), .string (imag ((wds lo hi (k + 1))).num), .bool (ineg (((wds lo hi (k + 1))).den : Int)), .string (imag (((wds lo hi (k + 1))).den : Int))] := by rw [hw_]; exact ((((HX.out.set 0 (.bool (ineg ((wds lo hi (k + 1))).num))).set 1 (.string (imag ((wds lo hi (k + 1))).num))).set 2 (.bool (ineg (((wds lo hi (k + 1))).den : Int)))).set 3 (.string (imag (((wds lo hi (k + 1))).den : Int))))
       have tl : Below w.heap.size w w44 := by rw [hw_]; exact ((((HBL.out.setCell (p := ⟨bx, 0, none⟩) (by show w.heap.size ≤ bx; omega) (.bool (ineg ((wds lo hi (k + 1))).num))).setCell (p := ⟨bx, 1, none⟩) (by show w.heap.size ≤ bx; omega) (.string (imag ((wds lo hi (k + 1))).num))).setCell (p := ⟨bx, 2, none⟩) (by show w.heap.size ≤ bx; omega) (.bool (ineg (((wds lo hi (k + 1))).den : Int)))).setCell (p := ⟨bx, 3, none⟩) (by show w.heap.size ≤ bx; omega) (.string (imag (((wds lo hi (k + 1))).den : Int))))
       have to_ : Only (fun k _ => k < D) AW w44 := by rw [hw_]; exact ((((HTO.out.trans' (Only.setCell (c := fun k _ => k = bx) (a := ⟨bx, 0, none⟩) (.bool (ineg ((wds lo hi (k + 1))).num)) (fun o _ => rfl)) (fun b o hb he => by have he' : b = bx := he; omega)).trans' (Only.setCell (c := fun k _ => k = bx) (a := ⟨bx, 1, none⟩) (.string (imag ((wds lo hi (k + 1))).num)) (fun o _ => rfl)) (fun b o hb he => by have he' : b = bx := he; omega)).trans' (Only.setCell (c := fun k _ => k = bx) (a := ⟨bx, 2, none⟩) (.bool (ineg (((wds lo hi (k + 1))).den : Int))) (fun o _ => rfl)) (fun b o hb he => by have he' : b = bx := he; omega)).trans' (Only.setCell (c := fun k _ => k = bx) (a := ⟨bx, 3, none⟩) (.string (imag (((wds lo hi (k + 1))).den : Int))) (fun o _ => rfl)) (fun b o hb he => by have he' : b = bx := he; omega))
       clear HTO
       have HTO := zh to_; clear to_
       clear HBL hw_ HI HD HR HX
       clear x_0 x_f0 x_1 x_f1 x_2 x_f2 x_3 x_f3
       clear i_0 i_f0 i_1 i_f1 i_2 i_f2 i_3 i_f3 i_4 i_f4 i_5 i_f5 i_6 i_f6 i_7 i_f7
       obtain ⟨i_0, i_f0, i_1, i_f1, i_2, i_f2, i_3, i_f3, i_4, i_f4, i_5, i_f5, i_6, i_f6, i_7, i_f7⟩ := k_i.f8
       have HI := zh k_i; clear k_i
       clear d_0 d_f0 d_1 d_f1 d_2 d_f2 d_3 d_f3
       obtain ⟨d_0, d_f0, d_1, d_f1, d_2, d_f2, d_3, d_f3⟩ := k_d.f4
       have HD := zh k_d; clear k_d
       clear r_0 r_f0 r_1 r_f1 r_2 r_f2 r_3 r_f3 r_4 r_f4 r_5 r_f5 r_6 r_f6 r_7 r_f7
       obtain ⟨r_0, r_f0, r_1, r_f1, r_2, r_f2, r_3, r_f3, r_4, r_f4, r_5, r_f5, r_6, r_f6, r_7, r_f7⟩ := k_r.f8
       have HR := zh k_r; clear k_r
       obtain ⟨x_0, x_f0, x_1, x_f1, x_2, x_f2, x_3, x_f3⟩ := k_x.f4
       have HX := zh k_x; clear k_x
       have HBL := zh tl; clear tl
       go_wp2_with fail
       have hal : Below w44.heap.size w44 (w44.alloc (.cells #[.bool (ineg ((wds lo hi (k + 1))).num), .string (imag ((wds lo hi (k + 1))).num), .bool (ineg (((wds lo hi (k + 1))).den : Int)), .string (imag (((wds lo hi (k + 1))).den : Int))] 35)) := (Below.refl _ _).alloc (Nat.le_refl _) _
       have hyA := HTO.out.size
       have k_y : Blk (w44.alloc (.cells #[.bool (ineg ((wds lo hi (k + 1))).num), .string (imag ((wds lo hi (k + 1))).num), .bool (ineg (((wds lo hi (k + 1))).den : Int)), .string (imag (((wds lo hi (k + 1))).den : Int))] 35)) w44.heap.size 35 [.bool (ineg ((wds lo hi (k + 1))).num), .string (imag ((wds lo hi (k + 1))).num), .bool (ineg (((wds lo hi (k + 1))).den : Int)), .string (imag (((wds lo hi (k + 1))).den : Int))] := Blk.new w44 _ _
       have k_i := HI.out.keep hal
       have k_d := HD.out.keep hal
       have k_r := HR.out.keep hal
       have k_x := HX.out.keep hal
       have tl := HBL.out.trans ((hal).mono HBL.out.size)
       have to_ := HTO.out.trans (Only.ofBelow _ (hal))
       clear HTO
       have HTO := zh to_; clear to_
       clear HBL HI HD HR HX
       clear i_0 i_f0 i_1 i_f1 i_2 i_f2 i_3 i_f3 i_4 i_f4 i_5 i_f5 i_6 i_f6 i_7 i_f7
       obtain ⟨i_0, i_f0, i_1, i_f1, i_2, i_f2, i_3, i_f3, i_4, i_f4, i_5, i_f5, i_6, i_f6, i_7, i_f7⟩ := k_i.f8
       have HI := zh k_i; clear k_i
       clear d_0 d_f0 d_1 d_f1 d_2 d_f2 d_3 d_f3
       obtain ⟨d_0, d_f0, d_1, d_f1, d_2, d_f2, d_3, d_f3⟩ := k_d.f4
       have HD := zh k_d; clear k_d
       clear r_0 r_f0 r_1 r_f1 r_2 r_f2 r_3 r_f3 r_4 r_f4 r_5 r_f5 r_6 r_f6 r_7 r_f7
       obtain ⟨r_0, r_f0, r_1, r_f1, r_2, r_f2, r_3, r_f3, r_4, r_f4, r_5, r_f5, r_6, r_f6, r_7, r_f7⟩ := k_r.f8
       have HR := zh k_r; clear k_r
       clear x_0 x_f0 x_1 x_f1 x_2 x_f2 x_3 x_f3
       obtain ⟨x_0, x_f0, x_1, x_f1, x_2, x_f2, x_3, x_f3⟩ := k_x.f4
       have HX := zh k_x; clear k_x
       have HBL := zh tl; clear tl
       go_roundw
       case rel => exact ⟨k + 1, _, by omega, by go_num, rfl, hyA, HBL.out, HTO.out, HI.out, HD.out, HR.out, k_y⟩
       case measure => simp [intOf]; omega
   ·
    go_simp
    go_at_call 36
    refine (HNUM.out _).mono ?_
    rintro e w42 ⟨hq, rfl⟩
    dsimp only
    refine hK.out _ _ trivial (fun _ => ?_)
    clear hK K
    (try simp only [Act.put, zA, zB, zC])
    have k_i := HI.out.keep hq
    have k_d := HD.out.keep hq
    have k_r := HR.out.keep hq
    have k_x := HX.out.keep hq
    have tl := HBL.out.trans ((hq).mono HBL.out.size)
    have to_ := HTO.out.trans (Only.ofBelow _ (hq))
    clear HTO
    have HTO := zh to_; clear to_
    clear HBL HI HD HR HX
    clear i_0 i_f0 i_1 i_f1 i_2 i_f2 i_3 i_f3 i_4 i_f4 i_5 i_f5 i_6 i_f6 i_7 i_f7
    obtain ⟨i_0, i_f0, i_1, i_f1, i_2, i_f2, i_3, i_f3, i_4, i_f4, i_5, i_f5, i_6, i_f6, i_7, i_f7⟩ := k_i.f8
    have HI := zh k_i; clear k_i
    clear d_0 d_f0 d_1 d_f1 d_2 d_f2 d_3 d_f3
    obtain ⟨d_0, d_f0, d_1, d_f1, d_2, d_f2, d_3, d_f3⟩ := k_d.f4
    have HD := zh k_d; clear k_d
    clear r_0 r_f0 r_1 r_f1 r_2 r_f2 r_3 r_f3 r_4 r_f4 r_5 r_f5 r_6 r_f6 r_7 r_f7
    obtain ⟨r_0, r_f0, r_1, r_f1, r_2, r_f2, r_3, r_f3, r_4, r_f4, r_5, r_f5, r_6, r_f6, r_7, r_f7⟩ := k_r.f8
    have HR := zh k_r; clear k_r
    clear x_0 x_f0 x_1 x_f1 x_2 x_f2 x_3 x_f3
    obtain ⟨x_0, x_f0, x_1, x_f1, x_2, x_f2, x_3, x_f3⟩ := k_x.f4
    have HX := zh k_x; clear k_x
    have HBL := zh tl; clear tl
    clear hq
    refine wpAnyH_ready (rs := [0]) (by kernel_rfl) (by simp) ?_
    refine (AllReadyH.cons rfl (fun K hK => ?_) AllReadyH.nil)
    ·
     go_simp
     refine hK.out _ _ trivial (fun _ => ?_)
     clear hK K
     (try simp only [Act.put, zA, zB, zC])
     refine wpAnyH_ready (rs := [2]) (by kernel_rfl) (by simp) ?_
     refine (AllReadyH.cons rfl (fun K hK => ?_) AllReadyH.nil)
     ·
      go_simp
      go_at_call 33
      refine (HMD1.out _).mono ?_
      rintro e w43 ⟨hq, rfl⟩
      dsimp only
      refine hK.out _ _ trivial (fun _ => ?_)
      clear hK K
      (try simp only [Act.put, zA, zB, zC])
      have k_i := HI.out.keep hq
      have k_d := HD.out.keep hq
      have k_r := HR.out.keep hq
      have k_x := HX.out.keep hq
      have tl := HBL.out.trans ((hq).mono HBL.out.size)
      have to_ := HTO.out.trans (Only.ofBelow _ (hq))
      clear HTO
      have HTO := zh to_; clear to_
      clear HBL HI HD HR HX
      clear i_0 i_f0 i_1 i_f1 i_2 i_f2 i_3 i_f3 i_4 i_f4 i_5 i_f5 i_6 i_f6 i_7 i_f7
      obtain ⟨i_0, i_f0, i_1, i_f1, i_2, i_f2, i_3, i_f3, i_4, i_f4, i_5, i_f5, i_6, i_f6, i_7, i_f7⟩ := k_i.f8
      have HI := zh k_i; clear k_i
      clear d_0 d_f0 d_1 d_f1 d_2 d_f2 d_3 d_f3
      obtain ⟨d_0, d_f0, d_1, d_f1, d_2, d_f2, d_3, d_f3⟩ := k_d.f4
      have HD := zh k_d; clear k_d
      clear r_0 r_f0 r_1 r_f1 r_2 r_f2 r_3 r_f3 r_4 r_f4 r_5 r_f5 r_6 r_f6 r_7 r_f7
      obtain ⟨r_0, r_f0, r_1, r_f1, r_2, r_f2, r_3, r_f3, r_4, r_f4, r_5, r_f5, r_6, r_f6, r_7, r_f7⟩ := k_r.f8
      have HR := zh k_r; clear k_r
      clear x_0 x_f0 x_1 x_f1 x_2 x_f2 x_3 x_f3
      obtain ⟨x_0, x_f0, x_1, x_f1, x_2, x_f2, x_3, x_f3⟩ := k_x.f4
      have HX := zh k_x; clear k_x
      have HBL := zh tl; clear tl
      clear hq
      refine wpAnyH_ready (rs := [3]) (by kernel_rfl) (by simp) ?_
      refine (AllReadyH.cons rfl (fun K hK => ?_) AllReadyH.nil)
      ·
       go_simp
       refine hK.out _ _ trivial (fun _ => ?_)
       clear hK K
       (try simp only [Act.put, zA, zB, zC])
       refine wpAnyH_done (by kernel_rfl) ?_ _
       (try simp only [List.getElem_toArray, List.getElem_cons_zero, List.getElem_cons_succ, Act.put, zA, zB, zC])
       obtain ⟨w44, hw_⟩ : ∃ x, x = ((((w43).setCell ⟨bx, 0, none⟩ (.bool (ineg ((wds lo hi (k + 1))).num))).setCell ⟨bx, 1, none⟩ (.string (imag ((wds lo hi (k + 1))).num))).setCell ⟨bx, 2, none⟩ (.bool (ineg (((wds lo hi (k + 1))).den : Int)))).setCell ⟨bx, 3, none⟩ (.string (imag (((wds lo hi (k + 1))).den : Int))) := ⟨_, rfl⟩
       (try rw [← hw_])
       have k_i : Blk w44 (w.heap.size) 54 [.bool (ineg lo.num), .string (imag lo.num), .bool (ineg (lo.den : Int)), .string (imag (lo.den : Int)), .bool (ineg hi.num), .string (imag hi.num), .bool (ineg (hi.den : Int)), .string (imag (hi.den : Int))] := by rw [hw_]; exact ((((HI.out.setOther (a := ⟨bx, 0, none⟩) (by show bx ≠ w.heap.size; omega) (.bool (ineg ((wds lo hi (k + 1))).num))).setOther (a := ⟨bx, 1, none⟩) (by show bx ≠ w.heap.size; omega) (.string (imag ((wds lo hi (k + 1))).num))).setOther (a := ⟨bx, 2, none⟩) (by show bx ≠ w.heap.size; omega) (.bool (ineg (((wds lo hi (k + 1))).den : Int)))).setOther (a := ⟨bx, 3, none⟩) (by show bx ≠ w.heap.size; omega) (.string (imag (((wds lo hi (k + 1))).den : Int))))
       have k_d : Blk w44 (w.heap.size + 1) 35 [.bool (ineg wd.num), .string (imag wd.num), .bool (ineg (wd.den : Int)), .string (imag (wd.den : Int))] := by rw [hw_]; exact ((((HD.out.setOther (a := ⟨bx, 0, none⟩) (by show bx ≠ w.heap.size + 1; omega) (.bool (ineg ((wds lo hi (k + 1))).num))).setOther (a := ⟨bx, 1, none⟩) (by show bx ≠ w.heap.size + 1; omega) (.string (imag ((wds lo hi (k + 1))).num))).setOther (a := ⟨bx, 2, none⟩) (by show bx ≠ w.heap.size + 1; omega) (.bool (ineg (((wds lo hi (k + 1))).den : Int)))).setOther (a := ⟨bx, 3, none⟩) (by show bx ≠ w.heap.size + 1; omega) (.string (imag (((wds lo hi (k + 1))).den : Int))))
       have k_r : Blk w44 (w.heap.size + 2) 54 [.bool false, .string ⟨#[]⟩, .bool false, .string ⟨#[]⟩, .bool false, .string ⟨#[]⟩, .bool false, .string ⟨#[]⟩] := by rw [hw_]; exact ((((HR.out.setOther (a := ⟨bx, 0, none⟩) (by show bx ≠ w.heap.size + 2; omega) (.bool (ineg ((wds lo hi (k + 1))).num))).setOther (a := ⟨bx, 1, none⟩) (by show bx ≠ w.heap.size + 2; omega) (.string (imag ((wds lo hi (k + 1))).num))).setOther (a := ⟨bx, 2, none⟩) (by show bx ≠ w.heap.size + 2; omega) (.bool (ineg (((wds lo hi (k + 1))).den : Int)))).setOther (a := ⟨bx, 3, none⟩) (by show bx ≠ w.heap.size + 2; omega) (.string (imag (((wds lo hi (k + 1))).den : Int))))
       have k_x : Blk w44 (bx) 35 [.bool (ineg ((wds lo hi (k + 1))).num), .string (imag ((wds lo hi (k + 1))).num), .bool (ineg (((wds lo hi (k + 1))).den : Int)), .string (imag (((wds lo hi (k + 1))).den : Int))] := by rw [hw_]; exact ((((HX.out.set 0 (.bool (ineg ((wds lo hi (k + 1))).num))).set 1 (.string (imag ((wds lo hi (k + 1))).num))).set 2 (.bool (ineg (((wds lo hi (k + 1))).den : Int)))).set 3 (.string (imag (((wds lo hi (k + 1))).den : Int))))
       have tl : Below w.heap.size w w44 := by rw [hw_]; exact ((((HBL.out.setCell (p := ⟨bx, 0, none⟩) (by show w.heap.size ≤ bx; omega) (.bool (ineg ((wds lo hi (k + 1))).num))).setCell (p := ⟨bx, 1, none⟩) (by show w.heap.size ≤ bx; omega) (.string (imag ((wds lo hi (k + 1))).num))).setCell (p := ⟨bx, 2, none⟩) (by show w.heap.size ≤ bx; omega) (.bool (ineg (((wds lo hi (k + 1))).den : Int)))).setCell (p := ⟨bx, 3, none⟩) (by show w.heap.size ≤ bx; omega) (.string (imag (((wds lo hi (k + 1))).den : Int))))
       have to_ : Only (fun k _ => k < D) AW w44 := by rw [hw_]; exact ((((HTO.out.trans' (Only.setCell (c := fun k _ => k = bx) (a := ⟨bx, 0, none⟩) (.bool (ineg ((wds lo hi (k + 1))).num)) (fun o _ => rfl)) (fun b o hb he => by have he' : b = bx := he; omega)).trans' (Only.setCell (c := fun k _ => k = bx) (a := ⟨bx, 1, none⟩) (.string (imag ((wds lo hi (k + 1))).num)) (fun o _ => rfl)) (fun b o hb he => by have he' : b = bx := he; omega)).trans' (Only.setCell (c := fun k _ => k = bx) (a := ⟨bx, 2, none⟩) (.bool (ineg (((wds lo hi (k + 1))).den : Int))) (fun o _ => rfl)) (fun b o hb he => by have he' : b = bx := he; omega)).trans' (Only.setCell (c := fun k _ => k = bx) (a := ⟨bx, 3, none⟩) (.string (imag (((wds lo hi (k + 1))).den : Int))) (fun o _ => rfl)) (fun b o hb he => by have he' : b = bx := he; omega))
       clear HTO
       have HTO := zh to_; clear to_
       clear HBL hw_ HI HD HR HX
       clear x_0 x_f0 x_1 x_f1 x_2 x_f2 x_3 x_f3
       clear i_0 i_f0 i_1 i_f1 i_2 i_f2 i_3 i_f3 i_4 i_f4 i_5 i_f5 i_6 i_f6 i_7 i_f7
       obtain ⟨i_0, i_f0, i_1, i_f1, i_2, i_f2, i_3, i_f3, i_4, i_f4, i_5, i_f5, i_6, i_f6, i_7, i_f7⟩ := k_i.f8
       have HI := zh k_i; clear k_i
       clear d_0 d_f0 d_1 d_f1 d_2 d_f2 d_3 d_f3
       obtain ⟨d_0, d_f0, d_1, d_f1, d_2, d_f2, d_3, d_f3⟩ := k_d.f4
       have HD := zh k_d; clear k_d
       clear r_0 r_f0 r_1 r_f1 r_2 r_f2 r_3 r_f3 r_4 r_f4 r_5 r_f5 r_6 r_f6 r_7 r_f7
       obtain ⟨r_0, r_f0, r_1, r_f1, r_2, r_f2, r_3, r_f3, r_4, r_f4, r_5, r_f5, r_6, r_f6, r_7, r_f7⟩ := k_r.f8
       have HR := zh k_r; clear k_r
       obtain ⟨x_0, x_f0, x_1, x_f1, x_2, x_f2, x_3, x_f3⟩ := k_x.f4
       have HX := zh k_x; clear k_x
       have HBL := zh tl; clear tl
       go_wp2_with fail
       have hal : Below w44.heap.size w44 (w44.alloc (.cells #[.bool (ineg ((wds lo hi (k + 1))).num), .string (imag ((wds lo hi (k + 1))).num), .bool (ineg (((wds lo hi (k + 1))).den : Int)), .string (imag (((wds lo hi (k + 1))).den : Int))] 35)) := (Below.refl _ _).alloc (Nat.le_refl _) _
       have hyA := HTO.out.size
       have k_y : Blk (w44.alloc (.cells #[.bool (ineg ((wds lo hi (k + 1))).num), .string (imag ((wds lo hi (k + 1))).num), .bool (ineg (((wds lo hi (k + 1))).den : Int)), .string (imag (((wds lo hi (k + 1))).den : Int))] 35)) w44.heap.size 35 [.bool (ineg ((wds lo hi (k + 1))).num), .string (imag ((wds lo hi (k + 1))).num), .bool (ineg (((wds lo hi (k + 1))).den : Int)), .string (imag (((wds lo hi (k + 1))).den : Int))] := Blk.new w44 _ _
       have k_i := HI.out.keep hal
       have k_d := HD.out.keep hal
       have k_r := HR.out.keep hal
       have k_x := HX.out.keep hal
       have tl := HBL.out.trans ((hal).mono HBL.out.size)
       have to_ := HTO.out.trans (Only.ofBelow _ (hal))
       clear HTO
       have HTO := zh to_; clear to_
       clear HBL HI HD HR HX
       clear i_0 i_f0 i_1 i_f1 i_2 i_f2 i_3 i_f3 i_4 i_f4 i_5 i_f5 i_6 i_f6 i_7 i_f7
       obtain ⟨i_0, i_f0, i_1, i_f1, i_2, i_f2, i_3, i_f3, i_4, i_f4, i_5, i_f5, i_6, i_f6, i_7, i_f7⟩ := k_i.f8
       have HI := zh k_i; clear k_i
       clear d_0 d_f0 d_1 d_f1 d_2 d_f2 d_3 d_f3
       obtain ⟨d_0, d_f0, d_1, d_f1, d_2, d_f2, d_3, d_f3⟩ := k_d.f4
       have HD := zh k_d; clear k_d
       clear r_0 r_f0 r_1 r_f1 r_2 r_f2 r_3 r_f3 r_4 r_f4 r_5 r_f5 r_6 r_f6 r_7 r_f7
       obtain ⟨r_0, r_f0, r_1, r_f1, r_2, r_f2, r_3, r_f3, r_4, r_f4, r_5, r_f5, r_6, r_f6, r_7, r_f7⟩ := k_r.f8
       have HR := zh k_r; clear k_r
       clear x_0 x_f0 x_1 x_f1 x_2 x_f2 x_3 x_f3
       obtain ⟨x_0, x_f0, x_1, x_f1, x_2, x_f2, x_3, x_f3⟩ := k_x.f4
       have HX := zh k_x; clear k_x
       have HBL := zh tl; clear tl
       go_roundw
       case rel => exact ⟨k + 1, _, by omega, by go_num, rfl, hyA, HBL.out, HTO.out, HI.out, HD.out, HR.out, k_y⟩
       case measure => simp [intOf]; omega
  ·
   obtain rfl : k = N := by omega
   obtain ⟨c, hc⟩ : ∃ c : Int, c = if wds lo hi k < wd then -1 else if wds lo hi k = wd then 0 else 1 := ⟨_, rfl⟩
   have hc0 : decide (0 < c) = false := decide_eq_false (by
    have hle := Rat.not_lt.1 HNE.out
    rw [hc]
    by_cases h1 : wds lo hi k < wd
    ·
     rw [if_pos h1]; decide
    ·
     rw [if_neg h1, if_pos (Rat.le_antisymm hle (Rat.not_lt.1 h1))]; decide)
   rw [← hc] at hcw
   clear hc hsk
   have HCW1 := zh hcw; clear hcw
   obtain ⟨i_0, i_f0, i_1, i_f1, i_2, i_f2, i_3, i_f3, i_4, i_f4, i_5, i_f5, i_6, i_f6, i_7, i_f7⟩ := k_i.f8
   have HI := zh k_i; clear k_i
   obtain ⟨d_0, d_f0, d_1, d_f1, d_2, d_f2, d_3, d_f3⟩ := k_d.f4
   have HD := zh k_d; clear k_d
   obtain ⟨r_0, r_f0, r_1, r_f1, r_2, r_f2, r_3, r_f3, r_4, r_f4, r_5, r_f5, r_6, r_f6, r_7, r_f7⟩ := k_r.f8
   have HR := zh k_r; clear k_r
   obtain ⟨x_0, x_f0, x_1, x_f1, x_2, x_f2, x_3, x_f3⟩ := k_x.f4
   have HX := zh k_x; clear k_x
   have HBL := zh tl; clear tl
   go_wp2_with fail
   refine (HCW1.out _).mono ?_
   rintro e w81 ⟨hq, rfl⟩
   dsimp only
   have k_i := HI.out.keep hq
   have k_d := HD.out.keep hq
   have k_r := HR.out.keep hq
   have k_x := HX.out.keep hq
   have tl := HBL.out.trans ((hq).mono HBL.out.size)
   have to_ := HTO.out.trans (Only.ofBelow _ (hq))
   clear HTO
   have HTO := zh to_; clear to_
   clear HBL HI HD HR HX
   clear i_0 i_f0 i_1 i_f1 i_2 i_f2 i_3 i_f3 i_4 i_f4 i_5 i_f5 i_6 i_f6 i_7 i_f7
   obtain ⟨i_0, i_f0, i_1, i_f1, i_2, i_f2, i_3, i_f3, i_4, i_f4, i_5, i_f5, i_6, i_f6, i_7, i_f7⟩ := k_i.f8
   have HI := zh k_i; clear k_i
   clear d_0 d_f0 d_1 d_f1 d_2 d_f2 d_3 d_f3
   obtain ⟨d_0, d_f0, d_1, d_f1, d_2, d_f2, d_3, d_f3⟩ := k_d.f4
   have HD := zh k_d; clear k_d
   clear r_0 r_f0 r_1 r_f1 r_2 r_f2 r_3 r_f3 r_4 r_f4 r_5 r_f5 r_6 r_f6 r_7 r_f7
   obtain ⟨r_0, r_f0, r_1, r_f1, r_2, r_f2, r_3, r_f3, r_4, r_f4, r_5, r_f5, r_6, r_f6, r_7, r_f7⟩ := k_r.f8
   have HR := zh k_r; clear k_r
   clear x_0 x_f0 x_1 x_f1 x_2 x_f2 x_3 x_f3
   obtain ⟨x_0, x_f0, x_1, x_f1, x_2, x_f2, x_3, x_f3⟩ := k_x.f4
   have HX := zh k_x; clear k_x
   have HBL := zh tl; clear tl
   clear hq
   go_wp2_with fail
   go_loopw [74] (fun s wr => ∃ j : Nat, j ≤ k ∧ s = .int .i64 (j : Int) ∧ Below w.heap.size w wr ∧ Only (fun k _ => k < D) AW wr ∧ Blk wr w.heap.size 54 [.bool (ineg ((rfn rows (lo, hi) j).1).num), .string (imag ((rfn rows (lo, hi) j).1).num), .bool (ineg (((rfn rows (lo, hi) j).1).den : Int)), .string (imag (((rfn rows (lo, hi) j).1).den : Int)), .bool (ineg ((rfn rows (lo, hi) j).2).num), .string (imag ((rfn rows (lo, hi) j).2).num), .bool (ineg (((rfn rows (lo, hi) j).2).den : Int)), .string (imag (((rfn rows (lo, hi) j).2).den : Int))] ∧ Blk wr (w.heap.size + 1) 35 [.bool (ineg wd.num), .string (imag wd.num), .bool (ineg (wd.den : Int)), .string (imag (wd.den : Int))] ∧ Blk wr (w.heap.size + 2) 54 [.bool false, .string ⟨#[]⟩, .bool false, .string ⟨#[]⟩, .bool false, .string ⟨#[]⟩, .bool false, .string ⟨#[]⟩]) (fun s _ => k - (intOf s).toNat)
   case atStart => exact ⟨0, Nat.zero_le _, rfl, HBL.out, HTO.out, by rw [HRF0.out]; exact HI.out, HD.out, HR.out⟩
   case round =>
    clear HBL HTO HI HD HR HX i_0 i_f0 i_1 i_f1 i_2 i_f2 i_3 i_f3 i_4 i_f4 i_5 i_f5 i_6 i_f6 i_7 i_f7 d_0 d_f0 d_1 d_f1 d_2 d_f2 d_3 d_f3 r_0 r_f0 r_1 r_f1 r_2 r_f2 r_3 r_f3 r_4 r_f4 r_5 r_f5 r_6 r_f6 r_7 r_f7 x_0 x_f0 x_1 x_f1 x_2 x_f2 x_3 x_f3
    obtain ⟨j, hj, rfl, tl, hto, k_i, k_d, k_r⟩ := hrel
    obtain ⟨wo2, rfl⟩ : ∃ wo2 : World, wo2 = wr := ⟨_, rfl⟩
    have HTO := zh hto; clear hto
    have hss := HSR.out j hj
    have hnext : rfn rows (lo, hi) (j + 1) = if (chg rows (rfn rows (lo, hi) j).1 : Int) - (chg rows (((rfn rows (lo, hi) j).1 + (rfn rows (lo, hi) j).2) / 2) : Int) = 1 then ((rfn rows (lo, hi) j).1, ((rfn rows (lo, hi) j).1 + (rfn rows (lo, hi) j).2) / 2) else (((rfn rows (lo, hi) j).1 + (rfn rows (lo, hi) j).2) / 2, (rfn rows (lo, hi) j).2) := rfl
    by_cases hjN : j < k
    ·
     have hss1 := HSR.out (j + 1) hjN
     obtain ⟨a, ha⟩ : ∃ a, a = (rfn rows (lo, hi) j).1 := ⟨_, rfl⟩
     obtain ⟨b, hb⟩ : ∃ b, b = (rfn rows (lo, hi) j).2 := ⟨_, rfl⟩
     rw [← ha] at k_i hss hnext
     rw [← hb] at k_i hss hnext
     have hmd := HMD.out a b hss.1 hss.2
     obtain ⟨m, hm⟩ : ∃ m, m = (a + b) / 2 := ⟨_, rfl⟩
     rw [← hm] at hmd hnext
     have hsm : rs K m := by
      rw [hnext] at hss1
      split at hss1
      ·
       exact hss1.2
      ·
       exact hss1.1
     have hcn := HCN.out a m hss.1 hsm va2 m2 vc2
     obtain ⟨d, hd⟩ : ∃ d, d = (chg rows a : Int) - (chg rows m : Int) := ⟨_, rfl⟩
     rw [← hd] at hcn hnext
     clear ha hb hm hd hss hss1 hsm
     have HCN1 := zh hcn; clear hcn
     have HMD1 := zh hmd; clear hmd
     have HNX := zh hnext; clear hnext
     have hjk : (j : Int) < (k : Int) := by omega
     obtain ⟨i_0, i_f0, i_1, i_f1, i_2, i_f2, i_3, i_f3, i_4, i_f4, i_5, i_f5, i_6, i_f6, i_7, i_f7⟩ := k_i.f8
     have HI := zh k_i; clear k_i
     obtain ⟨d_0, d_f0, d_1, d_f1, d_2, d_f2, d_3, d_f3⟩ := k_d.f4
     have HD := zh k_d; clear k_d
     obtain ⟨r_0, r_f0, r_1, r_f1, r_2, r_f2, r_3, r_f3, r_4, r_f4, r_5, r_f5, r_6, r_f6, r_7, r_f7⟩ := k_r.f8
     have HR := zh k_r; clear k_r
     have HBL := zh tl; clear tl
     go_wp2_with fail
     refine (HMD1.out _).mono ?_
     rintro e w101 ⟨hq, rfl⟩
     dsimp only
     have k_i := HI.out.keep hq
     have k_d := HD.out.keep hq
     have k_r := HR.out.keep hq
     have tl := HBL.out.trans ((hq).mono HBL.out.size)
     have to_ := HTO.out.trans (Only.ofBelow _ (hq))
     clear HTO
     have HTO := zh to_; clear to_
     clear HBL HI HD HR
     clear i_0 i_f0 i_1 i_f1 i_2 i_f2 i_3 i_f3 i_4 i_f4 i_5 i_f5 i_6 i_f6 i_7 i_f7
     obtain ⟨i_0, i_f0, i_1, i_f1, i_2, i_f2, i_3, i_f3, i_4, i_f4, i_5, i_f5, i_6, i_f6, i_7, i_f7⟩ := k_i.f8
     have HI := zh k_i; clear k_i
     clear d_0 d_f0 d_1 d_f1 d_2 d_f2 d_3 d_f3
     obtain ⟨d_0, d_f0, d_1, d_f1, d_2, d_f2, d_3, d_f3⟩ := k_d.f4
     have HD := zh k_d; clear k_d
     clear r_0 r_f0 r_1 r_f1 r_2 r_f2 r_3 r_f3 r_4 r_f4 r_5 r_f5 r_6 r_f6 r_7 r_f7
     obtain ⟨r_0, r_f0, r_1, r_f1, r_2, r_f2, r_3, r_f3, r_4, r_f4, r_5, r_f5, r_6, r_f6, r_7, r_f7⟩ := k_r.f8
     have HR := zh k_r; clear k_r
     have HBL := zh tl; clear tl
     clear hq
     have hlt_r := HR.out.lt
     obtain ⟨b_m, hb_m⟩ : ∃ b, b = w101.heap.size := ⟨_, rfl⟩
     have hal : Below w101.heap.size w101 (w101.alloc (.cells #[.bool (ineg m.num), .string (imag m.num), .bool (ineg (m.den : Int)), .string (imag (m.den : Int))] 35)) := (Below.refl _ _).alloc (Nat.le_refl _) _
     have k_m : Blk (w101.alloc (.cells #[.bool (ineg m.num), .string (imag m.num), .bool (ineg (m.den : Int)), .string (imag (m.den : Int))] 35)) b_m 35 [.bool (ineg m.num), .string (imag m.num), .bool (ineg (m.den : Int)), .string (imag (m.den : Int))] := by rw [hb_m]; exact Blk.new w101 _ _
     have hge_m : w.heap.size ≤ b_m := by rw [hb_m]; exact HBL.out.size
     have far_r_m : w.heap.size + 2 < b_m := by rw [hb_m]; exact hlt_r
     clear hlt_r
     have k_i := HI.out.keep hal
     have k_d := HD.out.keep hal
     have k_r := HR.out.keep hal
     have tl := HBL.out.trans ((hal).mono HBL.out.size)
     have to_ := HTO.out.trans (Only.ofBelow _ (hal))
     clear HTO
     have HTO := zh to_; clear to_
     clear HBL HI HD HR
     clear i_0 i_f0 i_1 i_f1 i_2 i_f2 i_3 i_f3 i_4 i_f4 i_5 i_f5 i_6 i_f6 i_7 i_f7
     obtain ⟨i_0, i_f0, i_1, i_f1, i_2, i_f2, i_3, i_f3, i_4, i_f4, i_5, i_f5, i_6, i_f6, i_7, i_f7⟩ := k_i.f8
     have HI := zh k_i; clear k_i
     clear d_0 d_f0 d_1 d_f1 d_2 d_f2 d_3 d_f3
     obtain ⟨d_0, d_f0, d_1, d_f1, d_2, d_f2, d_3, d_f3⟩ := k_d.f4
     have HD := zh k_d; clear k_d
     clear r_0 r_f0 r_1 r_f1 r_2 r_f2 r_3 r_f3 r_4 r_f4 r_5 r_f5 r_6 r_f6 r_7 r_f7
     obtain ⟨r_0, r_f0, r_1, r_f1, r_2, r_f2, r_3, r_f3, r_4, r_f4, r_5, r_f5, r_6, r_f6, r_7, r_f7⟩ := k_r.f8
     have HR := zh k_r; clear k_r
     have HBL := zh tl; clear tl
     clear hal
     obtain ⟨m_0, m_f0, m_1, m_f1, m_2, m_f2, m_3, m_f3⟩ := k_m.f4
     have HM := zh k_m; clear k_m
     go_wp2_with fail
     (try rw [← hb_m])
     have HB_m := zh hb_m; clear hb_m
     have hcc := HCN1.out _ HM2.out (HVT.out.only HTO.out (fun b o h => h)).tab
     have HCC1 := zh hcc; clear hcc
     refine (HCC1.out).mono ?_
     rintro e w102 ⟨hq, rfl⟩
     dsimp only
     have k_i := HI.out.keep hq
     have k_d := HD.out.keep hq
     have k_r := HR.out.keep hq
     have k_m := HM.out.keep hq
     have tl := HBL.out.trans ((hq).mono HBL.out.size)
     have to_ := HTO.out.trans (Only.ofBelow _ (hq))
     clear HTO
     have HTO := zh to_; clear to_
     clear HBL HI HD HR HM
     clear i_0 i_f0 i_1 i_f1 i_2 i_f2 i_3 i_f3 i_4 i_f4 i_5 i_f5 i_6 i_f6 i_7 i_f7
     obtain ⟨i_0, i_f0, i_1, i_f1, i_2, i_f2, i_3, i_f3, i_4, i_f4, i_5, i_f5, i_6, i_f6, i_7, i_f7⟩ := k_i.f8
     have HI := zh k_i; clear k_i
     clear d_0 d_f0 d_1 d_f1 d_2 d_f2 d_3 d_f3
     obtain ⟨d_0, d_f0, d_1, d_f1, d_2, d_f2, d_3, d_f3⟩ := k_d.f4
     have HD := zh k_d; clear k_d
     clear r_0 r_f0 r_1 r_f1 r_2 r_f2 r_3 r_f3 r_4 r_f4 r_5 r_f5 r_6 r_f6 r_7 r_f7
     obtain ⟨r_0, r_f0, r_1, r_f1, r_2, r_f2, r_3, r_f3, r_4, r_f4, r_5, r_f5, r_6, r_f6, r_7, r_f7⟩ := k_r.f8
     have HR := zh k_r; clear k_r
     clear m_0 m_f0 m_1 m_f1 m_2 m_f2 m_3 m_f3
     obtain ⟨m_0, m_f0, m_1, m_f1, m_2, m_f2, m_3, m_f3⟩ := k_m.f4
     have HM := zh k_m; clear k_m
     have HBL := zh tl; clear tl
     clear hq
     by_cases hd1 : d = 1
     ·
      have hde : ((d : Int) == 1) = true := by rw [hd1]; rfl
      have hnx := HNX.out
      rw [if_pos hd1] at hnx
      have HNX1 := zh hnx; clear hnx
      clear hd1
      go_wp2_with fail
      obtain ⟨w103, hw_⟩ : ∃ x, x = ((((w102).setCell ⟨w.heap.size, 4, none⟩ (.bool (ineg m.num))).setCell ⟨w.heap.size, 5, none⟩ (.string (imag m.num))).setCell ⟨w.heap.size, 6, none⟩ (.bool (ineg (m.den : Int)))).setCell ⟨w.heap.size, 7, none⟩ (.string (imag (m.den : Int))) := ⟨_, rfl⟩
      (try rw [← hw_])
      have k_i : Blk w103 (w.heap.size) 54 [.bool (ineg a.num), .string (imag a.num), .bool (ineg (a.den : Int)), .string (imag (a.den : Int)), .bool (ineg m.num), .string (imag m.num), .bool (ineg (m.den : Int)), .string (imag (m.den : Int))] := by rw [hw_]; exact ((((HI.out.set 4 (.bool (ineg m.num))).set 5 (.string (imag m.num))).set 6 (.bool (ineg (m.den : Int)))).set 7 (.string (imag (m.den : Int))))
      have k_d : Blk w103 (w.heap.size + 1) 35 [.bool (ineg wd.num), .string (imag wd.num), .bool (ineg (wd.den : Int)), .string (imag (wd.den : Int))] := by rw [hw_]; exact ((((HD.out.setOther (a := ⟨w.heap.size, 4, none⟩) (by show w.heap.size ≠ w.heap.size + 1; omega) (.bool (ineg m.num))).setOther (a := ⟨w.heap.size, 5, none⟩) (by show w.heap.size ≠ w.heap.size + 1; omega) (.string (imag m.num))).setOther (a := ⟨w.heap.size, 6, none⟩) (by show w.heap.size ≠ w.heap.size + 1; omega) (.bool (ineg (m.den : Int)))).setOther (a := ⟨w.heap.size, 7, none⟩) (by show w.heap.size ≠ w.heap.size + 1; omega) (.string (imag (m.den : Int))))
      have k_r : Blk w103 (w.heap.size + 2) 54 [.bool false, .string ⟨#[]⟩, .bool false, .string ⟨#[]⟩, .bool false, .string ⟨#[]⟩, .bool false, .string ⟨#[]⟩] := by rw [hw_]; exact ((((HR.out.setOther (a := ⟨w.heap.size, 4, none⟩) (by show w.heap.size ≠ w.heap.size + 2; omega) (.bool (ineg m.num))).setOther (a := ⟨w.heap.size, 5, none⟩) (by show w.heap.size ≠ w.heap.size + 2; omega) (.string (imag m.num))).setOther (a := ⟨w.heap.size, 6, none⟩) (by show w.heap.size ≠ w.heap.size + 2; omega) (.bool (ineg (m.den : Int)))).setOther (a := ⟨w.heap.size, 7, none⟩) (by show w.heap.size ≠ w.heap.size + 2; omega) (.string (imag (m.den : Int))))
      have k_m : Blk w103 (b_m) 35 [.bool (ineg m.num), .string (imag m.num), .bool (ineg (m.den : Int)), .string (imag (m.den : Int))] := by rw [hw_]; exact ((((HM.out.setOther (a := ⟨w.heap.size, 4, none⟩) (by show w.heap.size ≠ b_m; omega) (.bool (ineg m.num))).setOther (a := ⟨w.heap.size, 5, none⟩) (by show w.heap.size ≠ b_m; omega) (.string (imag m.num))).setOther (a := ⟨w.heap.size, 6, none⟩) (by show w.heap.size ≠ b_m; omega) (.bool (ineg (m.den : Int)))).setOther (a := ⟨w.heap.size, 7, none⟩) (by show w.heap.size ≠ b_m; omega) (.string (imag (m.den : Int))))
      have tl : Below w.heap.size w w103 := by rw [hw_]; exact ((((HBL.out.setCell (p := ⟨w.heap.size, 4, none⟩) (by show w.heap.size ≤ w.heap.size; omega) (.bool (ineg m.num))).setCell (p := ⟨w.heap.size, 5, none⟩) (by show w.heap.size ≤ w.heap.size; omega) (.string (imag m.num))).setCell (p := ⟨w.heap.size, 6, none⟩) (by show w.heap.size ≤ w.heap.size; omega) (.bool (ineg (m.den : Int)))).setCell (p := ⟨w.heap.size, 7, none⟩) (by show w.heap.size ≤ w.heap.size; omega) (.string (imag (m.den : Int))))
      have to_ : Only (fun k _ => k < D) AW w103 := by rw [hw_]; exact ((((HTO.out.trans' (Only.setCell (c := fun k _ => k = w.heap.size) (a := ⟨w.heap.size, 4, none⟩) (.bool (ineg m.num)) (fun o _ => rfl)) (fun b o hb he => by have he' : b = w.heap.size := he; omega)).trans' (Only.setCell (c := fun k _ => k = w.heap.size) (a := ⟨w.heap.size, 5, none⟩) (.string (imag m.num)) (fun o _ => rfl)) (fun b o hb he => by have he' : b = w.heap.size := he; omega)).trans' (Only.setCell (c := fun k _ => k = w.heap.size) (a := ⟨w.heap.size, 6, none⟩) (.bool (ineg (m.den : Int))) (fun o _ => rfl)) (fun b o hb he => by have he' : b = w.heap.size := he; omega)).trans' (Only.setCell (c := fun k _ => k = w.heap.size) (a := ⟨w.heap.size, 7, none⟩) (.string (imag (m.den : Int))) (fun o _ => rfl)) (fun b o hb he => by have he' : b = w.heap.size := he; omega))
      clear HTO
      have HTO := zh to_; clear to_
      clear HBL hw_ HI HD HR HM
      clear i_0 i_f0 i_1 i_f1 i_2 i_f2 i_3 i_f3 i_4 i_f4 i_5 i_f5 i_6 i_f6 i_7 i_f7
      obtain ⟨i_0, i_f0, i_1, i_f1, i_2, i_f2, i_3, i_f3, i_4, i_f4, i_5, i_f5, i_6, i_f6, i_7, i_f7⟩ := k_i.f8
      have HI := zh k_i; clear k_i
      clear d_0 d_f0 d_1 d_f1 d_2 d_f2 d_3 d_f3
      obtain ⟨d_0, d_f0, d_1, d_f1, d_2, d_f2, d_3, d_f3⟩ := k_d.f4
      have HD := zh k_d; clear k_d
      clear r_0 r_f0 r_1 r_f1 r_2 r_f2 r_3 r_f3 r_4 r_f4 r_5 r_f5 r_6 r_f6 r_7 r_f7
      obtain ⟨r_0, r_f0, r_1, r_f1, r_2, r_f2, r_3, r_f3, r_4, r_f4, r_5, r_f5, r_6, r_f6, r_7, r_f7⟩ := k_r.f8
      have HR := zh k_r; clear k_r
      clear m_0 m_f0 m_1 m_f1 m_2 m_f2 m_3 m_f3
      obtain ⟨m_0, m_f0, m_1, m_f1, m_2, m_f2, m_3, m_f3⟩ := k_m.f4
      have HM := zh k_m; clear k_m
      have HBL := zh tl; clear tl
      go_roundw
      case rel => exact ⟨j + 1, by omega, by go_num, HBL.out, HTO.out, by rw [HNX1.out]; exact HI.out, HD.out, HR.out⟩
      case measure => simp [intOf]; omega
     ·
      have hde : ((d : Int) == 1) = false := by simpa using hd1
      have hnx := HNX.out
      rw [if_neg hd1] at hnx
      have HNX1 := zh hnx; clear hnx
      clear hd1
      go_wp2_with fail
      obtain ⟨w103, hw_⟩ : ∃ x, x = ((((w102).setCell ⟨w.heap.size, 0, none⟩ (.bool (ineg m.num))).setCell ⟨w.heap.size, 1, none⟩ (.string (imag m.num))).setCell ⟨w.heap.size, 2, none⟩ (.bool (ineg (m.den : Int)))).setCell ⟨w.heap.size, 3, none⟩ (.string (imag (m.den : Int))) := ⟨_, rfl⟩
      (try rw [← hw_])
      have k_i : Blk w103 (w.heap.size) 54 [.bool (ineg m.num), .string (imag m.num), .bool (ineg (m.den : Int)), .string (imag (m.den : Int)), .bool (ineg b.num), .string (imag b.num), .bool (ineg (b.den : Int)), .string (imag (b.den : Int))] := by rw [hw_]; exact ((((HI.out.set 0 (.bool (ineg m.num))).set 1 (.string (imag m.num))).set 2 (.bool (ineg (m.den : Int)))).set 3 (.string (imag (m.den : Int))))
      have k_d : Blk w103 (w.heap.size + 1) 35 [.bool (ineg wd.num), .string (imag wd.num), .bool (ineg (wd.den : Int)), .string (imag (wd.den : Int))] := by rw [hw_]; exact ((((HD.out.setOther (a := ⟨w.heap.size, 0, none⟩) (by show w.heap.size ≠ w.heap.size + 1; omega) (.bool (ineg m.num))).setOther (a := ⟨w.heap.size, 1, none⟩) (by show w.heap.size ≠ w.heap.size + 1; omega) (.string (imag m.num))).setOther (a := ⟨w.heap.size, 2, none⟩) (by show w.heap.size ≠ w.heap.size + 1; omega) (.bool (ineg (m.den : Int)))).setOther (a := ⟨w.heap.size, 3, none⟩) (by show w.heap.size ≠ w.heap.size + 1; omega) (.string (imag (m.den : Int))))
      have k_r : Blk w103 (w.heap.size + 2) 54 [.bool false, .string ⟨#[]⟩, .bool false, .string ⟨#[]⟩, .bool false, .string ⟨#[]⟩, .bool false, .string ⟨#[]⟩] := by rw [hw_]; exact ((((HR.out.setOther (a := ⟨w.heap.size, 0, none⟩) (by show w.heap.size ≠ w.heap.size + 2; omega) (.bool (ineg m.num))).setOther (a := ⟨w.heap.size, 1, none⟩) (by show w.heap.size ≠ w.heap.size + 2; omega) (.string (imag m.num))).setOther (a := ⟨w.heap.size, 2, none⟩) (by show w.heap.size ≠ w.heap.size + 2; omega) (.bool (ineg (m.den : Int)))).setOther (a := ⟨w.heap.size, 3, none⟩) (by show w.heap.size ≠ w.heap.size + 2; omega) (.string (imag (m.den : Int))))
      have k_m : Blk w103 (b_m) 35 [.bool (ineg m.num), .string (imag m.num), .bool (ineg (m.den : Int)), .string (imag (m.den : Int))] := by rw [hw_]; exact ((((HM.out.setOther (a := ⟨w.heap.size, 0, none⟩) (by show w.heap.size ≠ b_m; omega) (.bool (ineg m.num))).setOther (a := ⟨w.heap.size, 1, none⟩) (by show w.heap.size ≠ b_m; omega) (.string (imag m.num))).setOther (a := ⟨w.heap.size, 2, none⟩) (by show w.heap.size ≠ b_m; omega) (.bool (ineg (m.den : Int)))).setOther (a := ⟨w.heap.size, 3, none⟩) (by show w.heap.size ≠ b_m; omega) (.string (imag (m.den : Int))))
      have tl : Below w.heap.size w w103 := by rw [hw_]; exact ((((HBL.out.setCell (p := ⟨w.heap.size, 0, none⟩) (by show w.heap.size ≤ w.heap.size; omega) (.bool (ineg m.num))).setCell (p := ⟨w.heap.size, 1, none⟩) (by show w.heap.size ≤ w.heap.size; omega) (.string (imag m.num))).setCell (p := ⟨w.heap.size, 2, none⟩) (by show w.heap.size ≤ w.heap.size; omega) (.bool (ineg (m.den : Int)))).setCell (p := ⟨w.heap.size, 3, none⟩) (by show w.heap.size ≤ w.heap.size; omega) (.string (imag (m.den : Int))))
      have to_ : Only (fun k _ => k < D) AW w103 := by rw [hw_]; exact ((((HTO.out.trans' (Only.setCell (c := fun k _ => k = w.heap.size) (a := ⟨w.heap.size, 0, none⟩) (.bool (ineg m.num)) (fun o _ => rfl)) (fun b o hb he => by have he' : b = w.heap.size := he; omega)).trans' (Only.setCell (c := fun k _ => k = w.heap.size) (a := ⟨w.heap.size, 1, none⟩) (.string (imag m.num)) (fun o _ => rfl)) (fun b o hb he => by have he' : b = w.heap.size := he; omega)).trans' (Only.setCell (c := fun k _ => k = w.heap.size) (a := ⟨w.heap.size, 2, none⟩) (.bool (ineg (m.den : Int))) (fun o _ => rfl)) (fun b o hb he => by have he' : b = w.heap.size := he; omega)).trans' (Only.setCell (c := fun k _ => k = w.heap.size) (a := ⟨w.heap.size, 3, none⟩) (.string (imag (m.den : Int))) (fun o _ => rfl)) (fun b o hb he => by have he' : b = w.heap.size := he; omega))
      clear HTO
      have HTO := zh to_; clear to_
      clear HBL hw_ HI HD HR HM
      clear i_0 i_f0 i_1 i_f1 i_2 i_f2 i_3 i_f3 i_4 i_f4 i_5 i_f5 i_6 i_f6 i_7 i_f7
      obtain ⟨i_0, i_f0, i_1, i_f1, i_2, i_f2, i_3, i_f3, i_4, i_f4, i_5, i_f5, i_6, i_f6, i_7, i_f7⟩ := k_i.f8
      have HI := zh k_i; clear k_i
      clear d_0 d_f0 d_1 d_f1 d_2 d_f2 d_3 d_f3
      obtain ⟨d_0, d_f0, d_1, d_f1, d_2, d_f2, d_3, d_f3⟩ := k_d.f4
      have HD := zh k_d; clear k_d
      clear r_0 r_f0 r_1 r_f1 r_2 r_f2 r_3 r_f3 r_4 r_f4 r_5 r_f5 r_6 r_f6 r_7 r_f7
      obtain ⟨r_0, r_f0, r_1, r_f1, r_2, r_f2, r_3, r_f3, r_4, r_f4, r_5, r_f5, r_6, r_f6, r_7, r_f7⟩ := k_r.f8
      have HR := zh k_r; clear k_r
      clear m_0 m_f0 m_1 m_f1 m_2 m_f2 m_3 m_f3
      obtain ⟨m_0, m_f0, m_1, m_f1, m_2, m_f2, m_3, m_f3⟩ := k_m.f4
      have HM := zh k_m; clear k_m
      have HBL := zh tl; clear tl
      go_roundw
      case rel => exact ⟨j + 1, by omega, by go_num, HBL.out, HTO.out, by rw [HNX1.out]; exact HI.out, HD.out, HR.out⟩
      case measure => simp [intOf]; omega
    ·
     obtain rfl : j = k := by omega
     obtain ⟨a, ha⟩ : ∃ a, a = (rfn rows (lo, hi) j).1 := ⟨_, rfl⟩
     obtain ⟨b, hb⟩ : ∃ b, b = (rfn rows (lo, hi) j).2 := ⟨_, rfl⟩
     have hab : (rfn rows (lo, hi) j) = (a, b) := by rw [ha, hb]
     rw [← ha, ← hb] at k_i
     clear ha hb hnext hss
     have HAB := zh hab; clear hab
     obtain ⟨i_0, i_f0, i_1, i_f1, i_2, i_f2, i_3, i_f3, i_4, i_f4, i_5, i_f5, i_6, i_f6, i_7, i_f7⟩ := k_i.f8
     have HI := zh k_i; clear k_i
     obtain ⟨d_0, d_f0, d_1, d_f1, d_2, d_f2, d_3, d_f3⟩ := k_d.f4
     have HD := zh k_d; clear k_d
     obtain ⟨r_0, r_f0, r_1, r_f1, r_2, r_f2, r_3, r_f3, r_4, r_f4, r_5, r_f5, r_6, r_f6, r_7, r_f7⟩ := k_r.f8
     have HR := zh k_r; clear k_r
     have HBL := zh tl; clear tl
     go_wp2_with fail
     have hrv : IvlV (rfn rows (lo, hi) j) = .agg #[.bool (ineg a.num), .string (imag a.num), .bool (ineg (a.den : Int)), .string (imag (a.den : Int)), .bool (ineg b.num), .string (imag b.num), .bool (ineg (b.den : Int)), .string (imag (b.den : Int))] := by rw [HAB.out]
     have hrv : IvlV (rfn rows (lo, hi) j) = .agg #[.bool (ineg a.num), .string (imag a.num), .bool (ineg (a.den : Int)), .string (imag (a.den : Int)), .bool (ineg b.num), .string (imag b.num), .bool (ineg (b.den : Int)), .string (imag (b.den : Int))] := hrv
     have kz := ((((((((HR.out.set 0 (.bool (ineg a.num))).set 1 (.string (imag a.num))).set 2 (.bool (ineg (a.den : Int)))).set 3 (.string (imag (a.den : Int)))).set 4 (.bool (ineg b.num))).set 5 (.string (imag b.num))).set 6 (.bool (ineg (b.den : Int)))).set 7 (.string (imag (b.den : Int))))
     have sz := ((((((((HBL.out.setCell (p := ⟨w.heap.size + 2, 0, none⟩) (by show w.heap.size ≤ w.heap.size + 2; omega) (.bool (ineg a.num))).setCell (p := ⟨w.heap.size + 2, 1, none⟩) (by show w.heap.size ≤ w.heap.size + 2; omega) (.string (imag a.num))).setCell (p := ⟨w.heap.size + 2, 2, none⟩) (by show w.heap.size ≤ w.heap.size + 2; omega) (.bool (ineg (a.den : Int)))).setCell (p := ⟨w.heap.size + 2, 3, none⟩) (by show w.heap.size ≤ w.heap.size + 2; omega) (.string (imag (a.den : Int)))).setCell (p := ⟨w.heap.size + 2, 4, none⟩) (by show w.heap.size ≤ w.heap.size + 2; omega) (.bool (ineg b.num))).setCell (p := ⟨w.heap.size + 2, 5, none⟩) (by show w.heap.size ≤ w.heap.size + 2; omega) (.string (imag b.num))).setCell (p := ⟨w.heap.size + 2, 6, none⟩) (by show w.heap.size ≤ w.heap.size + 2; omega) (.bool (ineg (b.den : Int)))).setCell (p := ⟨w.heap.size + 2, 7, none⟩) (by show w.heap.size ≤ w.heap.size + 2; omega) (.string (imag (b.den : Int))))
     have e0 := kz.c 0 rfl
     have e1 := kz.c 1 rfl
     have e2 := kz.c 2 rfl
     have e3 := kz.c 3 rfl
     have e4 := kz.c 4 rfl
     have e5 := kz.c 5 rfl
     have e6 := kz.c 6 rfl
     have e7 := kz.c 7 rfl
     refine bodyPost_ret (v := .tuple #[IvlV (rfn rows (lo, hi) j), .int .i64 0]) (by rw [hrv]; simp [results, Try.results17, go_sem, e0, e1, e2, e3, e4, e5, e6, e7]) rfl ⟨sz, rfl⟩
end Go.Proofs.Ytjpalbonclgflaa

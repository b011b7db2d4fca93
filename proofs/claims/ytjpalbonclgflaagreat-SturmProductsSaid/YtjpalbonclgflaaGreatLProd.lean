/- groovelaw05.SturmProducts is true (printed by gen_lprod.py). -/
import Derived.Test.YtjpalbonclgflaaGreatPart17
import Derived.Test.YtjpalbonclgflaaGreatPart18
import Derived.Test.YtjpalbonclgflaaGreatPMul
import Derived.Test.YtjpalbonclgflaaGreatPart15
namespace Go.Proofs.YtjpalbonclgflaaGreat
open Go.RowKit

theorem infoIntQ : (Tryz.prog.info? 3).map (fun i => (i.zero, i.size, i.bytes)) = some (some (.int .i64 0), 1, 8) := by kernel_rfl
theorem fine_facts {r : List (Bool × ByteArray)} (h : FineP5 r) : cnv r = civ (vals r) ∧ (∀ x ∈ vals r, zs 3 x) ∧ Ends (vals r) ∧ (vals r).length ≤ 8 ∧ 0 < (vals r).length ∧ (vals r).length = r.length := by
 obtain ⟨⟨hg1, hg2⟩, hc1, hc2, hc3, hc4⟩ := h
 refine ⟨hc1, fun x hx => ?_, by rw [← hc2]; exact tzI_ends _, by rw [vals_length]; omega, by rw [vals_length]; exact hc3, vals_length r⟩
 obtain ⟨y, hy, rfl⟩ := List.mem_map.1 hx
 exact ival_sized (hg1 y hy) y.1
theorem Nn_small {l : List Int} {M : Nat} (hf : AFine l M) (a b : Rat) : -1000 ≤ T.Nn l a b ∧ T.Nn l a b ≤ 1000 := by
 have h1 := T.chg_le (stmA l) a
 have h2 := T.chg_le (stmA l) b
 have h3 := hf.sl
 unfold T.Nn
 omega
theorem half_le {x y : Int} (h : x ≤ y) : Rat.divInt x 2 ≤ Rat.divInt y 2 := by
 rw [Rat.divInt_eq_div, Rat.divInt_eq_div]
 have h1 : (x : Rat) ≤ (y : Rat) := Rat.intCast_le_intCast.2 h
 show (x : Rat) / (2 : Rat) ≤ (y : Rat) / (2 : Rat)
 grind
set_option maxRecDepth 100000 in
set_option maxHeartbeats 12800000 in
theorem lproducts_true (r1 r2 : List (Bool × ByteArray)) (v1 v2 : Value) (a b : Int) (w : World) (hr1 : Row w v1 r1.length (cnv r1)) (hr2 : Row w v2 r2.length (cnv r2)) (ha1 : -128 ≤ a) (ha2 : a ≤ 127) (hb1 : -128 ≤ b) (hb2 : b ≤ 127) :
  Calls Tryz.prog 8 #[v1, v2, .int .i8 a, .int .i8 b] w (Ret w (.bool true)) := by
 have hfi1 := fine5_any r1 v1 w hr1
 have hfi2 := fun w' h => fine5_any r2 v2 w' h
 unfold FineRet at hfi1 hfi2
 obtain ⟨a1, c1, rfl, hle1⟩ := hr1.slice
 obtain ⟨a2, c2, rfl, hle2⟩ := hr2.slice
 have HFI1 := zh hfi1; clear hfi1
 have HFI2 := zh hfi2; clear hfi2
 have HR10 := zh hr1; clear hr1
 have HR20 := zh hr2; clear hr2
 go_enter Tryz.func8, Tryz.ntmps8
 go_wp2_with fail
 refine (HFI1.out).mono ?_
 rintro e0 wF ⟨hq0, b1, rfl, hb1⟩
 dsimp only
 have hr1 := HR10.out.below hq0 (Nat.le_refl _)
 have hr2 := HR20.out.below hq0 (Nat.le_refl _)
 have hfi2 := HFI2.out _ hr2
 have HF0 := zh hq0; clear hq0
 have HFI3 := zh hfi2; clear hfi2
 have HR11 := zh hr1; clear hr1
 have HR21 := zh hr2; clear hr2
 clear HFI2 HR10 HR20 HFI1
 cases b1 with
 | false =>
  clear hb1
  go_wp2_with fail
  refine (awake5_true _).mono ?_
  rintro e wx ⟨hq, rfl⟩
  dsimp only
  have sx := HF0.out.trans (hq.mono HF0.out.size)
  have SX := zh sx; clear sx
  clear hq
  go_wp2_with fail
  go_ret
  exact ⟨SX.out, rfl⟩
 | true =>
 have hP1 := hb1 rfl
 have HP1 := zh hP1; clear hP1
 clear hb1
 go_wp2_with fail
 refine (HFI3.out).mono ?_
 rintro e1 wG ⟨hq1, b2, rfl, hb2⟩
 dsimp only
 have s1 := HF0.out.trans (hq1.mono HF0.out.size)
 have hr1 := HR11.out.below hq1 (Nat.le_refl _)
 have hr2 := HR21.out.below hq1 (Nat.le_refl _)
 have HF1 := zh s1; clear s1
 have HR12 := zh hr1; clear hr1
 have HR22 := zh hr2; clear hr2
 clear hq1 HR11 HR21 HF0 HFI3
 cases b2 with
 | false =>
  clear hb2
  go_wp2_with fail
  refine (awake5_true _).mono ?_
  rintro e wx ⟨hq, rfl⟩
  dsimp only
  have sx := HF1.out.trans (hq.mono HF1.out.size)
  have SX := zh sx; clear sx
  clear hq
  go_wp2_with fail
  go_ret
  exact ⟨SX.out, rfl⟩
 | true =>
 have hP2 := hb2 rfl
 obtain ⟨f1, hs1, he1, hl1, hp1, hn1⟩ := fine_facts HP1.out
 obtain ⟨f2, hs2, he2, hl2, hp2, hn2⟩ := fine_facts hP2
 have hr1 : Row wG (.slice a1 r1.length c1) (vals r1).length (civ (vals r1)) := by rw [hn1, ← f1]; exact HR12.out
 have hr2 : Row wG (.slice a2 r2.length c2) (vals r2).length (civ (vals r2)) := by rw [hn2, ← f2]; exact HR22.out
 obtain ⟨l1, h1e⟩ : ∃ l, l = vals r1 := ⟨_, rfl⟩
 obtain ⟨l2, h2e⟩ : ∃ l, l = vals r2 := ⟨_, rfl⟩
 rw [← h1e] at hs1 he1 hl1 hp1 hr1 hn1
 rw [← h2e] at hs2 he2 hl2 hp2 hr2 hn2
 rw [← hn1] at hr1 ⊢
 rw [← hn2] at hr2 ⊢
 obtain ⟨n1, hm1⟩ : ∃ n, n = l1.length := ⟨_, rfl⟩
 obtain ⟨n2, hm2⟩ : ∃ n, n = l2.length := ⟨_, rfl⟩
 rw [← hm1] at hl1 hp1 hr1 ⊢
 rw [← hm2] at hl2 hp2 hr2 ⊢
 clear h1e h2e f1 f2 hn1 hn2 hb2 hP2 HP1 HR12 HR22
 by_cases h41 : 4 < n1
 ·
  have h4 : decide (4 < (n1 : Int)) = true := decide_eq_true (by omega)
  clear hr1 hr2 hs1 hs2 he1 he2 hm1 hm2
  go_wp2_with fail
  refine (awake5_true _).mono ?_
  rintro e wx ⟨hq, rfl⟩
  dsimp only
  have sx := HF1.out.trans (hq.mono HF1.out.size)
  have SX := zh sx; clear sx
  clear hq
  go_wp2_with fail
  go_ret
  exact ⟨SX.out, rfl⟩
 have h4 : decide (4 < (n1 : Int)) = false := decide_eq_false (by omega)
 by_cases h42 : 4 < n2
 ·
  have h5 : decide (4 < (n2 : Int)) = true := decide_eq_true (by omega)
  clear hr1 hr2 hs1 hs2 he1 he2 hm1 hm2
  go_wp2_with fail
  refine (awake5_true _).mono ?_
  rintro e wx ⟨hq, rfl⟩
  dsimp only
  have sx := HF1.out.trans (hq.mono HF1.out.size)
  have SX := zh sx; clear sx
  clear hq
  go_wp2_with fail
  go_ret
  exact ⟨SX.out, rfl⟩
 have h5 : decide (4 < (n2 : Int)) = false := decide_eq_false (by omega)
 obtain ⟨gf, ge, gp, gl, gz⟩ := gcd4 (a := l1) (b := l2) (by omega) (by omega) (by omega) (by omega) hs1 hs2 he1 he2
 have af1 := afine_gen (L := 8) (m := 3) (M := 20000000) (l := l1) (by omega) (by decide) (by decide) (by omega) hs1 he1 (by decide) (by decide) (by decide) (by decide)
 have af2 := afine_gen (L := 8) (m := 3) (M := 20000000) (l := l2) (by omega) (by decide) (by decide) (by omega) hs2 he2 (by decide) (by decide) (by decide) (by decide)
 have afG := afine_gen (L := 4) (m := 100) (M := 20000000) (l := gcdP l1 l2) gl (by decide) (by decide) gp gz ge (by decide) (by decide) (by decide) (by decide)
 have mz1 := mulL_zs hs1 hs2
 have mz2 := mulL_zs hs1 hs1
 have ml1 := mulL_len l1 l2
 have ml2 := mulL_len l1 l1
 have mp1 := T.mulL_pos he1 he2 (by omega) (by omega)
 have mp2 := T.mulL_pos he1 he1 (by omega) (by omega)
 have afP := afine_gen (L := 8) (m := 10) (M := 20000000) (l := mulL l1 l2) (by omega) (by decide) (by decide) mp1 (fun x hx => (mz1 x hx).mono (by omega)) (mulL_ends _ _) (by decide) (by decide) (by decide) (by decide)
 have afS := afine_gen (L := 8) (m := 10) (M := 20000000) (l := mulL l1 l1) (by omega) (by decide) (by decide) mp2 (fun x hx => (mz2 x hx).mono (by omega)) (mulL_ends _ _) (by decide) (by decide) (by decide) (by decide)
 have hmu1 := pMul_any l1 l2 (.slice a1 n1 c1) (.slice a2 n2 c2) wG 3 3 (by rw [← hm1]; exact hr1) (by rw [← hm2]; exact hr2) (by omega) (by omega) (by omega) (by omega) hs1 hs2 (by decide) he1 he2
 have hmu2 := fun w' (h : Row w' (.slice a1 n1 c1) n1 (civ l1)) => pMul_any l1 l1 (.slice a1 n1 c1) (.slice a1 n1 c1) w' 3 3 (by rw [← hm1]; exact h) (by rw [← hm1]; exact h) (by omega) (by omega) (by omega) (by omega) hs1 hs1 (by decide) he1 he1
 have hgc := fun w' (h : Row w' (.slice a1 n1 c1) n1 (civ l1)) (k : Row w' (.slice a2 n2 c2) n2 (civ l2)) => Gcd_any l1 l2 (.slice a1 n1 c1) (.slice a2 n2 c2) w' 300 (by rw [← hm1]; exact h) (by rw [← hm2]; exact k) (by omega) (by omega) (fun x hx => (hs1 x hx).mono (by decide)) (fun x hx => (hs2 x hx).mono (by decide)) he1 he2 (by decide) gf
 unfold PolRetE at hmu1 hmu2 hgc
 obtain ⟨lo, hlo⟩ : ∃ q, q = Rat.divInt (min a b) 2 := ⟨_, rfl⟩
 obtain ⟨hi, hhi⟩ : ∃ q, q = Rat.divInt (max a b) 2 := ⟨_, rfl⟩
 have hlh : lo ≤ hi := by rw [hlo, hhi]; exact half_le (by omega)
 have hpr := T.products af1 af2 afP afG rfl (fun x => T.mulL_ev l1 l2 x) hlh
 have hsq := T.square af1 afS (fun x => T.mulL_ev l1 l1 x) hlh
 have hlz : rs 1 lo := by rw [hlo]; exact divInt_sized (by show (min a b).natAbs < 256 ^ 1; omega) (zs_nat 2 1 (by decide)) (by decide)
 have hhz : rs 1 hi := by rw [hhi]; exact divInt_sized (by show (max a b).natAbs < 256 ^ 1; omega) (zs_nat 2 1 (by decide)) (by decide)
 have hra := fun w' => lratio_any (min a b) 2 w' (by omega) (by omega) (by decide) (by decide) (by decide)
 have hrb := fun w' => lratio_any (max a b) 2 w' (by omega) (by omega) (by decide) (by decide) (by decide)
 rw [← hlo] at hra
 rw [← hhi] at hrb
 obtain ⟨P, hP⟩ : ∃ P, P = mulL l1 l2 := ⟨_, rfl⟩
 obtain ⟨S, hS⟩ : ∃ S, S = mulL l1 l1 := ⟨_, rfl⟩
 obtain ⟨G, hG⟩ : ∃ G, G = gcdP l1 l2 := ⟨_, rfl⟩
 rw [← hP] at hmu1 hpr afP
 rw [← hS] at hmu2 hsq afS
 rw [← hG] at hgc hpr afG
 have b1 := Nn_small af1 lo hi
 have b2 := Nn_small af2 lo hi
 have b3 := Nn_small afP lo hi
 have b4 := Nn_small afG lo hi
 have hcn := fun (l : List Int) (v : Value) (w' : World) (h : Row w' v l.length (civ l)) (hf : AFine l 20000000) => count_ok l v lo hi w' 20000000 1 h hf (by decide) hlz hhz hlh
 have hmin : ∀ (w : World) (ts : Array TypeId) (t : TypeId), (Builtin.min_ ts t #[.int .i8 a, .int .i8 b]).run Tryz.prog w = .ok (.int .i8 (min a b)) w := fun w ts t => by
  have e : (if b < a then b else a) = min a b := by rw [Int.min_def]; split <;> split <;> omega
  simp [Builtin.min_, Builtin.min2, e]
 have hmax : ∀ (w : World) (ts : Array TypeId) (t : TypeId), (Builtin.max_ ts t #[.int .i8 a, .int .i8 b]).run Tryz.prog w = .ok (.int .i8 (max a b)) w := fun w ts t => by
  have e : (if a < b then b else a) = max a b := by rw [Int.max_def]; split <;> split <;> omega
  simp [Builtin.max_, Builtin.max2, e]
 obtain ⟨mi, hmi⟩ : ∃ m, m = min a b := ⟨_, rfl⟩
 obtain ⟨ma, hma⟩ : ∃ m, m = max a b := ⟨_, rfl⟩
 rw [← hmi] at hra
 simp only [← hmi] at hmin
 rw [← hma] at hrb
 simp only [← hma] at hmax
 have hwmi : IntKind.i64.wrap mi = mi := IntWalk.i64_in _ (by omega)
 have hwma : IntKind.i64.wrap ma = ma := IntWalk.i64_in _ (by omega)
 have HMU2 := zh hmu2; clear hmu2
 have HGC := zh hgc; clear hgc
 have HCN := zh hcn; clear hcn
 have HRA := zh hra; clear hra
 have HRB := zh hrb; clear hrb
 have HPR := zh hpr; clear hpr
 have HSQ := zh hsq; clear hsq
 have HN1 := zh hm1; clear hm1
 have HN2 := zh hm2; clear hm2
 have HMU1 := zh hmu1; clear hmu1
 have HR1 := zh hr1; clear hr1
 have HR2 := zh hr2; clear hr2
 have AF1 := zh af1; clear af1
 have AF2 := zh af2; clear af2
 have AFP := zh afP; clear afP
 have AFS := zh afS; clear afS
 have AFG := zh afG; clear afG
 clear gf ge gp gl gz mz1 mz2 ml1 ml2 mp1 mp2 hs1 hs2 he1 he2 hlo hhi hlh hlz hhz hP hS hG hmi hma
 go_wp2_with fail
 refine (HMU1.out).mono ?_
 rintro e2 w3 ⟨hq, vP, rfl, hvP⟩
 dsimp only
 have s3 := HF1.out.trans (hq.mono HF1.out.size)
 have hr1 := HR1.out.below hq (Nat.le_refl _)
 have hr2 := HR2.out.below hq (Nat.le_refl _)
 have hmu2 := HMU2.out _ hr1
 have HF3 := zh s3; clear s3
 have HR13 := zh hr1; clear hr1
 have HR23 := zh hr2; clear hr2
 have HVP := zh hvP; clear hvP
 have HMU3 := zh hmu2; clear hmu2
 clear hq HF1 HR1 HR2 HMU1 HMU2
 go_wp2_with fail
 refine (HMU3.out).mono ?_
 rintro e3 w4 ⟨hq, vS, rfl, hvS⟩
 dsimp only
 have s4 := HF3.out.trans (hq.mono HF3.out.size)
 have hr1 := HR13.out.below hq (Nat.le_refl _)
 have hr2 := HR23.out.below hq (Nat.le_refl _)
 have hvP := HVP.out.below hq (Nat.le_refl _)
 have hgc := HGC.out _ hr1 hr2
 have HF4 := zh s4; clear s4
 have HR14 := zh hr1; clear hr1
 have HR24 := zh hr2; clear hr2
 have HVP4 := zh hvP; clear hvP
 have HVS := zh hvS; clear hvS
 have HGC4 := zh hgc; clear hgc
 clear hq HF3 HR13 HR23 HMU3 HGC HVP
 go_wp2_with fail
 refine (HGC4.out).mono ?_
 rintro e4 w5 ⟨hq, vG, rfl, hvG⟩
 dsimp only
 have s5 := HF4.out.trans (hq.mono HF4.out.size)
 have hr1 := HR14.out.below hq (Nat.le_refl _)
 have hr2 := HR24.out.below hq (Nat.le_refl _)
 have hvP := HVP4.out.below hq (Nat.le_refl _)
 have hvS := HVS.out.below hq (Nat.le_refl _)
 obtain ⟨a3, c3, rfl, -⟩ := hvP.slice
 obtain ⟨a4, c4, rfl, -⟩ := hvS.slice
 obtain ⟨a5, c5, rfl, -⟩ := hvG.slice
 have hcP := fun w' h => HCN.out P _ w' (hvP.below h (Nat.le_refl _)) AFP.out
 have hcS := fun w' h => HCN.out S _ w' (hvS.below h (Nat.le_refl _)) AFS.out
 have hcG := fun w' h => HCN.out G _ w' (hvG.below h (Nat.le_refl _)) AFG.out
 have hc1 := fun w' h => HCN.out l1 _ w' (by rw [← HN1.out]; exact hr1.below h (Nat.le_refl w5.heap.size)) AF1.out
 have hc2 := fun w' h => HCN.out l2 _ w' (by rw [← HN2.out]; exact hr2.below h (Nat.le_refl w5.heap.size)) AF2.out
 obtain ⟨n3, hn3⟩ : ∃ n, n = P.length := ⟨_, rfl⟩
 obtain ⟨n4, hn4⟩ : ∃ n, n = S.length := ⟨_, rfl⟩
 obtain ⟨n5, hn5⟩ : ∃ n, n = G.length := ⟨_, rfl⟩
 rw [← hn3] at hcP ⊢
 rw [← hn4] at hcS ⊢
 rw [← hn5] at hcG ⊢
 obtain ⟨VV, hVV⟩ : ∃ VV : List Value, VV = [.slice a1 n1 c1, .slice a2 n2 c2, .slice a3 n3 c3, .slice a4 n4 c4, .slice a5 n5 c5] := ⟨_, rfl⟩
 obtain ⟨CC, hCC⟩ : ∃ CC : List Int, CC = [T.Nn l1 lo hi, T.Nn l2 lo hi, T.Nn P lo hi, T.Nn S lo hi, T.Nn G lo hi] := ⟨_, rfl⟩
 have hall : ∀ k, k < 5 → ∃ a n c N, VV[k]? = some (.slice a n c) ∧ CC[k]? = some N ∧ ∀ w', Below w5.heap.size w5 w' → Calls Tryz.prog 29 #[.slice a n c, RatV lo, RatV hi] w' (Ret w' (.tuple #[.int .i64 N, .int .i64 0])) := fun k hk => by
  rw [hVV, hCC]
  match k, hk with
  | 0, _ => exact ⟨_, _, _, _, rfl, rfl, hc1⟩
  | 1, _ => exact ⟨_, _, _, _, rfl, rfl, hc2⟩
  | 2, _ => exact ⟨_, _, _, _, rfl, rfl, hcP⟩
  | 3, _ => exact ⟨_, _, _, _, rfl, rfl, hcS⟩
  | 4, _ => exact ⟨_, _, _, _, rfl, rfl, hcG⟩
 obtain ⟨N1, hN1⟩ : ∃ N, N = T.Nn l1 lo hi := ⟨_, rfl⟩
 obtain ⟨N2, hN2⟩ : ∃ N, N = T.Nn l2 lo hi := ⟨_, rfl⟩
 obtain ⟨N3, hN3⟩ : ∃ N, N = T.Nn P lo hi := ⟨_, rfl⟩
 obtain ⟨N4, hN4⟩ : ∃ N, N = T.Nn S lo hi := ⟨_, rfl⟩
 obtain ⟨N5, hN5⟩ : ∃ N, N = T.Nn G lo hi := ⟨_, rfl⟩
 have hpr := HPR.out
 have hsq := HSQ.out
 rw [← hN1, ← hN2, ← hN3, ← hN5] at hpr
 rw [← hN1, ← hN4] at hsq
 rw [← hN1, ← hN2, ← hN3, ← hN4, ← hN5] at hCC
 rw [← hN1] at b1
 rw [← hN2] at b2
 rw [← hN3] at b3
 rw [← hN5] at b4
 have HF5 := zh s5; clear s5
 have HALL := zh hall; clear hall
 have HVV := zh hVV; clear hVV
 have HCC := zh hCC; clear hCC
 have HPR5 := zh hpr; clear hpr
 have HSQ5 := zh hsq; clear hsq
 have tl := Below.refl w5.heap.size w5
 have HBL := zh tl; clear tl
 clear hq HF4 HR14 HR24 HVP4 HVS HGC4 hr1 hr2 hvP hvS hvG hcP hcS hcG hc1 hc2 HCN AF1 AF2 AFP AFS AFG HPR HSQ HN1 HN2 hN1 hN2 hN3 hN4 hN5 hn3 hn4 hn5
 go_wp2_with fail
 refine (HRA.out _).mono ?_
 rintro e w21 ⟨hq, rfl⟩
 dsimp only
 have tl := HBL.out.trans ((hq).mono HBL.out.size)
 clear HBL 
 have HBL := zh tl; clear tl
 clear hq
 go_wp2_with fail
 refine (HRB.out _).mono ?_
 rintro e w22 ⟨hq, rfl⟩
 dsimp only
 have tl := HBL.out.trans ((hq).mono HBL.out.size)
 clear HBL 
 have HBL := zh tl; clear tl
 clear hq
 obtain ⟨wB, hwB⟩ : ∃ x, x = ((w22.alloc (.cells #[.bool (ineg lo.num), .string (imag lo.num), .bool (ineg (lo.den : Int)), .string (imag (lo.den : Int))] 27)).alloc (.cells #[.bool (ineg hi.num), .string (imag hi.num), .bool (ineg (hi.den : Int)), .string (imag (hi.den : Int))] 27)).alloc (.cells #[.slice a1 n1 c1, .slice a2 n2 c2, .slice a3 n3 c3, .slice a4 n4 c4, .slice a5 n5 c5] 22) := ⟨_, rfl⟩
 obtain ⟨bl, hbl⟩ : ∃ b, b = w22.heap.size := ⟨_, rfl⟩
 have hsB : wB.heap.size = bl + 3 := by rw [hwB, hbl]; simp only [World.size_alloc]
 have k_l : Blk wB bl 27 [.bool (ineg lo.num), .string (imag lo.num), .bool (ineg (lo.den : Int)), .string (imag (lo.den : Int))] := by rw [hwB, hbl]; exact ((Blk.new w22 _ _).alloc _).alloc _
 have k_h : Blk wB (bl + 1) 27 [.bool (ineg hi.num), .string (imag hi.num), .bool (ineg (hi.den : Int)), .string (imag (hi.den : Int))] := by
  rw [hwB, hbl]
  have h := (Blk.new (w22.alloc (.cells #[.bool (ineg lo.num), .string (imag lo.num), .bool (ineg (lo.den : Int)), .string (imag (lo.den : Int))] 27)) 27 [.bool (ineg hi.num), .string (imag hi.num), .bool (ineg (hi.den : Int)), .string (imag (hi.den : Int))]).alloc (.cells #[.slice a1 n1 c1, .slice a2 n2 c2, .slice a3 n3 c3, .slice a4 n4 c4, .slice a5 n5 c5] 22)
  (try simp only [World.size_alloc, Nat.add_assoc, Nat.reduceAdd] at h)
  exact h
 have k_s : Blk wB (bl + 2) 22 VV := by
  rw [hwB, hbl, HVV.out]
  have h := Blk.new ((w22.alloc (.cells #[.bool (ineg lo.num), .string (imag lo.num), .bool (ineg (lo.den : Int)), .string (imag (lo.den : Int))] 27)).alloc (.cells #[.bool (ineg hi.num), .string (imag hi.num), .bool (ineg (hi.den : Int)), .string (imag (hi.den : Int))] 27)) 22 [.slice a1 n1 c1, .slice a2 n2 c2, .slice a3 n3 c3, .slice a4 n4 c4, .slice a5 n5 c5]
  (try simp only [World.size_alloc, Nat.add_assoc, Nat.reduceAdd] at h)
  exact h
 have hs5 := HBL.out.size
 have tl : Below w5.heap.size w5 wB := by rw [hwB]; exact ((HBL.out.alloc hs5 _).alloc (by simp; omega) _).alloc (by simp; omega) _
 obtain ⟨i0, hi0, hz0, hz1', hz2'⟩ := info_parts infoIntQ
 have HTB := zh tl; clear tl
 have HL := zh k_l; clear k_l
 have HH := zh k_h; clear k_h
 have HS := zh k_s; clear k_s
 clear HBL hs5
 go_wp2_with fail
 (try rw [← hwB])
 (try rw [← hbl])
 (try simp only [← hbl])
 clear hwB
 have HBLE := zh hbl; clear hbl
 go_loopw [17, 19, 20, 21, 81] (fun u _ _ _ i wr => ∃ k : Nat, k ≤ 5 ∧ i = .int .i64 k ∧ wr.ownsRow wB.heap.size 3 1 u k (ci (CC.take k)) ∧ Below wB.heap.size wB wr) (fun _ _ _ _ i _ => 5 - (intOf i).toNat)
 case atStart => exact ⟨0, Nat.zero_le _, rfl, World.ownsRow_nil _ _ _ _, Below.refl _ _⟩
 case round =>
  obtain ⟨k, hk, rfl, hown, hbel⟩ := hrel
  have hsz : wB.heap.size ≤ wr.heap.size := hbel.size
  obtain ⟨wo, rfl⟩ : ∃ wo : World, wo = wr := ⟨_, rfl⟩
  by_cases hk5 : k < 5
  ·
   obtain ⟨xa, xn, xc, N, hv, hcc, hct⟩ := HALL.out k hk5
   have hb9 : Below w5.heap.size w5 wo := HTB.out.trans (hbel.mono HTB.out.size)
   have hct := hct _ hb9
   have p0 : wo.cell? ⟨bl + 2, k, none⟩ = some (.slice xa xn xc) := (hbel.cell (p := ⟨bl + 2, k, none⟩) (by show bl + 2 < _; omega)).trans (HS.out.cell hv)
   have kl := HL.out.below hbel (by omega)
   have kh := HH.out.below hbel (by omega)
   have l0 := kl.c 0 rfl
   have l1 := kl.c 1 rfl
   have l2 := kl.c 2 rfl
   have l3 := kl.c 3 rfl
   have h0 := kh.c 0 rfl
   have h1 := kh.c 1 rfl
   have h2 := kh.c 2 rfl
   have h3 := kh.c 3 rfl
   have hz2 : ci (CC.take (k + 1)) = ci (CC.take k) ++ [.int .i64 N] := by rw [List.take_add_one, hcc]; simp [ci]
   obtain ⟨ua, ucap, rfl⟩ := own_slice hown
   have hix1 : (0 : Int) ≤ (k : Int) := by omega
   have hix2 : (k : Int) < 5 := by omega
   have HCT := zh hct; clear hct
   have HO := zh hown; clear hown
   have HB := zh hbel; clear hbel
   have HZ2 := zh hz2; clear hz2
   clear hv hcc hb9 kl kh
   go_wp2_with fail
   refine (HCT.out).mono ?_
   rintro e w2 ⟨hq2, rfl⟩
   dsimp only
   have ho2 := own_below HO.out hq2
   have hb2 := HB.out.trans (hq2.mono HB.out.size)
   have hsz2 : wB.heap.size ≤ w2.heap.size := hb2.size
   have HO2 := zh ho2; clear ho2
   have HB2 := zh hb2; clear hb2
   clear hq2
   go_wp2_with (at_builtin; refine wpList_append_lies _ rfl (.tmp 94) (.tmp 96) 65 rfl wB.heap.size 3 i0 _ 1 8 Tryz.underlying65 hi0 hz0 hz1' hz2' rfl (by decide) _ _ _ rfl (HO2.out.alloc _) _ 1 1 [.int .i64 N] rfl rfl (World.news_of_block (heap_alloc_new _ _)) (by simp [Value.oneCell']) (by omega) (by unfold maxLen; omega) (by omega) (by simp; omega) _ rfl ?_; intro g cap' w3 hown' hg hat hlt'; have HG := zh hg; clear hg; have HO4 := zh hown'; clear hown'; have HAT := zh hat; clear hat)
   go_roundw
   case rel =>
    refine ⟨k + 1, by omega, by go_num, ?_, (HB2.out.alloc hsz2 _).grown HG.out (by simp; omega) (fun j hj => (HO2.out.lt j hj).1)⟩
    rw [HZ2.out]; exact HO4.out
   case measure => simp [intOf]; omega
  ·
   obtain rfl : k = 5 := by omega
   obtain ⟨ua, ucap, rfl⟩ := own_slice hown
   have hrow := own_row hown
   have h5 : CC.take 5 = CC := by rw [HCC.out]; rfl
   rw [h5] at hrow
   obtain ⟨b9, o9, rfl, hb9, hbc⟩ := hrow.at_ (by omega)
   have hce : ∀ (i : Nat) (N : Int), CC[i]? = some N → wo.cell? ⟨b9, o9 + i, none⟩ = some (.int .i64 N) := fun i N h => hbc i _ (by simp [ci, h])
   have p0 := hce 0 N1 (by rw [HCC.out]; rfl)
   have p1 := hce 1 N2 (by rw [HCC.out]; rfl)
   have p2 := hce 2 N3 (by rw [HCC.out]; rfl)
   have p3 := hce 3 N4 (by rw [HCC.out]; rfl)
   have p4 := hce 4 N5 (by rw [HCC.out]; rfl)
   rw [Nat.add_zero] at p0
   have hw1 : IntKind.i64.wrap (N3 + N5) = N3 + N5 := IntWalk.i64_in _ (by omega)
   have hw2 : IntKind.i64.wrap (N1 + N2) = N1 + N2 := IntWalk.i64_in _ (by omega)
   have he1 : ((N3 + N5 : Int) == N1 + N2) = true := by rw [HPR5.out]; simp
   have he2 : ((N4 : Int) == N1) = true := by rw [HSQ5.out]; simp
   have tl := hbel
   have HBL := zh tl; clear tl
   clear hce hbc hrow hown hbel h5 b1 b2 b3 b4
   go_wp2_with fail
   have HBL := zh HBL.out.drew
   refine wp_region_held_drew (S := fun w' => w'.cell? ⟨b9, o9, none⟩ = some (.int .i64 N1) ∧ w'.cell? ⟨b9, o9 + 1, none⟩ = some (.int .i64 N2) ∧ w'.cell? ⟨b9, o9 + 2, none⟩ = some (.int .i64 N3) ∧ w'.cell? ⟨b9, o9 + 3, none⟩ = some (.int .i64 N4) ∧ w'.cell? ⟨b9, o9 + 4, none⟩ = some (.int .i64 N5)) (by kernel_rfl) ?_ (fun hHeld0 => ?_)
   ·
    go_keep
   refine zT 0 (h := ?_)
   (try simp only [Act.put, zA, zB, zC])
   refine zT 1 (h := ?_)
   (try simp only [Act.put, zA, zB, zC])
   refine zT 2 (h := ?_)
   (try simp only [Act.put, zA, zB, zC])
   refine zT 3 (h := ?_)
   (try simp only [Act.put, zA, zB, zC])
   refine zT 4 (h := ?_)
   (try simp only [Act.put, zA, zB, zC])
   refine zT 5 (h := ?_)
   (try simp only [Act.put, zA, zB, zC])
   refine zT 6 (h := ?_)
   (try simp only [Act.put, zA, zB, zC])
   refine zT 7 (h := ?_)
   (try simp only [Act.put, zA, zB, zC])
   refine zT 8 (h := ?_)
   (try simp only [Act.put, zA, zB, zC])
   refine zT 9 (h := ?_)
   (try simp only [Act.put, zA, zB, zC])
   refine zT 10 (h := ?_)
   (try simp only [Act.put, zA, zB, zC])
   refine zT 11 (h := ?_)
   (try simp only [Act.put, zA, zB, zC])
   refine zT 12 (h := ?_)
   (try simp only [Act.put, zA, zB, zC])
   refine zT 13 (h := ?_)
   (try simp only [Act.put, zA, zB, zC])
   refine zT 14 (h := ?_)
   (try simp only [Act.put, zA, zB, zC])
   refine zT 15 (h := ?_)
   (try simp only [Act.put, zA, zB, zC])
   refine zT 16 (h := ?_)
   (try simp only [Act.put, zA, zB, zC])
   refine zT 17 (h := ?_)
   (try simp only [Act.put, zA, zB, zC])
   refine zT 18 (h := ?_)
   (try simp only [Act.put, zA, zB, zC])
   refine zT 19 (h := ?_)
   (try simp only [Act.put, zA, zB, zC])
   refine zT 20 (h := ?_)
   (try simp only [Act.put, zA, zB, zC])
   refine zT 21 (h := ?_)
   (try simp only [Act.put, zA, zB, zC])
   refine zT 22 (h := ?_)
   (try simp only [Act.put, zA, zB, zC])
   refine zT 23 (h := ?_)
   (try simp only [Act.put, zA, zB, zC])
   refine zT 24 (h := ?_)
   (try simp only [Act.put, zA, zB, zC])
   refine zR 25 (h := fun K hK => ?_)
   rw [if_pos (by kernel_rfl)]
   go_simp
   go_at_call 15
   refine (awake5_true _).mono ?_
   rintro e w61 ⟨hq, rfl⟩
   dsimp only
   have z0 := zK hq hb9 hHeld0.1
   have z1 := zK hq hb9 hHeld0.2.1
   have z2 := zK hq hb9 hHeld0.2.2.1
   have z3 := zK hq hb9 hHeld0.2.2.2.1
   have z4 := zK hq hb9 hHeld0.2.2.2.2
   refine hK.out _ _ ⟨z0, z1, z2, z3, z4⟩ (fun hHeld1 => ?_)
   clear hK K hHeld0 z0 z1 z2 z3 z4
   (try simp only [Act.put, zA, zB, zC])
   have tl := HBL.out.trans ((hq).mono HBL.out.size)
   clear HBL 
   have HBL := zh tl; clear tl
   clear hq
   refine zT 26 (h := ?_)
   (try simp only [Act.put, zA, zB, zC])
   refine zT 27 (h := ?_)
   (try simp only [Act.put, zA, zB, zC])
   refine wpAnyH_done (by kernel_rfl) ?_ _
   (try simp only [List.getElem_toArray, List.getElem_cons_zero, List.getElem_cons_succ, Act.put, zA, zB, zC])
   go_wp2_with fail
   go_ret
   exact ⟨HF5.out.trans ((HTB.out.trans (HBL.out.mono HTB.out.size)).mono HF5.out.size), rfl⟩
end Go.Proofs.YtjpalbonclgflaaGreat

/- Contracts and plain laws of several functions, one after the other: RowS, StT, Aw5P. -/
import Derived.Lib.SmallJoins
import Derived.Deep.Slices
import Derived.Deep.Strs
import Derived.Carry
import Derived.Test.YtjpalbonclgflaaGreatRawC
import Derived.Test.YtjpalbonclgflaaGreatRfn
/- Arguments of the rows, opened: a list of integers of any size (XRowN without graphs). -/
namespace Go.Proofs.YtjpalbonclgflaaGreat
open Go.RowKit Go.ChangeShapes Go.WideShapes Go.Deep Go.Joins

theorem cellsInt2 : Tryz.prog.cellsOf 25 = 2 := by kernel_rfl
theorem cell_ok_slice {P : Program} {w : World} {r : Reach} {base : Nat} {t e : TypeId} {a : Addr} {len cap : Nat} (ht : P.underlying t = some (.slice e)) (h : Cell.okWide P w r base t (.slice (some a) len cap)) : a.spot = none ∧ a.block < w.heap.size := by
 unfold Cell.okWide Cell.ok at h
 rw [ht] at h
 obtain ⟨-, -, -, hsp, row, cells, hsh, -⟩ := h
 refine ⟨hsp, ?_⟩
 rcases Nat.lt_or_ge a.block w.heap.size with h' | h'
 ·
  exact h'
 ·
  simp [World.shape?, Array.getElem?_eq_none h'] at hsh
section
variable {H : Type} {enc : TypeId × Value → H}
set_option maxRecDepth 100000 in
theorem open_nums {W : World} {base : Nat} {v : Value} {d : DataW H} {p : List MemPlace} (hval : Value.okWide Tryz.prog W .any base 22 v) (h : DataW.Trod enc Tryz.prog W 0 (fun _ => true) true 22 v d p) :
  ∃ l : List (Bool × ByteArray), Row W v l.length (cnv l) := by
 have hc : Cell.okWide Tryz.prog W .any base 22 v := by
  unfold Value.okWide at hval
  rw [Tryz.underlying22] at hval
  exact hval
 obtain ⟨n, h1⟩ := h
 obtain ⟨a0, b0, c0, rfl⟩ : ∃ a b c, v = .slice a b c := by
  unfold Cell.okWide Cell.ok at hc
  rw [Tryz.underlying22] at hc
  cases v <;> simp at hc <;> exact ⟨_, _, _, rfl⟩
 have h1' : DataW.trod enc Tryz.prog W 0 (fun _ => true) true n 22 [.slice a0 b0 c0] = some (d, p) := h1
 rcases open_slice Tryz.underlying22 h1' with ⟨hs, -⟩ | ⟨a, len, cap, m, n', D, Pl, hs, -, hl, hm, hmm, -, hx⟩
 ·
  obtain ⟨rfl, rfl, rfl⟩ : a0 = none ∧ b0 = 0 ∧ c0 = 0 := by simpa using hs
  exact ⟨[], .inl ⟨rfl, rfl, rfl⟩⟩
 ·
  obtain ⟨rfl, rfl, rfl⟩ : a0 = some a ∧ b0 = len ∧ c0 = cap := by simpa using hs
  simp only [if_true] at hmm
  subst hmm
  obtain ⟨hsp, hlt⟩ := cell_ok_slice Tryz.underlying22 hc
  have key : ∀ i, i < m → ∃ x : Bool × ByteArray, W.cell? (a.add (i * 2)) = some (.bool x.1) ∧ W.cell? (a.add (i * 2 + 1)) = some (.string x.2) := by
   intro i hi
   obtain ⟨cs', h3, h2⟩ := hx i hi
   rw [cellsInt2] at h3
   obtain ⟨-, hlen, hget⟩ := World.cells?_some h3
   obtain ⟨y0, y1, k, -, -, t0, t1⟩ := trod_struct2 Tryz.underlying25 h2
   match cs', hlen with
   | [u0, u1], _ =>
    obtain ⟨ng, e0, -⟩ := DataW.trod_bool Tryz.underlying4 t0
    obtain ⟨sg, e1, -, hs⟩ := DataW.trod_string Tryz.underlying9 t1
    have q0 : u0 = .bool ng := by simpa [show Tryz.prog.cellsOf 4 = 1 from by kernel_rfl] using e0
    have q1 : u1 = .string sg := by simpa [show Tryz.prog.cellsOf 9 = 1 from by kernel_rfl] using e1
    subst q0 q1
    refine ⟨(ng, sg), ?_, ?_⟩
    ·
     have := hget 0 (by simp)
     rw [add_add] at this
     simpa using this
    ·
     have := hget 1 (by simp)
     rw [add_add] at this
     simpa using this
  obtain ⟨E, hE⟩ := choose_lt key
  refine ⟨(List.range b0).map E, .inr ⟨a.block, a.off, m, ?_, ?_, ?_, hlt, fun j u hj => ?_⟩⟩
  ·
   rw [List.length_map, List.length_range]
   rcases a with ⟨b, o, sp⟩
   obtain rfl : sp = none := hsp
   rfl
  ·
   rw [List.length_map, List.length_range]; exact hl
  ·
   exact hm
  ·
   have hlc : (cnv ((List.range b0).map E)).length = b0 * 2 := by
    have : ∀ l : List (Bool × ByteArray), (cnv l).length = l.length * 2 := fun l => by
     induction l with
     | nil => rfl
     | cons y l ih =>
      have e : cnv (y :: l) = [.bool y.1, .string y.2] ++ cnv l := rfl
      rw [e, List.length_append, ih, List.length_cons]
      simp; omega
    rw [this, List.length_map, List.length_range]
   have hjl := (List.getElem?_eq_some_iff.1 hj).1
   rw [hlc] at hjl
   have hi : j / 2 < b0 := by omega
   have h5 := hE (j / 2) (by omega)
   have hg : ((List.range b0).map E)[j / 2]? = some (E (j / 2)) := by simp [hi]
   have h6 := cnv_get hg
   rcases a with ⟨b, o, sp⟩
   obtain rfl : sp = none := hsp
   have e : ∀ k, (Addr.mk b o none).add k = ⟨b, o + k, none⟩ := fun k => by unfold Addr.add; split <;> simp_all
   rw [e, e] at h5
   rcases Nat.mod_two_eq_zero_or_one j with h0 | h0
   ·
    have hj2 : j / 2 * 2 = j := by omega
    rw [hj2] at h5 h6
    have h7 := h6.1
    rw [hj] at h7
    obtain rfl := Option.some.inj h7
    exact h5.1
   ·
    have hj2 : j / 2 * 2 + 1 = j := by omega
    rw [hj2] at h5 h6
    have h7 := h6.2
    rw [hj] at h7
    obtain rfl := Option.some.inj h7
    exact h5.2
end
end Go.Proofs.YtjpalbonclgflaaGreat

/- sturm.Count at canonical numbers (printed by gen_cnt6.py). -/
namespace Go.Proofs.YtjpalbonclgflaaGreat
open Go.RowKit

set_option maxRecDepth 100000 in
set_option maxHeartbeats 6400000 in
theorem sCount_ok (l : List Int) (v : Value) (a b : Rat) (w : World) (M K : Nat) (hr : Row w v l.length (civ l)) (hf : AFine l M) (hK : K ≤ 1000000000) (ha : rs K a) (hb : rs K b) (hab : ¬ b < a) :
  Calls Tryz.prog 29 #[v, RatV a, RatV b] w (Ret w (.tuple #[.int .i64 ((chg (stmA l) a : Int) - (chg (stmA l) b : Int)), .int .i64 0])) := by
 show Calls Tryz.prog 29 #[v, .agg #[.bool (ineg a.num), .string (imag a.num), .bool (ineg (a.den : Int)), .string (imag (a.den : Int))], .agg #[.bool (ineg b.num), .string (imag b.num), .bool (ineg (b.den : Int)), .string (imag (b.den : Int))]] w _
 have hck := fun vq w' h1 h2 => scheck_any l v [rawOf a, rawOf b] vq w' h1 h2 hf.pos hf.len hf.small hf.ends (fun x hx => by
  simp only [List.mem_cons, List.mem_nil_iff, or_false] at hx
  rcases hx with rfl | rfl
  ·
   exact ⟨Nat.le_trans ha.1.size (by omega), Nat.le_trans ha.2.size (by omega)⟩
  ·
   exact ⟨Nat.le_trans hb.1.size (by omega), Nat.le_trans hb.2.size (by omega)⟩)
 have hodd : oddQ [rawOf a, rawOf b] = false := by simp [oddQ, cqB_rawOf]
 rw [hodd] at hck
 simp only [Bool.false_eq_true, if_false] at hck
 have hcr : crv [rawOf a, rawOf b] = [.bool (ineg a.num), .string (imag a.num), .bool (ineg (a.den : Int)), .string (imag (a.den : Int)), .bool (ineg b.num), .string (imag b.num), .bool (ineg (b.den : Int)), .string (imag (b.den : Int))] := rfl
 rw [hcr] at hck
 have hal := fun w' h => sall_any l v w' M h hf
 have hc1 := fun w' => qcompare_any (ineg a.num) (ineg (a.den : Int)) (imag a.num) (imag (a.den : Int)) (ineg b.num) (ineg (b.den : Int)) (imag b.num) (imag (b.den : Int)) w' (Nat.le_trans ha.1.size (by omega)) (Nat.le_trans ha.2.size (by omega)) (Nat.le_trans hb.1.size (by omega)) (Nat.le_trans hb.2.size (by omega))
 simp only [ival_canon, Rat.num_divInt_den] at hc1
 obtain ⟨c, hc⟩ : ∃ c : Int, c = if a < b then -1 else if a = b then 0 else 1 := ⟨_, rfl⟩
 have hc0 : decide (0 < c) = false := decide_eq_false (by
  rw [hc]
  by_cases h1 : a < b
  ·
   rw [if_pos h1]; decide
  ·
   rw [if_neg h1, if_pos (Rat.le_antisymm (Rat.not_lt.1 hab) (Rat.not_lt.1 h1))]; decide)
 rw [← hc] at hc1
 have hrz : ∀ p ∈ stmA l, p.length ≤ 65 ∧ ∀ x ∈ p, zs M x := fun p hp => ⟨stmA_len hf p hp, hf.c p hp⟩
 have hrl := hf.sl
 have hM2 : M ≤ 1000000000 := by have := hf.hM; omega
 have hcn : ∀ va n vc w', n = (stmA l).length → Tab w' (.slice va n vc) (stmA l) → Calls Tryz.prog 65 #[.slice va n vc, .agg #[.bool (ineg a.num), .string (imag a.num), .bool (ineg (a.den : Int)), .string (imag (a.den : Int))], .agg #[.bool (ineg b.num), .string (imag b.num), .bool (ineg (b.den : Int)), .string (imag (b.den : Int))]] w' (Ret w' (.int .i64 ((chg (stmA l) a : Int) - (chg (stmA l) b : Int)))) := fun va n vc w' hn h => by
  have h2 := scount_any (stmA l) (.slice va n vc) (ineg a.num) (ineg (a.den : Int)) (imag a.num) (imag (a.den : Int)) (ineg b.num) (ineg (b.den : Int)) (imag b.num) (imag (b.den : Int)) w' M h hrl hrz hM2 (Nat.le_trans ha.1.size hK) (Nat.le_trans ha.2.size hK) (Nat.le_trans hb.1.size hK) (Nat.le_trans hb.2.size hK)
  simp only [ival_canon, Rat.num_divInt_den] at h2
  exact h2
 obtain ⟨N, hN⟩ : ∃ N : Int, N = (chg (stmA l) a : Int) - (chg (stmA l) b : Int) := ⟨_, rfl⟩
 simp only [← hN] at hcn
 rw [← hN]
 obtain ⟨rows, hrows⟩ : ∃ R, R = stmA l := ⟨_, rfl⟩
 rw [← hrows] at hal
 simp only [← hrows] at hcn
 obtain ⟨va, vc, rfl, -⟩ := hr.slice
 obtain ⟨n, hn⟩ : ∃ n, n = l.length := ⟨_, rfl⟩
 rw [← hn] at hr hck hal ⊢
 unfold AllRet at hal
 have HRW := zh hr; clear hr
 have HCK := zh hck; clear hck
 have HAL := zh hal; clear hal
 have HC1 := zh hc1; clear hc1
 have HCN := zh hcn; clear hcn
 clear hf hrows hn ha hb hab hodd hcr hrz hrl hN hc
 obtain ⟨w4, hw4⟩ : ∃ w4, w4 = (w.alloc (.cells #[.bool (ineg a.num), .string (imag a.num), .bool (ineg (a.den : Int)), .string (imag (a.den : Int))] 27)).alloc (.cells #[.bool (ineg b.num), .string (imag b.num), .bool (ineg (b.den : Int)), .string (imag (b.den : Int))] 27) := ⟨_, rfl⟩
 have k_a : Blk w4 (w.heap.size) 27 [.bool (ineg a.num), .string (imag a.num), .bool (ineg (a.den : Int)), .string (imag (a.den : Int))] := by
  rw [hw4]
  have h := ((Blk.new (w) 27 [.bool (ineg a.num), .string (imag a.num), .bool (ineg (a.den : Int)), .string (imag (a.den : Int))]).alloc (.cells #[.bool (ineg b.num), .string (imag b.num), .bool (ineg (b.den : Int)), .string (imag (b.den : Int))] 27))
  (try simp only [World.size_alloc, Nat.add_assoc, Nat.reduceAdd] at h)
  exact h
 have k_b : Blk w4 (w.heap.size + 1) 27 [.bool (ineg b.num), .string (imag b.num), .bool (ineg (b.den : Int)), .string (imag (b.den : Int))] := by
  rw [hw4]
  have h := (Blk.new (w.alloc (.cells #[.bool (ineg a.num), .string (imag a.num), .bool (ineg (a.den : Int)), .string (imag (a.den : Int))] 27)) 27 [.bool (ineg b.num), .string (imag b.num), .bool (ineg (b.den : Int)), .string (imag (b.den : Int))])
  (try simp only [World.size_alloc, Nat.add_assoc, Nat.reduceAdd] at h)
  exact h
 have tl : Below w.heap.size w w4 := by
  rw [hw4]
  exact (((Below.refl w.heap.size w).alloc (by simp <;> omega) (.cells #[.bool (ineg a.num), .string (imag a.num), .bool (ineg (a.den : Int)), .string (imag (a.den : Int))] 27)).alloc (by simp <;> omega) (.cells #[.bool (ineg b.num), .string (imag b.num), .bool (ineg (b.den : Int)), .string (imag (b.den : Int))] 27))
 have hs4 : w4.heap.size = w.heap.size + 2 := by rw [hw4]; simp only [World.size_alloc]
 obtain ⟨a_0, a_f0, a_1, a_f1, a_2, a_f2, a_3, a_f3⟩ := k_a.f4
 have HA := zh k_a; clear k_a
 obtain ⟨b_0, b_f0, b_1, b_f1, b_2, b_f2, b_3, b_f3⟩ := k_b.f4
 have HB := zh k_b; clear k_b
 have HBL := zh tl; clear tl
 go_enter Tryz.func29, Tryz.ntmps29
 go_upto_region 1 with fail
 (try rw [← hw4])
 clear hw4
 (try simp only [Nat.add_assoc, Nat.reduceAdd])
 go_wp2_with fail
 have hal4 : Below w4.heap.size w4 (w4.alloc (.cells #[.bool (ineg a.num), .string (imag a.num), .bool (ineg (a.den : Int)), .string (imag (a.den : Int)), .bool (ineg b.num), .string (imag b.num), .bool (ineg (b.den : Int)), .string (imag (b.den : Int))] 27)) := (Below.refl _ _).alloc (Nat.le_refl _) _
 have hrq : Row (w4.alloc (.cells #[.bool (ineg a.num), .string (imag a.num), .bool (ineg (a.den : Int)), .string (imag (a.den : Int)), .bool (ineg b.num), .string (imag b.num), .bool (ineg (b.den : Int)), .string (imag (b.den : Int))] 27)) (.slice (some ⟨w4.heap.size, 0, none⟩) 2 2) 2 [.bool (ineg a.num), .string (imag a.num), .bool (ineg (a.den : Int)), .string (imag (a.den : Int)), .bool (ineg b.num), .string (imag b.num), .bool (ineg (b.den : Int)), .string (imag (b.den : Int))] := Row.ofBlk (Blk.new w4 27 [.bool (ineg a.num), .string (imag a.num), .bool (ineg (a.den : Int)), .string (imag (a.den : Int)), .bool (ineg b.num), .string (imag b.num), .bool (ineg (b.den : Int)), .string (imag (b.den : Int))]) (m := 2) (cap := 2) (Nat.le_refl _) (by unfold maxLen; omega) 8
 rw [hs4] at hrq
 have k_a := HA.out.keep hal4
 have k_b := HB.out.keep hal4
 have tl := HBL.out.trans ((hal4).mono HBL.out.size)
 clear HBL HA HB
 clear a_0 a_f0 a_1 a_f1 a_2 a_f2 a_3 a_f3
 obtain ⟨a_0, a_f0, a_1, a_f1, a_2, a_f2, a_3, a_f3⟩ := k_a.f4
 have HA := zh k_a; clear k_a
 clear b_0 b_f0 b_1 b_f1 b_2 b_f2 b_3 b_f3
 obtain ⟨b_0, b_f0, b_1, b_f1, b_2, b_f2, b_3, b_f3⟩ := k_b.f4
 have HB := zh k_b; clear k_b
 have HBL := zh tl; clear tl
 clear hal4
 have hck := HCK.out _ _ (HRW.out.below HBL.out (Nat.le_refl _)) hrq
 have HCK1 := zh hck; clear hck
 clear hrq
 refine (HCK1.out).mono ?_
 rintro e w5 ⟨hq, rfl⟩
 dsimp only
 have k_a := HA.out.keep hq
 have k_b := HB.out.keep hq
 have tl := HBL.out.trans ((hq).mono HBL.out.size)
 clear HBL HA HB
 clear a_0 a_f0 a_1 a_f1 a_2 a_f2 a_3 a_f3
 obtain ⟨a_0, a_f0, a_1, a_f1, a_2, a_f2, a_3, a_f3⟩ := k_a.f4
 have HA := zh k_a; clear k_a
 clear b_0 b_f0 b_1 b_f1 b_2 b_f2 b_3 b_f3
 obtain ⟨b_0, b_f0, b_1, b_f1, b_2, b_f2, b_3, b_f3⟩ := k_b.f4
 have HB := zh k_b; clear k_b
 have HBL := zh tl; clear tl
 clear hq
 go_wp2_with fail
 refine (HC1.out _).mono ?_
 rintro e w6 ⟨hq, rfl⟩
 dsimp only
 have k_a := HA.out.keep hq
 have k_b := HB.out.keep hq
 have tl := HBL.out.trans ((hq).mono HBL.out.size)
 clear HBL HA HB
 clear a_0 a_f0 a_1 a_f1 a_2 a_f2 a_3 a_f3
 obtain ⟨a_0, a_f0, a_1, a_f1, a_2, a_f2, a_3, a_f3⟩ := k_a.f4
 have HA := zh k_a; clear k_a
 clear b_0 b_f0 b_1 b_f1 b_2 b_f2 b_3 b_f3
 obtain ⟨b_0, b_f0, b_1, b_f1, b_2, b_f2, b_3, b_f3⟩ := k_b.f4
 have HB := zh k_b; clear k_b
 have HBL := zh tl; clear tl
 clear hq
 have ha := HAL.out _ (HRW.out.below HBL.out (Nat.le_refl _))
 have HAL1 := zh ha; clear ha
 go_wp2_with fail
 refine (HAL1.out).mono ?_
 rintro e w7 ⟨hq, vt, rfl, hvt⟩
 dsimp only
 have k_a := HA.out.keep hq
 have k_b := HB.out.keep hq
 have tl := HBL.out.trans ((hq).mono HBL.out.size)
 clear HBL HA HB
 clear a_0 a_f0 a_1 a_f1 a_2 a_f2 a_3 a_f3
 obtain ⟨a_0, a_f0, a_1, a_f1, a_2, a_f2, a_3, a_f3⟩ := k_a.f4
 have HA := zh k_a; clear k_a
 clear b_0 b_f0 b_1 b_f1 b_2 b_f2 b_3 b_f3
 obtain ⟨b_0, b_f0, b_1, b_f1, b_2, b_f2, b_3, b_f3⟩ := k_b.f4
 have HB := zh k_b; clear k_b
 have HBL := zh tl; clear tl
 clear hq
 obtain ⟨m2, hm2⟩ : ∃ n, n = rows.length := ⟨_, rfl⟩
 obtain ⟨va2, vc2, rfl⟩ : ∃ a c, vt = .slice a m2 c := by
  obtain ⟨rvs, -, hrow, -⟩ := id hvt
  obtain ⟨a, c, h, -⟩ := hrow.slice
  exact ⟨a, c, by rw [hm2]; exact h⟩
 have hcc := HCN.out va2 m2 vc2 _ hm2 hvt
 have HCC := zh hcc; clear hcc
 clear hvt hm2
 go_wp2_with fail
 refine (HCC.out).mono ?_
 rintro e w8 ⟨hq, rfl⟩
 dsimp only
 have k_a := HA.out.keep hq
 have k_b := HB.out.keep hq
 have tl := HBL.out.trans ((hq).mono HBL.out.size)
 clear HBL HA HB
 clear a_0 a_f0 a_1 a_f1 a_2 a_f2 a_3 a_f3
 obtain ⟨a_0, a_f0, a_1, a_f1, a_2, a_f2, a_3, a_f3⟩ := k_a.f4
 have HA := zh k_a; clear k_a
 clear b_0 b_f0 b_1 b_f1 b_2 b_f2 b_3 b_f3
 obtain ⟨b_0, b_f0, b_1, b_f1, b_2, b_f2, b_3, b_f3⟩ := k_b.f4
 have HB := zh k_b; clear k_b
 have HBL := zh tl; clear tl
 clear hq
 go_wp2_with fail
 refine bodyPost_ret (v := .tuple #[.int .i64 N, .int .i64 0]) (by simp [results, Tryz.results29, go_sem]) rfl ⟨HBL.out, rfl⟩
end Go.Proofs.YtjpalbonclgflaaGreat

/- Facts at x^2 - 2: plain. -/
namespace Go.Proofs.YtjpalbonclgflaaGreat

instance (m : Nat) (z : Int) : Decidable (zs m z) := inferInstanceAs (Decidable (_ < _))
instance (m : Nat) (q : Rat) : Decidable (rs m q) := inferInstanceAs (Decidable (_ ∧ _))
def pA : List Int := [-2, 0, 1]
def rA : List (List Int) := [[-2, 0, 1], [0, 1], [1]]
theorem stm_pA : stmA pA = rA := by decide +kernel
theorem ends_pA : Ends pA := by
 intro k x h
 have h2 : pA = [-2, 0] ++ [1] := rfl
 rw [h2] at h
 have h3 := (List.append_inj' h rfl).2
 simp only [List.cons.injEq, and_true] at h3
 rw [← h3]; decide
theorem fine_pA : AFine pA 10 where
 len := by decide
 pos := by decide
 ends := ends_pA
 hM := by decide
 z := by decide +kernel
 zd := by decide +kernel
 g := gfine_of fun n hn => by
  have hl : (prm pA, prm (der pA)).2.length = 2 := by decide +kernel
  rw [hl] at hn
  match n, hn with
  | 0, _ => decide +kernel
  | 1, _ => decide +kernel
  | 2, _ => decide +kernel
 c := by decide +kernel
 sl := by decide +kernel
 sp := by decide +kernel
theorem bnd_pA : bnd pA = 4 := by decide +kernel
theorem iso_pA : Iso rA 10 (-(Rat.divInt 4 1)) (Rat.divInt 4 1) [(-(Rat.divInt 4 1), 0), (0, Rat.divInt 4 1)] := by
 have hm : (-(Rat.divInt 4 1) + Rat.divInt 4 1) / 2 = (0 : Rat) := by decide +kernel
 have h1 : Iso rA 10 (-(Rat.divInt 4 1)) ((-(Rat.divInt 4 1) + Rat.divInt 4 1) / 2) [(-(Rat.divInt 4 1), 0)] := by
  rw [hm]
  exact Iso.one _ _ (by decide +kernel) (by decide +kernel) (by decide +kernel)
 have h2 : Iso rA 10 ((-(Rat.divInt 4 1) + Rat.divInt 4 1) / 2) (Rat.divInt 4 1) [(0, Rat.divInt 4 1)] := by
  rw [hm]
  exact Iso.one _ _ (by decide +kernel) (by decide +kernel) (by decide +kernel)
 exact Iso.more _ _ _ _ (by decide +kernel) (by decide +kernel) (by decide +kernel) (by decide +kernel) h1 h2
theorem root_pA : (chg rA 0 : Int) - (chg rA (Rat.divInt 4 1) : Int) = 1 := by decide +kernel
theorem wds_pA : (∀ k, k < 3 → Rat.divInt 1 2 < wds 0 (Rat.divInt 4 1) k) ∧ ¬ Rat.divInt 1 2 < wds 0 (Rat.divInt 4 1) 3 ∧ ∀ k, k ≤ 3 → rs 10 (wds 0 (Rat.divInt 4 1) k) := by
 refine ⟨fun k hk => ?_, by decide +kernel, fun k hk => ?_⟩
 ·
  match k, hk with
  | 0, _ => decide +kernel
  | 1, _ => decide +kernel
  | 2, _ => decide +kernel
 ·
  match k, hk with
  | 0, _ => decide +kernel
  | 1, _ => decide +kernel
  | 2, _ => decide +kernel
  | 3, _ => decide +kernel
theorem rfn_pA : (∀ k, k ≤ 3 → rs 10 (rfn rA (0, Rat.divInt 4 1) k).1 ∧ rs 10 (rfn rA (0, Rat.divInt 4 1) k).2) ∧ rfn rA (0, Rat.divInt 4 1) 3 = (Rat.divInt 1 1, Rat.divInt 3 2) := by
 refine ⟨fun k hk => ?_, by decide +kernel⟩
 match k, hk with
 | 0, _ => decide +kernel
 | 1, _ => decide +kernel
 | 2, _ => decide +kernel
 | 3, _ => decide +kernel
theorem chg_pA : chg rA (Rat.divInt (-2) 1) = 2 ∧ chg rA (Rat.divInt 2 1) = 0 := by decide +kernel
end Go.Proofs.YtjpalbonclgflaaGreat


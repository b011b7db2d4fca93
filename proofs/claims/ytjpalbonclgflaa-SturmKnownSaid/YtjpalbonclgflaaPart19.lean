/- Contracts and plain laws of several functions, one after the other: Aw5P, ContQ. -/
import Derived.Test.YtjpalbonclgflaaRfn
import Derived.Test.YtjpalbonclgflaaChkQ
import Derived.Test.YtjpalbonclgflaaIso
/- Facts at x^2 - 2: plain. -/
namespace Go.Proofs.Ytjpalbonclgflaa

instance (m : Nat) (z : Int) : Decidable (zs m z) := inferInstanceAs (Decidable (_ < _))
instance (m : Nat) (q : Rat) : Decidable (rs m q) := inferInstanceAs (Decidable (_ ∧ _))
def pA : List Int := [-2, 0, 1]
def rA : List (List Int) := [[-2, 0, 1], [0, 1], [1]]
theorem stm_pA : stmA pA = rA := by decide +kernel
theorem ends_pA : Ends pA := by
 intro k x h
 have h2 : pA = [-2, 0] ++ [1] := rfl
 rw [h2] at h
 have h3 := (List.append_inj' h rfl).2
 simp only [List.cons.injEq, and_true] at h3
 rw [← h3]; decide
theorem fine_pA : AFine pA 10 where
 len := by decide
 pos := by decide
 ends := ends_pA
 hM := by decide
 z := by decide +kernel
 zd := by decide +kernel
 g := gfine_of fun n hn => by
  have hl : (prm pA, prm (der pA)).2.length = 2 := by decide +kernel
  rw [hl] at hn
  match n, hn with
  | 0, _ => decide +kernel
  | 1, _ => decide +kernel
  | 2, _ => decide +kernel
 c := by decide +kernel
 sl := by decide +kernel
 sp := by decide +kernel
theorem bnd_pA : bnd pA = 4 := by decide +kernel
theorem iso_pA : Iso rA 10 (-(Rat.divInt 4 1)) (Rat.divInt 4 1) [(-(Rat.divInt 4 1), 0), (0, Rat.divInt 4 1)] := by
 have hm : (-(Rat.divInt 4 1) + Rat.divInt 4 1) / 2 = (0 : Rat) := by decide +kernel
 have h1 : Iso rA 10 (-(Rat.divInt 4 1)) ((-(Rat.divInt 4 1) + Rat.divInt 4 1) / 2) [(-(Rat.divInt 4 1), 0)] := by
  rw [hm]
  exact Iso.one _ _ (by decide +kernel) (by decide +kernel) (by decide +kernel)
 have h2 : Iso rA 10 ((-(Rat.divInt 4 1) + Rat.divInt 4 1) / 2) (Rat.divInt 4 1) [(0, Rat.divInt 4 1)] := by
  rw [hm]
  exact Iso.one _ _ (by decide +kernel) (by decide +kernel) (by decide +kernel)
 exact Iso.more _ _ _ _ (by decide +kernel) (by decide +kernel) (by decide +kernel) (by decide +kernel) h1 h2
theorem root_pA : (chg rA 0 : Int) - (chg rA (Rat.divInt 4 1) : Int) = 1 := by decide +kernel
theorem wds_pA : (∀ k, k < 3 → Rat.divInt 1 2 < wds 0 (Rat.divInt 4 1) k) ∧ ¬ Rat.divInt 1 2 < wds 0 (Rat.divInt 4 1) 3 ∧ ∀ k, k ≤ 3 → rs 10 (wds 0 (Rat.divInt 4 1) k) := by
 refine ⟨fun k hk => ?_, by decide +kernel, fun k hk => ?_⟩
 ·
  match k, hk with
  | 0, _ => decide +kernel
  | 1, _ => decide +kernel
  | 2, _ => decide +kernel
 ·
  match k, hk with
  | 0, _ => decide +kernel
  | 1, _ => decide +kernel
  | 2, _ => decide +kernel
  | 3, _ => decide +kernel
theorem rfn_pA : (∀ k, k ≤ 3 → rs 10 (rfn rA (0, Rat.divInt 4 1) k).1 ∧ rs 10 (rfn rA (0, Rat.divInt 4 1) k).2) ∧ rfn rA (0, Rat.divInt 4 1) 3 = (Rat.divInt 1 1, Rat.divInt 3 2) := by
 refine ⟨fun k hk => ?_, by decide +kernel⟩
 match k, hk with
 | 0, _ => decide +kernel
 | 1, _ => decide +kernel
 | 2, _ => decide +kernel
 | 3, _ => decide +kernel
theorem chg_pA : chg rA (Rat.divInt (-2) 1) = 2 ∧ chg rA (Rat.divInt 2 1) = 0 := by decide +kernel
end Go.Proofs.Ytjpalbonclgflaa

/- slices.Contains over rationals (printed by gen_contq.py). -/
namespace Go.Proofs.Ytjpalbonclgflaa
open Go.RowKit

def crq (l : List Rat) : List Value := l.flatMap cq
theorem crq_snoc (l : List Rat) (a : Rat) : crq (l ++ [a]) = crq l ++ cq a := by simp [crq]
theorem crq_get {l : List Rat} {k : Nat} {x : Rat} (h : l[k]? = some x) : ∀ (i : Nat) (u : Value), (cq x)[i]? = some u → (crq l)[k * 4 + i]? = some u := by
 induction l generalizing k with
 | nil => simp at h
 | cons y l ih =>
  intro i u hu
  have e : crq (y :: l) = cq y ++ crq l := rfl
  have e4 : (cq y).length = 4 := rfl
  cases k with
  | zero =>
   simp at h; subst h
   rw [e, Nat.zero_mul, Nat.zero_add, List.getElem?_append_left (List.getElem?_eq_some_iff.1 hu).1]
   exact hu
  | succ k =>
   rw [e, List.getElem?_append_right (by rw [e4]; omega)]
   have e1 : (k + 1) * 4 + i - (cq y).length = k * 4 + i := by rw [e4]; omega
   rw [e1]
   exact ih (k := k) (by simpa using h) i u hu
theorem crq_cell {w w' : World} {B b off : Nat} {l : List Rat} {k : Nat} {x : Rat} (hce : ∀ (j : Nat) (u : Value), (crq l)[j]? = some u → w.cell? ⟨b, off + j, none⟩ = some u) (hb : Below B w w') (hlt : b < B) (h : l[k]? = some x) :
  ∀ (i : Nat) (u : Value), (cq x)[i]? = some u → w'.cell? ⟨b, off + k * 4 + i, none⟩ = some u := fun i u hu =>
 (hb.cell (p := ⟨b, off + k * 4 + i, none⟩) hlt).trans (by rw [Nat.add_assoc]; exact hce _ _ (crq_get h i u hu))
set_option maxRecDepth 100000 in
theorem eqIn_ratR (a b : Rat) (w : World) : (Op.equalIn 10000 35 (.agg #[.bool (ineg a.num), .string (imag a.num), .bool (ineg (a.den : Int)), .string (imag (a.den : Int))]) (.agg #[.bool (ineg b.num), .string (imag b.num), .bool (ineg (b.den : Int)), .string (imag (b.den : Int))])).run Try.prog w = .ok (decide (a = b)) w := by
 have h := eqIn_ratD 9996 (ineg a.num) (ineg (a.den : Int)) (ineg b.num) (ineg (b.den : Int)) (imag a.num) (imag (a.den : Int)) (imag b.num) (imag (b.den : Int)) w
 simp only [Nat.reduceAdd] at h
 rw [h]
 congr 1
 rw [eqZ_dec, eqZ_dec]
 by_cases hab : a = b
 ·
  subst hab; simp
 ·
  rw [decide_eq_false hab]
  simp only [Bool.and_eq_false_iff, decide_eq_false_iff_not]
  refine Classical.byContradiction fun h2 => hab ?_
  have h3 : a.num = b.num := Classical.byContradiction fun h3 => h2 (.inl h3)
  have h4 : (a.den : Int) = (b.den : Int) := Classical.byContradiction fun h4 => h2 (.inr h4)
  rw [← Rat.num_divInt_den a, ← Rat.num_divInt_den b, h3, h4]
def IdxRetR (b : Bool) (w : World) (e : Ending) (w' : World) : Prop := Below w.heap.size w w' ∧ ∃ z : Int, e = .returned (.int .i64 z) ∧ decide (0 ≤ z) = b
set_option maxRecDepth 100000 in
set_option maxHeartbeats 3200000 in
theorem idxR_any (L : List Rat) (v : Value) (r : Rat) (w : World) (hr : Row w v L.length (crq L)) :
  Calls Try.prog 23 #[v, .agg #[.bool (ineg r.num), .string (imag r.num), .bool (ineg (r.den : Int)), .string (imag (r.den : Int))]] w (IdxRetR (decide (r ∈ L)) w) := by
 obtain ⟨va, vc, rfl, hle⟩ := hr.slice
 obtain ⟨n, hn⟩ : ∃ n, n = L.length := ⟨_, rfl⟩
 obtain ⟨B, hB⟩ : ∃ B, B = decide (r ∈ L) := ⟨_, rfl⟩
 have hB0 : B = decide (r ∈ L.drop 0) := hB
 rw [← hn] at hr hle ⊢
 rw [← hB]
 have HRW := zh hr; clear hr
 have HN := zh hn; clear hn
 have HB0 := zh hB0; clear hB0
 clear hB
 obtain ⟨w4, hw4⟩ : ∃ w4, w4 = w.alloc (.cells #[.bool (ineg r.num), .string (imag r.num), .bool (ineg (r.den : Int)), .string (imag (r.den : Int))] 35) := ⟨_, rfl⟩
 have k_a : Blk w4 (w.heap.size) 35 [.bool (ineg r.num), .string (imag r.num), .bool (ineg (r.den : Int)), .string (imag (r.den : Int))] := by
  rw [hw4]
  have h := (Blk.new (w) 35 [.bool (ineg r.num), .string (imag r.num), .bool (ineg (r.den : Int)), .string (imag (r.den : Int))])
  (try simp only [World.size_alloc, Nat.add_assoc, Nat.reduceAdd] at h)
  exact h
 have tl : Below w.heap.size w w4 := by
  rw [hw4]
  exact ((Below.refl w.heap.size w).alloc (by simp <;> omega) (.cells #[.bool (ineg r.num), .string (imag r.num), .bool (ineg (r.den : Int)), .string (imag (r.den : Int))] 35))
 have hs4 : w4.heap.size = w.heap.size + 1 := by rw [hw4]; simp only [World.size_alloc]
 obtain ⟨a_0, a_f0, a_1, a_f1, a_2, a_f2, a_3, a_f3⟩ := k_a.f4
 have HA := zh k_a; clear k_a
 have HBL := zh tl; clear tl
 go_enter Try.func23, Try.ntmps23
 go_wp2_with fail
 (try rw [← hw4])
 clear hw4
 (try simp only [Nat.add_assoc, Nat.reduceAdd])
 go_loopw [5, 8] (fun _ i wr => ∃ k : Nat, k ≤ n ∧ i = .int .i64 k ∧ Below w.heap.size w wr ∧ Blk wr w.heap.size 35 [.bool (ineg r.num), .string (imag r.num), .bool (ineg (r.den : Int)), .string (imag (r.den : Int))] ∧ B = decide (r ∈ L.drop k)) (fun _ i _ => n - (intOf i).toNat)
 case atStart => exact ⟨0, Nat.zero_le _, rfl, HBL.out, HA.out, HB0.out⟩
 case round =>
  clear HBL HA HB0 a_0 a_f0 a_1 a_f1 a_2 a_f2 a_3 a_f3
  obtain ⟨k, hk, rfl, tl, k_a, hno⟩ := hrel
  obtain ⟨wo, rfl⟩ : ∃ wo : World, wo = wr := ⟨_, rfl⟩
  by_cases hkn : k < n
  ·
   have hkl : k < L.length := by have := HN.out; omega
   have hget : L[k]? = some (L[k]'hkl) := List.getElem?_eq_getElem _
   rw [List.drop_eq_getElem_cons hkl] at hno
   obtain ⟨x, hx⟩ : ∃ x, x = L[k]'hkl := ⟨_, rfl⟩
   rw [← hx] at hget hno
   obtain ⟨b1, o1, rfl, hb1, hbc⟩ := HRW.out.at_ (by omega)
   have hcl := crq_cell hbc tl hb1 hget
   have p0 := hcl 0 _ rfl
   have p1 := hcl 1 _ rfl
   have p2 := hcl 2 _ rfl
   have p3 := hcl 3 _ rfl
   rw [Nat.add_zero] at p0
   have hix1 : (0 : Int) ≤ (k : Int) := by omega
   have hix2 : (k : Int) < (n : Int) := by omega
   have heq := fun w' => eqIn_ratR r x w'
   obtain ⟨d, hd⟩ : ∃ d, d = decide (r = x) := ⟨_, rfl⟩
   simp only [← hd] at heq
   have hno2 : B = (d || decide (r ∈ L.drop (k + 1))) := by rw [hno, hd]; simp [List.mem_cons]
   have HNO := zh hno2; clear hno2
   clear hno hcl hbc hget hx hd hkl
   obtain ⟨a_0, a_f0, a_1, a_f1, a_2, a_f2, a_3, a_f3⟩ := k_a.f4
   have HA := zh k_a; clear k_a
   have HBL := zh tl; clear tl
   go_wp2_with fail
   have HA := zh HA.out.drew
   have HBL := zh HBL.out.drew
   refine wp_region_held_drew (S := fun w' => w'.cell? ⟨w.heap.size, 0, none⟩ = some (.bool (ineg r.num)) ∧ w'.cell? ⟨w.heap.size, 1, none⟩ = some (.string (imag r.num)) ∧ w'.cell? ⟨w.heap.size, 2, none⟩ = some (.bool (ineg (r.den : Int))) ∧ w'.cell? ⟨w.heap.size, 3, none⟩ = some (.string (imag (r.den : Int))) ∧ w'.cell? ⟨b1, o1 + k * 4, none⟩ = some (.bool (ineg x.num)) ∧ w'.cell? ⟨b1, o1 + k * 4 + 1, none⟩ = some (.string (imag x.num)) ∧ w'.cell? ⟨b1, o1 + k * 4 + 2, none⟩ = some (.bool (ineg (x.den : Int))) ∧ w'.cell? ⟨b1, o1 + k * 4 + 3, none⟩ = some (.string (imag (x.den : Int)))) (by kernel_rfl) ?_ (fun hHeld0 => ?_)
   ·
    go_keep
   refine zT 0 (h := ?_)
   (try simp only [Act.put, zA, zB, zC])
   refine zT 1 (h := ?_)
   (try simp only [Act.put, zA, zB, zC])
   refine zT 2 (h := ?_)
   (try simp only [Act.put, zA, zB, zC])
   refine zT 3 (h := ?_)
   (try simp only [Act.put, zA, zB, zC])
   refine zT 4 (h := ?_)
   (try simp only [Act.put, zA, zB, zC])
   refine zT 5 (h := ?_)
   (try simp only [Act.put, zA, zB, zC])
   refine wpAnyH_done (by kernel_rfl) ?_ _
   (try simp only [List.getElem_toArray, List.getElem_cons_zero, List.getElem_cons_succ, Act.put, zA, zB, zC])
   cases d with
   | true =>
    have hno3 : B = true := by rw [HNO.out]; rfl
    have HNO3 := zh hno3; clear hno3
    clear HNO
    go_wp2_with fail
    go_ret
    exact ⟨HBL.out, _, rfl, by rw [HNO3.out]; exact decide_eq_true (by omega)⟩
   | false =>
    have hno3 : B = decide (r ∈ L.drop (k + 1)) := by rw [HNO.out]; rfl
    have HNO3 := zh hno3; clear hno3
    clear HNO
    go_wp2_with fail
    go_roundw
    case rel => exact ⟨k + 1, by omega, by go_num, HBL.out, HA.out, HNO3.out⟩
    case measure => simp [intOf]; omega
  ·
   obtain rfl : k = n := by omega
   rw [List.drop_of_length_le (by rw [← HN.out]; exact Nat.le_refl _)] at hno
   have hno2 : B = false := by rw [hno]; simp
   have HNO := zh hno2; clear hno2
   clear hno
   obtain ⟨a_0, a_f0, a_1, a_f1, a_2, a_f2, a_3, a_f3⟩ := k_a.f4
   have HA := zh k_a; clear k_a
   have HBL := zh tl; clear tl
   go_wp2_with fail
   go_ret
   exact ⟨HBL.out, _, rfl, by rw [HNO.out]; rfl⟩
set_option maxRecDepth 100000 in
set_option maxHeartbeats 3200000 in
theorem contR_any (L : List Rat) (v : Value) (r : Rat) (w : World) (hr : Row w v L.length (crq L)) :
  Calls Try.prog 8 #[v, .agg #[.bool (ineg r.num), .string (imag r.num), .bool (ineg (r.den : Int)), .string (imag (r.den : Int))]] w (Ret w (.bool (decide (r ∈ L)))) := by
 have hix := fun w' h => idxR_any L v r w' h
 unfold IdxRetR at hix
 obtain ⟨va, vc, rfl, hle⟩ := hr.slice
 obtain ⟨n, hn⟩ : ∃ n, n = L.length := ⟨_, rfl⟩
 obtain ⟨B, hB⟩ : ∃ B, B = decide (r ∈ L) := ⟨_, rfl⟩
 rw [← hn] at hr hix ⊢
 rw [← hB] at hix ⊢
 have HRW := zh hr; clear hr
 have HIX := zh hix; clear hix
 clear hB hn
 obtain ⟨w4, hw4⟩ : ∃ w4, w4 = w.alloc (.cells #[.bool (ineg r.num), .string (imag r.num), .bool (ineg (r.den : Int)), .string (imag (r.den : Int))] 35) := ⟨_, rfl⟩
 have k_a : Blk w4 (w.heap.size) 35 [.bool (ineg r.num), .string (imag r.num), .bool (ineg (r.den : Int)), .string (imag (r.den : Int))] := by
  rw [hw4]
  have h := (Blk.new (w) 35 [.bool (ineg r.num), .string (imag r.num), .bool (ineg (r.den : Int)), .string (imag (r.den : Int))])
  (try simp only [World.size_alloc, Nat.add_assoc, Nat.reduceAdd] at h)
  exact h
 have tl : Below w.heap.size w w4 := by
  rw [hw4]
  exact ((Below.refl w.heap.size w).alloc (by simp <;> omega) (.cells #[.bool (ineg r.num), .string (imag r.num), .bool (ineg (r.den : Int)), .string (imag (r.den : Int))] 35))
 have hs4 : w4.heap.size = w.heap.size + 1 := by rw [hw4]; simp only [World.size_alloc]
 obtain ⟨a_0, a_f0, a_1, a_f1, a_2, a_f2, a_3, a_f3⟩ := k_a.f4
 have HA := zh k_a; clear k_a
 have HBL := zh tl; clear tl
 go_enter Try.func8, Try.ntmps8
 go_wp2_with fail
 (try rw [← hw4])
 clear hw4
 (try simp only [Nat.add_assoc, Nat.reduceAdd])
 have hi := HIX.out _ (HRW.out.below HBL.out (Nat.le_refl _))
 have HI := zh hi; clear hi
 refine (HI.out).mono ?_
 rintro e w5 ⟨hq, z, rfl, hz⟩
 dsimp only
 have HZ := zh hz; clear hz
 have k_a := HA.out.keep hq
 have tl := HBL.out.trans ((hq).mono HBL.out.size)
 clear HBL HA
 clear a_0 a_f0 a_1 a_f1 a_2 a_f2 a_3 a_f3
 obtain ⟨a_0, a_f0, a_1, a_f1, a_2, a_f2, a_3, a_f3⟩ := k_a.f4
 have HA := zh k_a; clear k_a
 have HBL := zh tl; clear tl
 clear hq
 go_wp2_with fail
 go_ret
 exact ⟨HBL.out, congrArg (fun t => Ending.returned (.bool t)) HZ.out⟩
end Go.Proofs.Ytjpalbonclgflaa


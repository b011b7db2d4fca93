/- Contracts and plain laws of several functions, one after the other: ChkA, Paths, SerP, Fin22, GreatP. -/
import Derived.Shelf.Abstract
import Derived.Test.YthpgeeaccmgbkaaGreatCheck
import Derived.Test.YthpgeeaccmgbkaaGreatPart14
import Derived.Test.YthpgeeaccmgbkaaGreatCnt
import Derived.Test.YthpgeeaccmgbkaaGreatProd
import Derived.Test.YthpgeeaccmgbkaaGreatRChk
/- What a valid graph keeps to; plain. -/
namespace Go.Proofs.YthpgeeaccmgbkaaGreat
open Go.RowKit

theorem chkL_rng {L S : Int} : ∀ {es : List E3} {p : Option E3}, chkL L S p es = 0 → ∀ e ∈ es, ¬ edgeBad L S e
 | [], _, _ => fun e he => by cases he
 | e :: r, p, h =>
  by
  by_cases hb : edgeBad L S e
  ·
   rw [chk_bad hb] at h; cases h
  ·
   have h2 : chkL L S (some e) r = 0 := by
    cases p with
    | none => rw [chkL, if_neg hb] at h; exact h
    | some q =>
     rw [chkL, if_neg hb] at h
     split at h
     ·
      cases h
     ·
      exact h
   intro e' he'
   rcases List.mem_cons.1 he' with rfl | he'
   ·
    exact hb
   ·
    exact chkL_rng h2 e' he'
/-- What a valid graph keeps to. -/
theorem chk_all {L S : Int} {es : List E3} (h : chk L S es = 0) : 1 ≤ L ∧ 0 ≤ S ∧ S ≤ 64 ∧ es.length ≤ 1024 ∧ ∀ e ∈ es, ¬ edgeBad L S e := by
 unfold chk at h
 split at h
 ·
  cases h
 ·
  split at h
  ·
   cases h
  ·
   split at h
   ·
    cases h
   ·
    exact ⟨by omega, by omega, by omega, by omega, chkL_rng h⟩
theorem chk_inS {L : Int} {S : Nat} {es : List E3} (h : chk L (S : Int) es = 0) : InS S es := fun e he => by
 have h1 := (chk_all h).2.2.2.2 e he
 unfold edgeBad at h1
 omega
def allP : Int → Bool := fun _ => true
end Go.Proofs.YthpgeeaccmgbkaaGreat

/- counting.Paths at valid graphs, states and lengths. -/
namespace Go.Proofs.YthpgeeaccmgbkaaGreat
open Go.RowKit

set_option maxRecDepth 100000 in
set_option maxHeartbeats 3200000 in
theorem ccheck_ok0 (L S : Int) (n : Nat) (es : List E3) (v : Value) (w : World) (hr : Row w v es.length (ce es)) (hok : okEs es) (hc : chk L S es = 0) (hn : n ≤ 4096) :
  Calls Tryz.prog 32 #[.agg #[.int .i64 L, .int .i64 S, v], .int .i64 0, .int .i64 (n : Int)] w (Ret w (.int .i64 0)) := by
 have s0 := (Below.refl w.heap.size w).alloc (Nat.le_refl _) (.cells #[.int .i64 L, .int .i64 S, v] 24)
 have hck := check_any L S es v _ (hr.below s0 (Nat.le_refl _)) hok
 rw [hc] at hck
 have t1 : decide ((n : Int) < 0) = false := decide_eq_false (by omega)
 have t2 : decide (4096 < (n : Int)) = false := decide_eq_false (by omega)
 have b0 := Blk.new w 24 [.int .i64 L, .int .i64 S, v]
 have x0 := b0.cell (j := 0) rfl
 have x1 := b0.cell (j := 1) rfl
 have x2 := b0.cell (j := 2) rfl
 have HCK := Lib.hid hck; clear hck
 have S0 := Lib.hid s0; clear s0
 clear hr hok hc b0
 go_enter Tryz.func32, Tryz.ntmps32
 go_wp2_with fail
 go_at_call 31
 refine HCK.out.mono ?_
 rintro e w1 ⟨hq, rfl⟩
 have HQ := Lib.hid hq; clear hq
 go_wp2_with fail
 go_ret
 exact ⟨S0.out.trans (HQ.out.mono S0.out.size), rfl⟩
end Go.Proofs.YthpgeeaccmgbkaaGreat

/- counting.Series: what it computes, plain. -/
namespace Go.Proofs.YthpgeeaccmgbkaaGreat
open Go.RowKit

/-- The first j terms of coefficient i of a product. -/
def cv (D B : List Int) (i j : Nat) : Int := ((List.range j).map fun t => D.getD t 0 * B.getD (i - t) 0).sum
theorem cv_zero (D B : List Int) (i : Nat) : cv D B i 0 = 0 := rfl
theorem cv_succ {D B : List Int} {i j : Nat} {x y : Int} (hx : D[j]? = some x) (hy : B[i - j]? = some y) : cv D B i (j + 1) = cv D B i j + x * y := by
 unfold cv
 rw [List.range_succ, List.map_append, List.sum_append]
 simp [List.getD_eq_getElem?_getD, hx, hy]
theorem getD_sm {p : Nat} {l : List Int} (h : ∀ z ∈ l, sm p z) (k : Nat) : sm p (l.getD k 0) := by
 rw [List.getD_eq_getElem?_getD]
 cases e : l[k]? with
 | none => unfold sm; exact Nat.pow_pos (by decide)
 | some z => exact h z (List.mem_of_getElem? e)
theorem cv_sm {D B : List Int} {p q : Nat} (hD : ∀ z ∈ D, sm p z) (hB : ∀ z ∈ B, sm q z) (i : Nat) {j : Nat} (hj : j ≤ 255) : sm (p + q + 1) (cv D B i j) := by
 refine sm_sum' (fun z hz => ?_) (by simpa using hj)
 obtain ⟨t, -, rfl⟩ := List.mem_map.1 hz
 exact (getD_sm hD t).mul (getD_sm hB _)
/-- The coefficients of which those before i are done, and j terms of this one. -/
def numP (D B : List Int) (S i j : Nat) : List Int := (List.range S).map fun q => if q < i then cv D B q (q + 1) else if q = i then cv D B i j else 0
def numL (D B : List Int) (S : Nat) : List Int := (List.range S).map fun q => cv D B q (q + 1)
theorem numP_start (D B : List Int) (S : Nat) : numP D B S 0 0 = List.replicate S 0 := by
 apply List.ext_getElem
 ·
  simp [numP]
 ·
  intro k h1 h2
  simp only [numP, List.getElem_map, List.getElem_range, List.getElem_replicate, cv_zero]
  simp
theorem numP_get {D B : List Int} {S i j : Nat} (h : i < S) : (numP D B S i j)[i]? = some (cv D B i j) := by simp [numP, h]
theorem numP_set (D B : List Int) (S i j : Nat) : (numP D B S i j).set i (cv D B i (j + 1)) = numP D B S i (j + 1) := by
 apply List.ext_getElem
 ·
  simp [numP]
 ·
  intro k h1 h2
  rw [List.getElem_set]
  simp only [numP, List.getElem_map, List.getElem_range]
  by_cases e : i = k
  ·
   subst e; simp
  ·
   have e2 : ¬ k = i := fun h => e h.symm
   simp [e, e2]
theorem numP_next (D B : List Int) (S i : Nat) : numP D B S i (i + 1) = numP D B S (i + 1) 0 := by
 apply List.ext_getElem
 ·
  simp [numP]
 ·
  intro k h1 h2
  simp only [numP, List.getElem_map, List.getElem_range, cv_zero]
  by_cases e : k < i
  ·
   rw [if_pos e, if_pos (by omega)]
  ·
   by_cases e2 : k = i
   ·
    subst e2; simp
   ·
    rw [if_neg e, if_neg e2, if_neg (by omega)]; simp
theorem numP_full (D B : List Int) (S : Nat) : numP D B S S 0 = numL D B S := by
 apply List.ext_getElem
 ·
  simp [numP, numL]
 ·
  intro k h1 h2
  have hk : k < S := by simpa [numP] using h1
  simp [numP, numL, hk]
/-- The numbers of paths of lengths up to S from s. -/
def bL (es : List E3) (s S : Nat) : List Int := (List.range S).map fun k => cw es allP k (s : Int)
theorem bL_length (es : List E3) (s S : Nat) : (bL es s S).length = S := by simp [bL]
theorem bL_succ (es : List E3) (s k : Nat) : bL es s (k + 1) = bL es s k ++ [cw es allP k (s : Int)] := by simp [bL, List.range_succ]
theorem cw_sm {es : List E3} (hl : es.length ≤ 1024) (p : Int → Bool) (k : Nat) (s : Int) : sm (2 * k + 1) (cw es p k s) := by
 have h1 := cw_nonneg es p k s
 have h2 := cw_le_len es p k s
 have h3 : es.length ^ k ≤ (256 ^ 2) ^ k := Nat.pow_le_pow_left (by omega) k
 rw [← Nat.pow_mul] at h3
 unfold sm
 have h4 : 256 ^ (2 * k) < 256 ^ (2 * k + 1) := Nat.pow_lt_pow_right (by decide) (by omega)
 omega
theorem bL_sm {es : List E3} (hl : es.length ≤ 1024) (s S : Nat) : ∀ z ∈ bL es s S, sm (2 * S + 1) z := fun z hz => by
 obtain ⟨k, hk, rfl⟩ := List.mem_map.1 hz
 rw [List.mem_range] at hk
 exact (cw_sm hl _ k _).mono (by omega)
end Go.Proofs.YthpgeeaccmgbkaaGreat

/- groovelaw22.fine: where it is true the graph is valid, with at most 8 states and 30 edges. -/
namespace Go.Proofs.YthpgeeaccmgbkaaGreat
open Go.RowKit

def G10Ret (S : Int) (n : Nat) (w : World) (e : Ending) (w' : World) : Prop := Below w.heap.size w w' ∧ ∃ b, e = .returned (.bool b) ∧ (b = false → ¬ (8 < S ∧ S ≤ 64) ∧ ¬ (30 < (n : Int) ∧ (n : Int) ≤ 1024))
set_option maxRecDepth 100000 in
set_option maxHeartbeats 3200000 in
theorem great10_any (L S : Int) (a : Option Addr) (n c : Nat) (w : World) :
  Calls Tryz.prog 29 #[.agg #[.int .i64 L, .int .i64 S, .slice a n c]] w (G10Ret S n w) := by
 have s0 := (Below.refl w.heap.size w).alloc (Nat.le_refl _) (.cells #[.int .i64 L, .int .i64 S, .slice a n c] 24)
 have S0 := Lib.hid s0; clear s0
 go_enter Tryz.func29, Tryz.ntmps29
 go_wp2_with fail
 all_goals
  go_ret
  refine ⟨S0.out, _, rfl, ?_⟩
  intro hb
  first
   | omega
   | (simp at hb; omega)
   | simp at hb
end Go.Proofs.YthpgeeaccmgbkaaGreat

/- groovelaw22.great: where it is false the graph is small, and so is the length. -/
namespace Go.Proofs.YthpgeeaccmgbkaaGreat
open Go.RowKit

def SmallP (S : Int) (m : Nat) (n : Int) : Prop := ¬ (8 < S ∧ S ≤ 64) ∧ ¬ (30 < (m : Int) ∧ (m : Int) ≤ 1024) ∧ ¬ (40 < n ∧ n ≤ 4096)
def GrRet (S : Int) (m : Nat) (n : Int) (w : World) (e : Ending) (w' : World) : Prop := Below w.heap.size w w' ∧ ∃ b, e = .returned (.bool b) ∧ (b = false → SmallP S m n)
set_option maxRecDepth 100000 in
set_option maxHeartbeats 3200000 in
theorem great22_any (L S n : Int) (va : Option Addr) (m vc : Nat) (w : World) :
  Calls Tryz.prog 6 #[.agg #[.int .i64 L, .int .i64 S, .slice va m vc], .int .i64 n] w (GrRet S m n w) := by
 have s0 := (Below.refl w.heap.size w).alloc (Nat.le_refl _) (.cells #[.int .i64 L, .int .i64 S, .slice va m vc] 24)
 have b0 := Blk.new w 24 [.int .i64 L, .int .i64 S, .slice va m vc]
 have hga := fun w' => great10_any L S va m vc w'
 have x0 := b0.cell (j := 0) rfl
 have x1 := b0.cell (j := 1) rfl
 have x2 := b0.cell (j := 2) rfl
 have S0 := Lib.hid s0; clear s0
 have HGA := Lib.hid hga; clear hga
 clear b0
 go_enter Tryz.func6, Tryz.ntmps6
 go_wp2_with fail
 go_at_call 29
 refine (HGA.out _).mono ?_
 rintro e w1 ⟨hq, b, rfl, hb⟩
 have s1 := S0.out.trans (hq.mono S0.out.size)
 have S1 := Lib.hid s1; clear s1
 clear hq x0 x1 x2
 cases b with
 | true =>
  go_wp2_with fail
  go_ret
  exact ⟨S1.out, _, rfl, fun h => by cases h⟩
 | false =>
  obtain ⟨g1, g2⟩ := hb rfl
  by_cases h1 : 40 < n
  ·
   have d1 : decide (40 < n) = true := by simpa using h1
   by_cases h2 : n ≤ 4096
   ·
    have d2 : decide (n ≤ 4096) = true := by simpa using h2
    go_wp2_with fail
    go_ret
    exact ⟨S1.out, _, rfl, fun h => by cases h⟩
   ·
    have d2 : decide (n ≤ 4096) = false := by simpa using h2
    go_wp2_with fail
    go_ret
    exact ⟨S1.out, _, rfl, fun _ => ⟨g1, g2, by omega⟩⟩
  ·
   have d1 : decide (40 < n) = false := by simpa using h1
   go_wp2_with fail
   go_ret
   exact ⟨S1.out, _, rfl, fun _ => ⟨g1, g2, by omega⟩⟩
end Go.Proofs.YthpgeeaccmgbkaaGreat


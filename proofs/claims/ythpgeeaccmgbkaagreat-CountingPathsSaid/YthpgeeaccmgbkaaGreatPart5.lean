/- Contracts and plain laws of several functions, one after the other: ChkA, Paths, SerP, Fin22, GreatP. -/
import Derived.Shelf.Abstract
import Derived.Test.YthpgeeaccmgbkaaGreatCheck
import Derived.Test.YthpgeeaccmgbkaaGreatPart11
import Derived.Test.YthpgeeaccmgbkaaGreatCnt
import Derived.Test.YthpgeeaccmgbkaaGreatProd
import Derived.Test.YthpgeeaccmgbkaaGreatRChk
/- What a valid graph keeps to; plain. -/
namespace Go.Proofs.YthpgeeaccmgbkaaGreat
open Go.RowKit

theorem chkL_rng {L S : Int} : ∀ {es : List E3} {p : Option E3}, chkL L S p es = 0 → ∀ e ∈ es, ¬ edgeBad L S e
  | [], _, _ => fun e he => by cases he
  | e :: r, p, h => by
    by_cases hb : edgeBad L S e
    · rw [chk_bad hb] at h; cases h
    · have h2 : chkL L S (some e) r = 0 := by
        cases p with
        | none => rw [chkL, if_neg hb] at h; exact h
        | some q =>
          rw [chkL, if_neg hb] at h
          split at h
          · cases h
          · exact h
      intro e' he'
      rcases List.mem_cons.1 he' with rfl | he'
      · exact hb
      · exact chkL_rng h2 e' he'
/-- What a valid graph keeps to. -/
theorem chk_all {L S : Int} {es : List E3} (h : chk L S es = 0) : 1 ≤ L ∧ 0 ≤ S ∧ S ≤ 64 ∧ es.length ≤ 1024 ∧ ∀ e ∈ es, ¬ edgeBad L S e := by
  unfold chk at h
  split at h
  · cases h
  · split at h
    · cases h
    · split at h
      · cases h
      · exact ⟨by omega, by omega, by omega, by omega, chkL_rng h⟩
theorem chk_inS {L : Int} {S : Nat} {es : List E3} (h : chk L (S : Int) es = 0) : InS S es := fun e he => by
  have h1 := (chk_all h).2.2.2.2 e he
  unfold edgeBad at h1
  omega
def allP : Int → Bool := fun _ => true
end Go.Proofs.YthpgeeaccmgbkaaGreat

/- counting.Paths at valid graphs, states and lengths. -/
namespace Go.Proofs.YthpgeeaccmgbkaaGreat
open Go.RowKit

/-- An edge turned round. -/
def swp (e : E3) : E3 := ⟨e.t, e.l, e.f⟩
theorem swp_inS {S : Nat} {es : List E3} (h : InS S es) : InS S (es.map swp) := fun e he => by
  obtain ⟨x, hx, rfl⟩ := List.mem_map.1 he
  have := h x hx
  exact ⟨this.2.2.1, this.2.2.2, this.1, this.2.1⟩
/-- The number of paths of length n from s to t. -/
def pth (es : List E3) (n : Nat) (s t : Int) : Int := cw (es.map swp) (fun x => x == s) n t
theorem row_one (es : List E3) {S s : Nat} (hs : s < S) : (List.replicate S (0 : Int)).set s 1 = rowK es S (fun x => x == (s : Int)) 0 := by
  apply List.ext_getElem?
  intro i
  by_cases hi : i < S
  · rw [rowK_get hi]
    by_cases e : i = s
    · subst e
      rw [List.getElem?_set_self (by simpa using hi)]
      simp [cw]
    · rw [List.getElem?_set_ne (fun h => e h.symm), List.getElem?_replicate, if_pos hi]
      have : ¬ ((i : Int) = (s : Int)) := by omega
      simp [cw, this]
  · rw [List.getElem?_eq_none (by simp; omega), List.getElem?_eq_none (by rw [rowK_length]; omega)]
set_option maxRecDepth 100000 in
set_option maxHeartbeats 3200000 in
theorem paths1_any (e : E3) (w : World) :
    Calls Tryz.prog 34 #[.agg #[.int .i64 e.f, .int .i64 e.l, .int .i64 e.t]] w (Ret w (.tuple #[.int .i64 (swp e).t, .int .i64 (swp e).f])) := by
  have s0 := (Below.refl w.heap.size w).alloc (Nat.le_refl _) (.cells #[.int .i64 e.f, .int .i64 e.l, .int .i64 e.t] 53)
  have hx := Blk.new w 53 [.int .i64 e.f, .int .i64 e.l, .int .i64 e.t]
  have x0 := hx.cell (j := 0) rfl
  have x2 := hx.cell (j := 2) rfl
  have hs : (swp e).t = e.f ∧ (swp e).f = e.t := ⟨rfl, rfl⟩
  rw [hs.1, hs.2]
  have S0 := Lib.hid s0; clear s0
  clear hx hs
  go_enter Tryz.func34, Tryz.ntmps34
  go_wp2_with fail
  refine wp_region_held_drew (S := fun w' => w'.cell? ⟨w.heap.size, 0, none⟩ = some (.int .i64 e.f) ∧ w'.cell? ⟨w.heap.size, 2, none⟩ = some (.int .i64 e.t)) (by kernel_rfl) ?_ (fun hHeld => ?_)
  · go_keep
  refine wpAnyH_take (i := 0) (v := ?_) rfl (by kernel_rfl) (by kernel_rfl) (by kernel_rfl) (fun _ _ _ h => h) (Or.inl ⟨by rfl, ?_⟩) (by assumption) ?_
  rotate_left
  · (intro wS hSw; (try dsimp only at hSw); go_simp; (try with_reducible rfl))
  (try simp only [Act.put, List.setIfInBounds_toArray, List.set_cons_zero, List.set_cons_succ])
  refine wpAnyH_take (i := 1) (v := ?_) rfl (by kernel_rfl) (by kernel_rfl) (by kernel_rfl) (fun _ _ _ h => h) (Or.inl ⟨by rfl, ?_⟩) (by assumption) ?_
  rotate_left
  · (intro wS hSw; (try dsimp only at hSw); go_simp; (try with_reducible rfl))
  (try simp only [Act.put, List.setIfInBounds_toArray, List.set_cons_zero, List.set_cons_succ])
  refine wpAnyH_take (i := 2) (v := ?_) rfl (by kernel_rfl) (by kernel_rfl) (by kernel_rfl) (fun _ _ _ h => h) (Or.inl ⟨by rfl, ?_⟩) (by assumption) ?_
  rotate_left
  · (intro wS hSw; (try dsimp only at hSw); go_simp; (try with_reducible rfl))
  (try simp only [Act.put, List.setIfInBounds_toArray, List.set_cons_zero, List.set_cons_succ])
  refine wpAnyH_take (i := 3) (v := ?_) rfl (by kernel_rfl) (by kernel_rfl) (by kernel_rfl) (fun _ _ _ h => h) (Or.inl ⟨by rfl, ?_⟩) (by assumption) ?_
  rotate_left
  · (intro wS hSw; (try dsimp only at hSw); go_simp; (try with_reducible rfl))
  (try simp only [Act.put, List.setIfInBounds_toArray, List.set_cons_zero, List.set_cons_succ])
  refine wpAnyH_take (i := 4) (v := ?_) rfl (by kernel_rfl) (by kernel_rfl) (by kernel_rfl) (fun _ _ _ h => h) (Or.inl ⟨by rfl, ?_⟩) (by assumption) ?_
  rotate_left
  · (intro wS hSw; (try dsimp only at hSw); go_simp; (try with_reducible rfl))
  (try simp only [Act.put, List.setIfInBounds_toArray, List.set_cons_zero, List.set_cons_succ])
  refine wpAnyH_take (i := 5) (v := ?_) rfl (by kernel_rfl) (by kernel_rfl) (by kernel_rfl) (fun _ _ _ h => h) (Or.inl ⟨by rfl, ?_⟩) (by assumption) ?_
  rotate_left
  · (intro wS hSw; (try dsimp only at hSw); go_simp; (try with_reducible rfl))
  (try simp only [Act.put, List.setIfInBounds_toArray, List.set_cons_zero, List.set_cons_succ])
  refine wpAnyH_done (by kernel_rfl) ?_ _
  (try simp only [List.getElem_toArray, List.getElem_cons_zero, List.getElem_cons_succ, Act.put, List.setIfInBounds_toArray, List.set_cons_zero, List.set_cons_succ])
  go_wp2_with fail
  go_ret2
  exact ⟨S0.out.drew, rfl⟩
set_option maxRecDepth 100000 in
set_option maxHeartbeats 3200000 in
theorem ccheck_ok0 (L S : Int) (n : Nat) (es : List E3) (v : Value) (w : World) (hr : Row w v es.length (ce es)) (hok : okEs es) (hc : chk L S es = 0) (hn : n ≤ 4096) :
    Calls Tryz.prog 32 #[.agg #[.int .i64 L, .int .i64 S, v], .int .i64 0, .int .i64 (n : Int)] w (Ret w (.int .i64 0)) := by
  have s0 := (Below.refl w.heap.size w).alloc (Nat.le_refl _) (.cells #[.int .i64 L, .int .i64 S, v] 24)
  have hck := check_any L S es v _ (hr.below s0 (Nat.le_refl _)) hok
  rw [hc] at hck
  have t1 : decide ((n : Int) < 0) = false := decide_eq_false (by omega)
  have t2 : decide (4096 < (n : Int)) = false := decide_eq_false (by omega)
  have b0 := Blk.new w 24 [.int .i64 L, .int .i64 S, v]
  have x0 := b0.cell (j := 0) rfl
  have x1 := b0.cell (j := 1) rfl
  have x2 := b0.cell (j := 2) rfl
  have HCK := Lib.hid hck; clear hck
  have S0 := Lib.hid s0; clear s0
  clear hr hok hc b0
  go_enter Tryz.func32, Tryz.ntmps32
  go_wp2_with fail
  go_at_call 31
  refine HCK.out.mono ?_
  rintro e w1 ⟨hq, rfl⟩
  have HQ := Lib.hid hq; clear hq
  go_wp2_with fail
  go_ret
  exact ⟨S0.out.trans (HQ.out.mono S0.out.size), rfl⟩
set_option maxRecDepth 100000 in
set_option maxHeartbeats 3200000 in
theorem paths_ok (L : Int) (S s t n : Nat) (es : List E3) (v : Value) (w : World) (hr : Row w v es.length (ce es)) (hok : okEs es) (hc : chk L (S : Int) es = 0) (hs : s < S) (ht : t < S) (hn : n ≤ 4096) :
    Calls Tryz.prog 8 #[.agg #[.int .i64 L, .int .i64 (S : Int), v], .int .i64 (s : Int), .int .i64 (t : Int), .int .i64 (n : Int)] w (Ret w (.tuple #[IntV (pth es n (s : Int) (t : Int)), .int .i64 0])) := by
  obtain ⟨va, vc, rfl, hle⟩ := hr.slice
  obtain ⟨mm, hmm⟩ : ∃ mm, mm = es.length := ⟨_, rfl⟩
  have hca := chk_all hc
  have hinS := swp_inS (chk_inS hc)
  have s0 := ((Below.refl w.heap.size w).alloc (Nat.le_refl _) (.cells #[.int .i64 L, .int .i64 (S : Int), .slice va es.length vc] 24)).alloc (by simp) (.cells #[.bool false, .string ⟨#[]⟩] 28)
  have b0 := (Blk.new w 24 [.int .i64 L, .int .i64 (S : Int), .slice va es.length vc]).alloc (.cells #[.bool false, .string ⟨#[]⟩] 28)
  have b1 := Blk.new (w.alloc (.cells #[.int .i64 L, .int .i64 (S : Int), .slice va es.length vc] 24)) 28 [.bool false, .string ⟨#[]⟩]
  simp only [World.size_alloc] at b1
  have hr0 := hr.below s0 (Nat.le_refl _)
  have hck := check_any L (S : Int) es (.slice va es.length vc) _ hr0 hok
  rw [hc] at hck
  have hcc := fun w' h => ccheck_ok0 L (S : Int) n es (.slice va es.length vc) w' h hok hc hn
  have hof := fun w' => iof_any 1 w' (by decide) (by decide)
  have hct := fun bl w' (h : Row w' (.slice va es.length vc) es.length (ce es)) hb => count_any L S n bl es (.slice va es.length vc) 34 swp (fun x => x == (s : Int)) w' h (by omega) hn (by omega) hinS (fun args w => enters_of Tryz.func34 (by kernel_rfl) rfl args w) paths1_any hb
  have gx : (rowK (es.map swp) S (fun x => x == (s : Int)) n)[t]? = some (pth es n (s : Int) (t : Int)) := rowK_get ht
  obtain ⟨R, hR⟩ : ∃ R, R = rowK (es.map swp) S (fun x => x == (s : Int)) n := ⟨_, rfl⟩
  obtain ⟨X, hX⟩ : ∃ X, X = pth es n (s : Int) (t : Int) := ⟨_, rfl⟩
  rw [← hR] at hct gx
  rw [← hX] at gx ⊢
  rw [← row_one (es.map swp) hs] at hct
  rw [← hmm] at s0 b0 b1 hr0 hck hle hcc hct
  have hmk := mkI S (by omega) (S : Int) rfl
  have t1 : decide ((s : Int) < 0) = false := decide_eq_false (by omega)
  have t2 : decide ((S : Int) ≤ (s : Int)) = false := decide_eq_false (by omega)
  have t3 : decide ((t : Int) < 0) = false := decide_eq_false (by omega)
  have t4 : decide ((S : Int) ≤ (t : Int)) = false := decide_eq_false (by omega)
  have HMM := Lib.hid hmm; clear hmm
  have HCK := Lib.hid hck; clear hck
  have HCC := Lib.hid hcc; clear hcc
  have HOF := Lib.hid hof; clear hof
  have HCT := Lib.hid hct; clear hct
  have S0 := Lib.hid s0; clear s0
  have B0 := Lib.hid b0; clear b0
  have B1 := Lib.hid b1; clear b1
  have HR := Lib.hid hr0; clear hr0
  have GX := Lib.hid gx; clear gx
  clear hr hok hc hca hinS hR hX
  go_enter Tryz.func8, Tryz.ntmps8
  rw [← HMM.out]
  go_wp2_with fail
  go_at_call 31
  refine HCK.out.mono ?_
  rintro e w1 ⟨hq1, rfl⟩
  have s1 := S0.out.trans (hq1.mono S0.out.size)
  have hr1 := HR.out.below hq1 (Nat.le_refl _)
  have tk := B0.out.keep hq1; have x0 := tk.cell (j := 0) rfl; have x1 := tk.cell (j := 1) rfl; have x2 := tk.cell (j := 2) rfl; have C0 := Lib.hid tk; clear tk
  have y0 := B1.out.keep hq1
  have C1 := Lib.hid y0; clear y0
  have S1 := Lib.hid s1; clear s1
  have HR1 := Lib.hid hr1; clear hr1
  clear hq1
  go_wp2_with fail
  go_at_call 32
  refine (HCC.out _ HR1.out).mono ?_
  rintro e w2 ⟨hq1, rfl⟩
  have s1 := S1.out.trans (hq1.mono S1.out.size)
  have hr1 := HR1.out.below hq1 (Nat.le_refl _)
  clear x0 x1 x2
  have tk := C0.out.keep hq1; have x0 := tk.cell (j := 0) rfl; have x1 := tk.cell (j := 1) rfl; have x2 := tk.cell (j := 2) rfl; have D0 := Lib.hid tk; clear tk
  have y0 := C1.out.keep hq1
  have D1 := Lib.hid y0; clear y0
  have S2 := Lib.hid s1; clear s1
  have HR2 := Lib.hid hr1; clear hr1
  clear hq1 t1 t2 t3 t4
  have hw2 : w.heap.size + 1 < w2.heap.size := D1.out.lt
  go_wp2_with fail
  go_at_call 28
  refine (HOF.out _).mono ?_
  rintro e w3 ⟨hq1, rfl⟩
  have nb := (blk_mkI w2 S).keep hq1
  have bl := Below.alloc (Below.refl w2.heap.size w2) (Nat.le_refl _) (.cells (zarr (.agg #[.bool false, .string ⟨#[]⟩]) S) 28)
  have bq := bl.trans (hq1.mono bl.size)
  have s1 := S2.out.trans (bq.mono S2.out.size)
  have hr1 := HR2.out.below bq (Nat.le_refl _)
  have e0 := D0.out.below bq (by omega)
  have e1 := D1.out.below bq (by omega)
  have hl3 := nb.lt
  have hss : (civ (List.replicate S 0))[s * 2]? = some (.bool (ineg 0)) ∧ (civ (List.replicate S 0))[s * 2 + 1]? = some (.string (imag 0)) := civ_get (by rw [List.getElem?_replicate, if_pos hs])
  have n0 := nb.cell hss.1
  have n1 := nb.cell hss.2
  have f0 := nb.frozen (s * 2)
  have f1 := nb.frozen (s * 2 + 1)
  have hix1 : (0 : Int) ≤ (s : Int) := by omega
  have hix2 : (s : Int) < (S : Int) := by omega
  have hix3 : (0 : Int) ≤ (t : Int) := by omega
  have hix4 : (t : Int) < (S : Int) := by omega
  have nz := (nb.set (s * 2) (.bool (ineg 1))).set (s * 2 + 1) (.string (imag 1))
  rw [civ_set] at nz
  have sz := (s1.setCell (p := ⟨w2.heap.size, s * 2, none⟩) (show w.heap.size ≤ w2.heap.size by omega) (.bool (ineg 1))).setCell (p := ⟨w2.heap.size, s * 2 + 1, none⟩) (show w.heap.size ≤ w2.heap.size by omega) (.string (imag 1))
  have bz := (bq.setCell (p := ⟨w2.heap.size, s * 2, none⟩) (Nat.le_refl _) (.bool (ineg 1))).setCell (p := ⟨w2.heap.size, s * 2 + 1, none⟩) (Nat.le_refl _) (.string (imag 1))
  have rz := HR2.out.below bz (Nat.le_refl _)
  have ez := D0.out.below bz (by omega)
  have fz := D1.out.below bz (by omega)
  obtain ⟨wz, hwz⟩ : ∃ wz, (w3.setCell ⟨w2.heap.size, s * 2, none⟩ (.bool (ineg 1))).setCell ⟨w2.heap.size, s * 2 + 1, none⟩ (.string (imag 1)) = wz := ⟨_, rfl⟩
  rw [hwz] at nz sz bz rz ez fz
  have x0' := ez.cell (j := 0) rfl
  have x1' := ez.cell (j := 1) rfl
  have x2' := ez.cell (j := 2) rfl
  have NZ := Lib.hid nz; clear nz
  have SZ := Lib.hid sz; clear sz
  have RZ := Lib.hid rz; clear rz
  have FZ := Lib.hid fz; clear fz
  clear hq1 x0 x1 x2 nb s1 hr1 e0 e1 bq bl bz ez hss
  go_wp2_with fail
  go_at_call 33
  refine (HCT.out _ _ RZ.out NZ.out).mono ?_
  rintro e w4 ⟨hq, b, rfl, hb⟩
  have s4 := SZ.out.trans (hq.mono SZ.out.size)
  have fz := FZ.out.keep hq
  have c0 := hb.cell (civ_get GX.out).1
  have c1 := hb.cell (civ_get GX.out).2
  have r0 := fz.cell (j := 0) rfl
  have r1 := fz.cell (j := 1) rfl
  have g0 := fz.frozen 0
  have g1 := fz.frozen 1
  have S4 := Lib.hid s4; clear s4
  have HB := Lib.hid hb; clear hb
  clear hq n0 n1 f0 f1 x0' x1' x2' hwz
  go_wp2_with fail
  refine bodyPost_ret (v := .tuple #[IntV X, .int .i64 0]) ?_ rfl ?_
  · have e0 := ((fz.set 0 (.bool (ineg X))).set 1 (.string (imag X))).cell (j := 0) rfl
    have e1 := ((fz.set 0 (.bool (ineg X))).set 1 (.string (imag X))).cell (j := 1) rfl
    simp [results, Tryz.results8, go_sem, e0, e1, IntV]
  · exact ⟨(S4.out.setCell (p := ⟨w.heap.size + 1, 0, none⟩) (show w.heap.size ≤ w.heap.size + 1 by omega) _).setCell (p := ⟨w.heap.size + 1, 1, none⟩) (show w.heap.size ≤ w.heap.size + 1 by omega) _, rfl⟩
end Go.Proofs.YthpgeeaccmgbkaaGreat

/- counting.Series: what it computes, plain. -/
namespace Go.Proofs.YthpgeeaccmgbkaaGreat
open Go.RowKit

/-- The first j terms of coefficient i of a product. -/
def cv (D B : List Int) (i j : Nat) : Int := ((List.range j).map fun t => D.getD t 0 * B.getD (i - t) 0).sum
theorem cv_zero (D B : List Int) (i : Nat) : cv D B i 0 = 0 := rfl
theorem cv_succ {D B : List Int} {i j : Nat} {x y : Int} (hx : D[j]? = some x) (hy : B[i - j]? = some y) : cv D B i (j + 1) = cv D B i j + x * y := by
  unfold cv
  rw [List.range_succ, List.map_append, List.sum_append]
  simp [List.getD_eq_getElem?_getD, hx, hy]
theorem getD_sm {p : Nat} {l : List Int} (h : ∀ z ∈ l, sm p z) (k : Nat) : sm p (l.getD k 0) := by
  rw [List.getD_eq_getElem?_getD]
  cases e : l[k]? with
  | none => unfold sm; exact Nat.pow_pos (by decide)
  | some z => exact h z (List.mem_of_getElem? e)
theorem cv_sm {D B : List Int} {p q : Nat} (hD : ∀ z ∈ D, sm p z) (hB : ∀ z ∈ B, sm q z) (i : Nat) {j : Nat} (hj : j ≤ 255) : sm (p + q + 1) (cv D B i j) := by
  refine sm_sum' (fun z hz => ?_) (by simpa using hj)
  obtain ⟨t, -, rfl⟩ := List.mem_map.1 hz
  exact (getD_sm hD t).mul (getD_sm hB _)
/-- The coefficients of which those before i are done, and j terms of this one. -/
def numP (D B : List Int) (S i j : Nat) : List Int := (List.range S).map fun q => if q < i then cv D B q (q + 1) else if q = i then cv D B i j else 0
def numL (D B : List Int) (S : Nat) : List Int := (List.range S).map fun q => cv D B q (q + 1)
theorem numP_length (D B : List Int) (S i j : Nat) : (numP D B S i j).length = S := by simp [numP]
theorem numP_start (D B : List Int) (S : Nat) : numP D B S 0 0 = List.replicate S 0 := by
  apply List.ext_getElem
  · simp [numP]
  · intro k h1 h2
    simp only [numP, List.getElem_map, List.getElem_range, List.getElem_replicate, cv_zero]
    simp
theorem numP_get {D B : List Int} {S i j : Nat} (h : i < S) : (numP D B S i j)[i]? = some (cv D B i j) := by simp [numP, h]
theorem numP_set (D B : List Int) (S i j : Nat) : (numP D B S i j).set i (cv D B i (j + 1)) = numP D B S i (j + 1) := by
  apply List.ext_getElem
  · simp [numP]
  · intro k h1 h2
    rw [List.getElem_set]
    simp only [numP, List.getElem_map, List.getElem_range]
    by_cases e : i = k
    · subst e; simp
    · have e2 : ¬ k = i := fun h => e h.symm
      simp [e, e2]
theorem numP_next (D B : List Int) (S i : Nat) : numP D B S i (i + 1) = numP D B S (i + 1) 0 := by
  apply List.ext_getElem
  · simp [numP]
  · intro k h1 h2
    simp only [numP, List.getElem_map, List.getElem_range, cv_zero]
    by_cases e : k < i
    · rw [if_pos e, if_pos (by omega)]
    · by_cases e2 : k = i
      · subst e2; simp
      · rw [if_neg e, if_neg e2, if_neg (by omega)]; simp
theorem numP_full (D B : List Int) (S : Nat) : numP D B S S 0 = numL D B S := by
  apply List.ext_getElem
  · simp [numP, numL]
  · intro k h1 h2
    have hk : k < S := by simpa [numP] using h1
    simp [numP, numL, hk]
/-- The numbers of paths of lengths up to S from s. -/
def bL (es : List E3) (s S : Nat) : List Int := (List.range S).map fun k => cw es allP k (s : Int)
theorem bL_length (es : List E3) (s S : Nat) : (bL es s S).length = S := by simp [bL]
theorem bL_succ (es : List E3) (s k : Nat) : bL es s (k + 1) = bL es s k ++ [cw es allP k (s : Int)] := by simp [bL, List.range_succ]
theorem cw_sm {es : List E3} (hl : es.length ≤ 1024) (p : Int → Bool) (k : Nat) (s : Int) : sm (2 * k + 1) (cw es p k s) := by
  have h1 := cw_nonneg es p k s
  have h2 := cw_le_len es p k s
  have h3 : es.length ^ k ≤ (256 ^ 2) ^ k := Nat.pow_le_pow_left (by omega) k
  rw [← Nat.pow_mul] at h3
  unfold sm
  have h4 : 256 ^ (2 * k) < 256 ^ (2 * k + 1) := Nat.pow_lt_pow_right (by decide) (by omega)
  omega
theorem bL_sm {es : List E3} (hl : es.length ≤ 1024) (s S : Nat) : ∀ z ∈ bL es s S, sm (2 * S + 1) z := fun z hz => by
  obtain ⟨k, hk, rfl⟩ := List.mem_map.1 hz
  rw [List.mem_range] at hk
  exact (cw_sm hl _ k _).mono (by omega)
end Go.Proofs.YthpgeeaccmgbkaaGreat

/- groovelaw22.fine: where it is true the graph is valid, with at most 8 states and 30 edges. -/
namespace Go.Proofs.YthpgeeaccmgbkaaGreat
open Go.RowKit

def G10Ret (S : Int) (n : Nat) (w : World) (e : Ending) (w' : World) : Prop := Below w.heap.size w w' ∧ ∃ b, e = .returned (.bool b) ∧ (b = false → ¬ (8 < S ∧ S ≤ 64) ∧ ¬ (30 < (n : Int) ∧ (n : Int) ≤ 1024))
set_option maxRecDepth 100000 in
set_option maxHeartbeats 3200000 in
theorem great10_any (L S : Int) (a : Option Addr) (n c : Nat) (w : World) :
    Calls Tryz.prog 29 #[.agg #[.int .i64 L, .int .i64 S, .slice a n c]] w (G10Ret S n w) := by
  have s0 := (Below.refl w.heap.size w).alloc (Nat.le_refl _) (.cells #[.int .i64 L, .int .i64 S, .slice a n c] 24)
  have S0 := Lib.hid s0; clear s0
  go_enter Tryz.func29, Tryz.ntmps29
  go_wp2_with fail
  all_goals
    go_ret
    refine ⟨S0.out, _, rfl, ?_⟩
    intro hb
    first
      | omega
      | (simp at hb; omega)
      | simp at hb
def FineP (L S : Int) (es : List E3) : Prop := chk L S es = 0 ∧ S ≤ 8 ∧ es.length ≤ 30
def FineRet (L S : Int) (es : List E3) (w : World) (e : Ending) (w' : World) : Prop := Below w.heap.size w w' ∧ ∃ b, e = .returned (.bool b) ∧ (b = true → FineP L S es)
set_option maxRecDepth 100000 in
set_option maxHeartbeats 3200000 in
theorem fine22_any (L S : Int) (es : List E3) (v : Value) (w : World) (hr : Row w v es.length (ce es)) :
    Calls Tryz.prog 24 #[.agg #[.int .i64 L, .int .i64 S, v]] w (FineRet L S es w) := by
  obtain ⟨va, vc, rfl, hle⟩ := hr.slice
  obtain ⟨mm, hmm⟩ : ∃ mm, mm = es.length := ⟨_, rfl⟩
  have s0 := (Below.refl w.heap.size w).alloc (Nat.le_refl _) (.cells #[.int .i64 L, .int .i64 S, .slice va es.length vc] 24)
  have b0 := Blk.new w 24 [.int .i64 L, .int .i64 S, .slice va es.length vc]
  have hrc := fun w' h => rcheck_any L S es (.slice va es.length vc) w' h
  have hr0 := hr.below s0 (Nat.le_refl _)
  have hF : chk L S es = 0 → ¬ (8 < S ∧ S ≤ 64) → ¬ (30 < (es.length : Int) ∧ (es.length : Int) ≤ 1024) → FineP L S es := fun h h1 h2 => by
    have := chk_all h
    exact ⟨h, by omega, by omega⟩
  obtain ⟨C, hC⟩ : ∃ C, C = chk L S es := ⟨_, rfl⟩
  rw [← hC] at hrc hF
  rw [← hmm] at s0 b0 hrc hr0 hF
  have hga := fun w' => great10_any L S va mm vc w'
  have HMM := Lib.hid hmm; clear hmm
  have S0 := Lib.hid s0; clear s0
  have B0 := Lib.hid b0; clear b0
  have HF := Lib.hid hF; clear hF
  have HRC := Lib.hid hrc; clear hrc
  have HGA := Lib.hid hga; clear hga
  have HR0 := Lib.hid hr0; clear hr0
  clear hr hC
  go_enter Tryz.func24, Tryz.ntmps24
  rw [← HMM.out]
  go_wp2_with fail
  go_at_call 29
  refine (HGA.out _).mono ?_
  rintro e w1 ⟨hq, b, rfl, hb⟩
  have s1 := S0.out.trans (hq.mono S0.out.size)
  have hr1 := HR0.out.below hq (Nat.le_refl _)
  have tk := B0.out.keep hq; have x0 := tk.cell (j := 0) rfl; have x1 := tk.cell (j := 1) rfl; have x2 := tk.cell (j := 2) rfl; have C0 := Lib.hid tk; clear tk
  have S1 := Lib.hid s1; clear s1
  have HR1 := Lib.hid hr1; clear hr1
  clear hq
  cases b with
  | true =>
    go_wp2_with fail
    go_ret
    exact ⟨S1.out, _, rfl, fun h => by cases h⟩
  | false =>
    obtain ⟨g1, g2⟩ := hb rfl
    go_wp2_with fail
    go_at_call 35
    refine (HRC.out _ HR1.out).mono ?_
    rintro e w2 ⟨hq, rfl⟩
    have s2 := S1.out.trans (hq.mono S1.out.size)
    have S2 := Lib.hid s2; clear s2
    clear hq
    by_cases hd0 : C = 0
    · have t0 : (C == 0) = true := by simp [hd0]
      go_wp2_with fail
      go_ret
      exact ⟨S2.out, _, rfl, fun _ => HF.out hd0 g1 g2⟩
    · have t0 : (C == 0) = false := by simp [hd0]
      go_wp2_with fail
      go_ret
      exact ⟨S2.out, _, rfl, fun h => by cases h⟩
end Go.Proofs.YthpgeeaccmgbkaaGreat

/- groovelaw22.great: where it is false the graph is small, and so is the length. -/
namespace Go.Proofs.YthpgeeaccmgbkaaGreat
open Go.RowKit

def SmallP (S : Int) (m : Nat) (n : Int) : Prop := ¬ (8 < S ∧ S ≤ 64) ∧ ¬ (30 < (m : Int) ∧ (m : Int) ≤ 1024) ∧ ¬ (40 < n ∧ n ≤ 4096)
def GrRet (S : Int) (m : Nat) (n : Int) (w : World) (e : Ending) (w' : World) : Prop := Below w.heap.size w w' ∧ ∃ b, e = .returned (.bool b) ∧ (b = false → SmallP S m n)
set_option maxRecDepth 100000 in
set_option maxHeartbeats 3200000 in
theorem great22_any (L S n : Int) (va : Option Addr) (m vc : Nat) (w : World) :
    Calls Tryz.prog 6 #[.agg #[.int .i64 L, .int .i64 S, .slice va m vc], .int .i64 n] w (GrRet S m n w) := by
  have s0 := (Below.refl w.heap.size w).alloc (Nat.le_refl _) (.cells #[.int .i64 L, .int .i64 S, .slice va m vc] 24)
  have b0 := Blk.new w 24 [.int .i64 L, .int .i64 S, .slice va m vc]
  have hga := fun w' => great10_any L S va m vc w'
  have x0 := b0.cell (j := 0) rfl
  have x1 := b0.cell (j := 1) rfl
  have x2 := b0.cell (j := 2) rfl
  have S0 := Lib.hid s0; clear s0
  have HGA := Lib.hid hga; clear hga
  clear b0
  go_enter Tryz.func6, Tryz.ntmps6
  go_wp2_with fail
  go_at_call 29
  refine (HGA.out _).mono ?_
  rintro e w1 ⟨hq, b, rfl, hb⟩
  have s1 := S0.out.trans (hq.mono S0.out.size)
  have S1 := Lib.hid s1; clear s1
  clear hq x0 x1 x2
  cases b with
  | true =>
    go_wp2_with fail
    go_ret
    exact ⟨S1.out, _, rfl, fun h => by cases h⟩
  | false =>
    obtain ⟨g1, g2⟩ := hb rfl
    by_cases h1 : 40 < n
    · have d1 : decide (40 < n) = true := by simpa using h1
      by_cases h2 : n ≤ 4096
      · have d2 : decide (n ≤ 4096) = true := by simpa using h2
        go_wp2_with fail
        go_ret
        exact ⟨S1.out, _, rfl, fun h => by cases h⟩
      · have d2 : decide (n ≤ 4096) = false := by simpa using h2
        go_wp2_with fail
        go_ret
        exact ⟨S1.out, _, rfl, fun _ => ⟨g1, g2, by omega⟩⟩
    · have d1 : decide (40 < n) = false := by simpa using h1
      go_wp2_with fail
      go_ret
      exact ⟨S1.out, _, rfl, fun _ => ⟨g1, g2, by omega⟩⟩
end Go.Proofs.YthpgeeaccmgbkaaGreat


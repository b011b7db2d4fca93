/- matrix.characteristic, square, Characteristic: given the quotients. -/
import Derived.Test.YthpgeeaccmgbkaaTrace
import Derived.Test.YthpgeeaccmgbkaaMSum
import Derived.Test.YthpgeeaccmgbkaaPart8
import Derived.Test.YthpgeeaccmgbkaaClosed
namespace Go.Proofs.Ythpgeeaccmgbkaa
open Go.RowKit

/-- The matrices that lead to the polynomial, with the quotients c. -/
def chM (A : List (List Int)) (n : Nat) (c : Nat → Int) : Nat → List (List Int)
  | 0 => matF n n (diagF 1)
  | k + 1 => matF n n (addF (matF n n (mulF A (chM A n c k))) (matF n n (diagF (c (k + 1)))))
def nxM (A : List (List Int)) (n : Nat) (c : Nat → Int) (k : Nat) : List (List Int) := matF n n (mulF A (chM A n c k))
/-- The coefficients of which j - 1 are done. -/
def pL (c : Nat → Int) (n j : Nat) : List Int := (List.range (n + 1)).map fun q => if q = n then 1 else if n - q < j then c (n - q) else 0
theorem pL_length (c : Nat → Int) (n j : Nat) : (pL c n j).length = n + 1 := by simp [pL]
theorem pL_one (c : Nat → Int) (n : Nat) : (List.replicate (n + 1) (0 : Int)).set n 1 = pL c n 1 := by
  apply List.ext_getElem
  · simp [pL]
  · intro i h1 h2
    have hi : i < n + 1 := by simpa using h1
    rw [List.getElem_set]
    simp only [pL, List.getElem_map, List.getElem_range, List.getElem_replicate]
    by_cases e : n = i
    · subst e; simp
    · rw [if_neg e, if_neg (by omega), if_neg (by omega)]
theorem pL_step (c : Nat → Int) {n j : Nat} (h1 : 1 ≤ j) (hj : j ≤ n) : (pL c n j).set (n - j) (c j) = pL c n (j + 1) := by
  apply List.ext_getElem
  · simp [pL]
  · intro i h1 h2
    have hi : i < n + 1 := by simpa [pL] using h2
    rw [List.getElem_set]
    simp only [pL, List.getElem_map, List.getElem_range]
    by_cases e : n - j = i
    · rw [if_pos e, if_neg (by omega), if_pos (by omega)]
      congr 1; omega
    · rw [if_neg e]
      by_cases e2 : i = n
      · rw [if_pos e2, if_pos e2]
      · rw [if_neg e2, if_neg e2]
        by_cases h : n - i < j
        · rw [if_pos h, if_pos (by omega)]
        · rw [if_neg h, if_neg (by omega)]
theorem diag_ok {z : Int} {p : Nat} (n : Nat) (h : sm p z) : MatOk (matF n n (diagF z)) n n p := matF_ok (fun i k => by
  unfold diagF
  split
  · exact h
  · unfold sm; exact Nat.pow_pos (by decide))
theorem MatB.other {B : Nat} {w : World} {b0 m : Nat} {rows : List (List Int)} (h : MatB B w b0 m rows) {d : Nat} (hd : d < B) (j : Nat) (u : Value) : MatB B (w.setCell ⟨d, j, none⟩ u) b0 m rows := by
  obtain ⟨bs, h1, h2, h3, h4, h5⟩ := h
  exact ⟨bs, h1, h2, h3, h4.setOther (by show d ≠ b0; omega) _, fun i r hr => by obtain ⟨g0, b, g1, g2, g3⟩ := h5 i r hr; exact ⟨g0, b, g1, g2, g3.setOther (by show d ≠ b; omega) _⟩⟩
def ChRet (A : List (List Int)) (n : Nat) (c : Nat → Int) (w : World) (e : Ending) (w' : World) : Prop :=
  Below w.heap.size w w' ∧ ∃ pb bm, e = .returned (.tuple #[.slice (some ⟨pb, 0, none⟩) (n + 1) (n + 1), .slice (some ⟨bm, 0, none⟩) n n]) ∧ Blk w' pb 28 (civ (pL c n (n + 1))) ∧ w.heap.size ≤ pb
set_option maxRecDepth 100000 in
set_option maxHeartbeats 8000000 in
theorem char_any (n P : Nat) (A : List (List Int)) (v : Value) (c r : Nat → Int) (w : World) (hT : Tab w v A) (okA : MatOk A n n P) (hn0 : 0 < n) (hn : n ≤ 32) (hP : P ≤ 40000) (hP1 : 1 ≤ P)
    (hch : ∀ j, j < n → MatOk (chM A n c j) n n P) (hc : ∀ j, j ≤ n → sm P (c j))
    (hdiv : ∀ j, j < n → ∀ w', Calls Try.prog 33 #[IntV (-(trM (nxM A n c j) n)), IntV ((j : Int) + 1)] w' (Ret w' (.tuple #[IntV (c (j + 1)), IntV (r j), .int .i64 0]))) :
    Calls Try.prog 67 #[v] w (ChRet A n c w) := by
  obtain ⟨rvs, h1, h2, -⟩ := id hT
  obtain ⟨aa, ca, rfl, hla⟩ := h2.slice
  rw [okA.len] at hT hla ⊢
  clear h1 h2 rvs
  have hof1 := fun w' => iof_any 1 w' (by decide) (by decide)
  have hofk := fun (j : Nat) (hj : j ≤ 32) w' => iof_any ((j : Int) + 1) w' (by omega) (by omega)
  have hsc := fun z w' => scalar_any n z w' (by omega)
  have hpr := fun (j : Nat) (hj : j < n) (bm : Nat) (w' : World) (hb : Below w.heap.size w w') (hM : MatB 0 w' bm n (chM A n c j)) =>
    product_any n n n P A (chM A n c j) (.slice aa n ca) (.slice (some ⟨bm, 0, none⟩) n n) w' (hT.below hb (Nat.le_refl _))
      (by have := (hM.tabB (by rw [(hch j hj).len]; omega) (by omega)).tab; rwa [(hch j hj).len] at this) okA (hch j hj) (by omega) hn0 (by omega) (by omega) (by omega)
  have hnx : ∀ j, j < n → MatOk (nxM A n c j) n n (P + P + 1) := fun j hj => mmul_ok okA (hch j hj) (by omega)
  have htr := fun (j : Nat) (hj : j < n) (bm : Nat) (w' : World) (hM : MatB 0 w' bm n (nxM A n c j)) =>
    trace_any n (P + P + 1) (nxM A n c j) (.slice (some ⟨bm, 0, none⟩) n n) w' (by have := (hM.tabB (by rw [(hnx j hj).len]; omega) (by omega)).tab; rwa [(hnx j hj).len] at this) (hnx j hj) (by omega) (by omega)
  have htz : ∀ j, j < n → sm (P + P + 2) (trM (nxM A n c j) n) := fun j hj => trM_sm (hnx j hj) n (by omega)
  have hsu := fun (j : Nat) (hj : j < n) (z : Int) (hz : sm P z) (ba bb : Nat) (w' : World) (hM : MatB 0 w' ba n (nxM A n c j)) (hD : MatB 0 w' bb n (matF n n (diagF z))) =>
    msum_any n n (P + P + 1) (nxM A n c j) (matF n n (diagF z)) (.slice (some ⟨ba, 0, none⟩) n n) (.slice (some ⟨bb, 0, none⟩) n n) w' (by have := (hM.tabB (by rw [(hnx j hj).len]; omega) (by omega)).tab; rwa [(hnx j hj).len] at this)
      (by have := (hD.tabB (by rw [matF_length]; omega) (by omega)).tab; rwa [matF_length] at this) (hnx j hj) (diag_ok n (hz.mono (by omega))) hn0 (by omega) hn0 (by omega) (by omega)
  have hneg := fun (z : Int) (w' : World) (hz : sm (P + P + 2) z) => neg_any (ineg z) (imag z) w' (Nat.le_trans hz.size (by omega))
  simp only [ival_canon] at hneg
  have hmk := mkI (n + 1) (by omega) ((n : Int) + 1) (by omega)
  have s0 := (Below.refl w.heap.size w).alloc (Nat.le_refl _) (.cells (zarr (.agg #[.bool false, .string ⟨#[]⟩]) (n + 1)) 28)
  have bp := blk_mkI w (n + 1)
  have hx1 : (0 : Int) ≤ (n : Int) := by omega
  have hx2 : (n : Int) < (n : Int) + 1 := by omega
  have hx3 : n < n + 1 := by omega
  have hp0 : (List.replicate (n + 1) (0 : Int))[n]? = some 0 := by simp
  have HOF1 := Lib.hid hof1; clear hof1
  have HOFK := Lib.hid hofk; clear hofk
  have HSC := Lib.hid hsc; clear hsc
  have HPR := Lib.hid hpr; clear hpr
  have HTR := Lib.hid htr; clear htr
  have HTZ := Lib.hid htz; clear htz
  have HNEG := Lib.hid hneg; clear hneg
  have HDIV := Lib.hid hdiv; clear hdiv
  have HSUM := Lib.hid hsu; clear hsu
  have S0 := Lib.hid s0; clear s0
  have BP := Lib.hid bp; clear bp
  have HC := Lib.hid hc; clear hc
  clear hT
  go_enter Try.func67, Try.ntmps67
  go_wp2_with fail
  go_at_call 11
  refine (HOF1.out _).mono ?_
  rintro e w1 ⟨hq, rfl⟩
  have s1 := S0.out.trans (hq.mono S0.out.size)
  have bp1 := BP.out.keep hq
  have f0 := bp1.frozen (n * 2)
  have f1 := bp1.frozen (n * 2 + 1)
  have d0 := bp1.cell (civ_get hp0).1
  have d1 := bp1.cell (civ_get hp0).2
  have bp2 := (bp1.set (n * 2) (.bool (ineg 1))).set (n * 2 + 1) (.string (imag 1))
  rw [civ_set, pL_one c n] at bp2
  have s2 := (s1.setCell (p := ⟨w.heap.size, n * 2, none⟩) (Nat.le_refl _) (.bool (ineg 1))).setCell (p := ⟨w.heap.size, n * 2 + 1, none⟩) (Nat.le_refl _) (.string (imag 1))
  have hg1 : (pL c n 1)[n]? = some 1 := by simp [pL]
  have BP2 := Lib.hid bp2; clear bp2
  have S2 := Lib.hid s2; clear s2
  clear hq bp1 s1
  have g0 := BP2.out.cell (civ_get hg1).1
  have g1 := BP2.out.cell (civ_get hg1).2
  go_wp2_with fail
  go_at_call 54
  refine (HSC.out _ _).mono ?_
  rintro e w3 ⟨hq, b3, rfl, hm3⟩
  obtain ⟨w2, hw2⟩ : ∃ w2, (w1.setCell ⟨w.heap.size, n * 2, none⟩ (.bool (ineg 1))).setCell ⟨w.heap.size, n * 2 + 1, none⟩ (.string (imag 1)) = w2 := ⟨_, rfl⟩
  rw [hw2] at hq hm3 BP2 S2
  have s3 := S2.out.trans (hq.mono S2.out.size)
  have bp3 := BP2.out.keep hq
  have hM3 := hm3.mono (Nat.zero_le _)
  have S3 := Lib.hid s3; clear s3
  have BP3 := Lib.hid bp3; clear bp3
  have HM3 := Lib.hid hM3; clear hM3
  clear hq hm3 hw2 f0 f1 d0 d1 g0 g1 hmk
  go_wp2_with fail
  go_loopw [6, 7] (fun m k wr => ∃ (j bm : Nat), j < n ∧ k = .int .i64 ((j : Int) + 1) ∧ m = .slice (some ⟨bm, 0, none⟩) n n ∧ Below w.heap.size w wr ∧ MatB 0 wr bm n (chM A n c j) ∧ Blk wr w.heap.size 28 (civ (pL c n (j + 1)))) (fun _ k _ => n + 1 - (intOf k).toNat)
  case atStart => exact ⟨0, b3, hn0, rfl, rfl, S3.out, HM3.out, BP3.out⟩
  case round =>
    obtain ⟨j, bm, hj, rfl, rfl, hbel, hM, hbp⟩ := hrel
    obtain ⟨wo, rfl⟩ : ∃ wo : World, wo = wr := ⟨_, rfl⟩
    have hpj := HPR.out j hj bm wo hbel hM
    have HPJ := Lib.hid hpj; clear hpj
    have HBEL := Lib.hid hbel; clear hbel
    have HBP := Lib.hid hbp; clear hbp
    go_wp2_with fail
    go_at_call 55
    refine HPJ.out.mono ?_
    rintro e w4 ⟨hq, b4, rfl, hm4⟩
    have s4 := HBEL.out.trans (hq.mono HBEL.out.size)
    have bp4 := HBP.out.keep hq
    have hN4 := hm4.mono (show w.heap.size + 1 ≤ wo.heap.size from HBP.out.lt)
    have S4 := Lib.hid s4; clear s4
    have BP4 := Lib.hid bp4; clear bp4
    have HN4 := Lib.hid hN4; clear hN4
    clear hq hm4
    obtain ⟨q, hqq⟩ : ∃ q : Nat, (n : Int) - ((j : Int) + 1) = (q : Int) := ⟨n - (j + 1), by omega⟩
    have hqn : q < n + 1 := by omega
    have hqe : q = n - (j + 1) := by omega
    have htj := HTR.out j hj b4 w4 (HN4.out.mono (Nat.zero_le _))
    have htzj := HTZ.out j hj
    have hdj := HDIV.out j hj
    have hofj := HOFK.out j (by omega)
    have hcj := HC.out (j + 1) (by omega)
    obtain ⟨T, hT⟩ : ∃ T, T = trM (nxM A n c j) n := ⟨_, rfl⟩
    rw [← hT] at htj htzj hdj
    have hnj := fun w' => HNEG.out T w' htzj
    obtain ⟨C, hC⟩ : ∃ C, C = c (j + 1) := ⟨_, rfl⟩
    rw [← hC] at hdj hcj
    have hpq : (pL c n (j + 1))[q]? = some ((pL c n (j + 1))[q]'(by rw [pL_length]; exact hqn)) := List.getElem?_eq_getElem _
    have hst := pL_step c (n := n) (j := j + 1) (by omega) (by omega)
    rw [← hqe, ← hC] at hst
    have hsj := HSUM.out j hj C hcj
    have hx4 : (0 : Int) ≤ (q : Int) := by omega
    have hx5 : (q : Int) < (n : Int) + 1 := by omega
    have hlast : ((j : Int) + 1 == (n : Int)) = decide (j + 1 = n) := by
      by_cases h : j + 1 = n
      · rw [← h]; simp
      · have : ¬ (j : Int) + 1 = (n : Int) := by omega
        simp [h, this]
    have HLAST := Lib.hid hlast; clear hlast
    have HST := Lib.hid hst; clear hst
    have HTJ := Lib.hid htj; clear htj
    have HNJ := Lib.hid hnj; clear hnj
    have HDJ := Lib.hid hdj; clear hdj
    have HOFJ := Lib.hid hofj; clear hofj
    have HSJ := Lib.hid hsj; clear hsj
    have HPQ := Lib.hid hpq; clear hpq
    have HCC := Lib.hid hC; clear hC
    clear hT htzj hcj hqe
    go_wp2_with fail
    go_at_call 85
    refine HTJ.out.mono ?_
    rintro e w5 ⟨hq, rfl⟩
    have s5 := S4.out.trans (hq.mono S4.out.size)
    have bp5 := BP4.out.keep hq
    have hN5 := HN4.out.keep hq
    have hM5 := Lib.hid hM
    have S5 := Lib.hid s5; clear s5
    have BP5 := Lib.hid bp5; clear bp5
    have HN5 := Lib.hid hN5; clear hN5
    clear hq
    go_wp2_with fail
    go_at_call 64
    refine (HNJ.out _).mono ?_
    rintro e w6 ⟨hq, rfl⟩
    have s6 := S5.out.trans (hq.mono S5.out.size)
    have bp6 := BP5.out.keep hq
    have hN6 := HN5.out.keep hq
    have S6 := Lib.hid s6; clear s6
    have BP6 := Lib.hid bp6; clear bp6
    have HN6 := Lib.hid hN6; clear hN6
    clear hq
    go_wp2_with fail
    go_at_call 11
    refine (HOFJ.out _).mono ?_
    rintro e w7 ⟨hq, rfl⟩
    have s7 := S6.out.trans (hq.mono S6.out.size)
    have bp7 := BP6.out.keep hq
    have hN7 := HN6.out.keep hq
    have S7 := Lib.hid s7; clear s7
    have BP7 := Lib.hid bp7; clear bp7
    have HN7 := Lib.hid hN7; clear hN7
    clear hq
    go_wp2_with fail
    go_at_call 33
    refine (HDJ.out _).mono ?_
    rintro e w8 ⟨hq, rfl⟩
    have s8 := S7.out.trans (hq.mono S7.out.size)
    have bp8 := BP7.out.keep hq
    have hN8 := HN7.out.keep hq
    have f0 := bp8.frozen (q * 2)
    have f1 := bp8.frozen (q * 2 + 1)
    have d0 := bp8.cell (civ_get HPQ.out).1
    have d1 := bp8.cell (civ_get HPQ.out).2
    have S8 := Lib.hid s8; clear s8
    have BP8 := Lib.hid bp8; clear bp8
    have HN8 := Lib.hid hN8; clear hN8
    clear hq
    have bp9 := (BP8.out.set (q * 2) (.bool (ineg C))).set (q * 2 + 1) (.string (imag C))
    rw [civ_set, HST.out] at bp9
    have s9 := (S8.out.setCell (p := ⟨w.heap.size, q * 2, none⟩) (Nat.le_refl _) (.bool (ineg C))).setCell (p := ⟨w.heap.size, q * 2 + 1, none⟩) (Nat.le_refl _) (.string (imag C))
    have hbl8 := BP8.out.lt
    have BP9 := Lib.hid bp9; clear bp9
    have S9 := Lib.hid s9; clear s9
    by_cases hend : j + 1 = n
    · have t0 : ((j : Int) + 1 == (n : Int)) = true := by rw [HLAST.out]; simp [hend]
      clear hend
      go_wp2_with fail
      go_ret2
      have hjn : j + 1 + 1 = n + 1 := by
        have h := HLAST.out
        rw [t0] at h
        have h2 := of_decide_eq_true h.symm
        omega
      have bp10 := BP9.out
      rw [hjn] at bp10
      exact ⟨S9.out, w.heap.size, bm, rfl, bp10, Nat.le_refl _⟩
    · have t0 : ((j : Int) + 1 == (n : Int)) = false := by rw [HLAST.out]; simp [hend]
      have hjn : j + 1 < n := by omega
      have hg9 : (pL c n (j + 1 + 1))[q]? = some C := by
        rw [← HST.out]
        rw [List.getElem?_set_self (by rw [pL_length]; exact hqn)]
      have hN9 : MatB 0 ((w8.setCell ⟨w.heap.size, q * 2, none⟩ (.bool (ineg C))).setCell ⟨w.heap.size, q * 2 + 1, none⟩ (.string (imag C))) b4 n (nxM A n c j) := ((HN8.out.other (Nat.lt_succ_self _) _ _).other (Nat.lt_succ_self _) _ _).mono (Nat.zero_le _)
      have HN9 := Lib.hid hN9; clear hN9
      have g0 := BP9.out.cell (civ_get hg9).1
      have g1 := BP9.out.cell (civ_get hg9).2
      clear hend
      go_wp2_with fail
      go_at_call 54
      refine (HSC.out _ _).mono ?_
      rintro e w10 ⟨hq, b10, rfl, hm10⟩
      have s10 := S9.out.trans (hq.mono S9.out.size)
      have bp10 := BP9.out.keep hq
      have hN10 := HN9.out.keep hq
      have hsj := HSJ.out b4 b10 w10 hN10 (hm10.mono (Nat.zero_le _))
      have S10 := Lib.hid s10; clear s10
      have BP10 := Lib.hid bp10; clear bp10
      have HSJ10 := Lib.hid hsj; clear hsj
      clear hq hm10 g0 g1 f0 f1 d0 d1 hN10
      go_wp2_with fail
      go_at_call 86
      refine HSJ10.out.mono ?_
      rintro e w11 ⟨hq, b11, rfl, hm11⟩
      have s11 := S10.out.trans (hq.mono S10.out.size)
      have bp11 := BP10.out.keep hq
      have hM11 := hm11.mono (Nat.zero_le _)
      have hM12 : MatB 0 w11 b11 n (chM A n c (j + 1)) := by
        rw [chM, ← HCC.out]; exact hM11
      have S11 := Lib.hid s11; clear s11
      have BP11 := Lib.hid bp11; clear bp11
      have HM12 := Lib.hid hM12; clear hM12
      clear hq hm11 hM11
      go_wp2_with fail
      go_roundw
      case rel => exact ⟨j + 1, b11, hjn, by go_num, rfl, S11.out, HM12.out, BP11.out⟩
      case measure => simp [intOf]; omega
end Go.Proofs.Ythpgeeaccmgbkaa

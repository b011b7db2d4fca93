/- grooveref04.signed, det. -/
import Derived.Test.YthpgeeaccmgbkaaGreatPart17
import Derived.Test.YthpgeeaccmgbkaaGreatRMul
import Derived.Test.YthpgeeaccmgbkaaGreatR22E
import Derived.Test.YthpgeeaccmgbkaaGreatPart14
import Derived.Test.YthpgeeaccmgbkaaGreatRTot
namespace Go.Proofs.YthpgeeaccmgbkaaGreat
open Go.RowKit

/-- A number, or its opposite for an odd one. -/
def sgI (k : Nat) (x : Int) : Int := if k % 2 = 1 then -x else x
theorem sgI_sm {p k : Nat} {x : Int} (h : sm p x) : sm p (sgI k x) := by
 unfold sgI sm at *
 split <;> omega
/-- A determinant by its first row. -/
def dlN : Nat → List (List Int) → Int
 | 0, _ => 1
 | n + 1, rows => ((List.range (n + 1)).map fun k => sgI k ((rows.headD []).getD k 0 * dlN n (woM rows k))).sum
def dlP (n : Nat) (rows : List (List Int)) (j : Nat) : Int := ((List.range j).map fun k => sgI k ((rows.headD []).getD k 0 * dlN n (woM rows k))).sum
theorem dlP_full (n : Nat) (rows : List (List Int)) : dlP n rows (n + 1) = dlN (n + 1) rows := rfl
theorem dlP_succ (n : Nat) (rows : List (List Int)) (j : Nat) : dlP n rows (j + 1) = dlP n rows j + sgI j ((rows.headD []).getD j 0 * dlN n (woM rows j)) := by simp [dlP, List.range_succ]
/-- A square matrix of n rows with numbers of at most p digits. -/
def Sq (n p : Nat) (rows : List (List Int)) : Prop := rows.length = n ∧ (∀ r ∈ rows, r.length = n) ∧ ∀ r ∈ rows, ∀ z ∈ r, sm p z
theorem Sq.wo {n p c : Nat} {rows : List (List Int)} (h : Sq (n + 1) p rows) (hc : c < n + 1) : Sq n p (woM rows c) := by
 refine ⟨by simp [woM, h.1], fun r hr => ?_, fun r hr z hz => ?_⟩
 ·
  obtain ⟨s, hs, rfl⟩ := List.mem_map.1 hr
  rw [List.length_eraseIdx, h.2.1 s (List.mem_of_mem_tail hs), if_pos hc]; rfl
 ·
  obtain ⟨s, hs, rfl⟩ := List.mem_map.1 hr
  exact h.2.2 s (List.mem_of_mem_tail hs) z (List.mem_of_mem_eraseIdx hz)
theorem Sq.head {n p j : Nat} {rows : List (List Int)} (h : Sq (n + 1) p rows) (hj : j < n + 1) : ∃ r x, rows[0]? = some r ∧ r.length = n + 1 ∧ r[j]? = some x ∧ (rows.headD []).getD j 0 = x ∧ sm p x := by
 obtain ⟨r, R, rfl⟩ : ∃ r R, rows = r :: R := by
  rcases rows with _ | ⟨r, R⟩
  ·
   have := h.1; simp at this
  ·
   exact ⟨r, R, rfl⟩
 have hl := h.2.1 r (by simp)
 have hx : r[j]? = some (r[j]'(by omega)) := List.getElem?_eq_getElem _
 exact ⟨r, r[j]'(by omega), rfl, hl, hx, by simp [List.getD, hx], h.2.2 r (by simp) _ (List.getElem_mem _)⟩
theorem dlN_sm (p : Nat) : ∀ (n : Nat) (rows : List (List Int)), Sq n p rows → n ≤ 200 → sm (n * (p + 1) + 1) (dlN n rows) ∧ ∀ m j, n = m + 1 → j ≤ n → sm (n * (p + 1) + 1) (dlP m rows j)
 | 0, _, _, _ => ⟨by unfold dlN sm; simp, fun m j h => by omega⟩
 | n + 1, rows, h, hn =>
  by
  have key : ∀ j, j ≤ n + 1 → sm ((n + 1) * (p + 1) + 1) (dlP n rows j) := fun j hj => by
   have e : (n + 1) * (p + 1) + 1 = (p + (n * (p + 1) + 1)) + 1 := by rw [Nat.add_mul]; omega
   rw [e]
   refine sm_sum' (fun z hz => ?_) (by simp; omega)
   obtain ⟨k, hk, rfl⟩ := List.mem_map.1 hz
   have hk' : k < n + 1 := by have := List.mem_range.1 hk; omega
   obtain ⟨r, x, -, -, -, hx, hs⟩ := h.head hk'
   rw [hx]
   exact sgI_sm (hs.mul (dlN_sm p n _ (h.wo hk') (by omega)).1)
  exact ⟨key (n + 1) (Nat.le_refl _), fun m j hm hj => by rw [show m = n by omega]; exact key j hj⟩
theorem eqI_dc2 (x y : Int) : (ineg x == ineg y && imag x == imag y) = decide (x = y) := by
 have hb : ∀ a b : ByteArray, (a == b) = decide (a = b) := fun a b => by
  rw [beq_toListBytes]
  by_cases h : a = b
  ·
   subst h; simp
  ·
   have h2 : ¬ a.toList = b.toList := fun e => h (str_ext (by rw [← ByteArray.toList_eq, ← ByteArray.toList_eq]; exact e))
   simp [h, h2]
 rw [hb]
 by_cases h : x = y
 ·
  subst h; simp
 ·
  rw [decide_eq_false h]
  by_cases h1 : ineg x = ineg y
  ·
   by_cases h2 : imag x = imag y
   ·
    exact absurd ((ival_canon x).symm.trans (by rw [h1, h2, ival_canon])) h
   ·
    simp [h2]
  ·
   simp [h1]
theorem neq_int2 (x y : Int) (w : World) : (binOp .neq 28 (.agg #[.bool (ineg x), .string (imag x)]) (.agg #[.bool (ineg y), .string (imag y)])).run Tryz.prog w = .ok (.bool (!decide (x = y))) w := by
 rw [run_neq_struct, eqIn_int, eqI_dc2]; rfl
theorem neqZ (x : Int) (w : World) : (binOp .neq 28 (.agg #[.bool (ineg x), .string (imag x)]) (.agg #[.bool false, .string ⟨#[]⟩])).run Tryz.prog w = .ok (.bool (!decide (x = 0))) w := by
 have h := neq_int2 x 0 w
 rwa [ineg_zero, imag_zero] at h
set_option maxRecDepth 100000 in
set_option maxHeartbeats 3200000 in
theorem signed_any (k : Nat) (x : Int) (w : World) (hk : k ≤ 1000) (hx : (imag x).size ≤ 1099511627775) :
  Calls Tryz.prog 95 #[.int .i64 (k : Int), .agg #[.bool (ineg x), .string (imag x)]] w (Ret w (IntV (sgI k x))) := by
 have hng := fun w' => rneg_any x w' hx
 have b0 := (Blk.new w 28 [.bool (ineg x), .string (imag x)]).alloc (.cells #[.bool false, .string ⟨#[]⟩] 28)
 have b1 := Blk.new (w.alloc (.cells #[.bool (ineg x), .string (imag x)] 28)) 28 [.bool false, .string ⟨#[]⟩]
 have s0 := ((Below.refl w.heap.size w).alloc (Nat.le_refl _) (.cells #[.bool (ineg x), .string (imag x)] 28)).alloc (by simp) (.cells #[.bool false, .string ⟨#[]⟩] 28)
 simp only [World.size_alloc] at b1
 have x0 := b0.cell (j := 0) rfl
 have x1 := b0.cell (j := 1) rfl
 obtain ⟨z, hz⟩ : ∃ z, z = k % 2 := ⟨_, rfl⟩
 have htm : Int.tmod (k : Int) 2 = (z : Int) := by rw [Int.tmod_eq_emod_of_nonneg (by omega), hz]; omega
 by_cases h1 : z = 1
 ·
  have e1 : ((z : Int) == 1) = true := by simp [h1]
  have e2 : sgI k x = -x := by unfold sgI; rw [if_pos (by omega)]
  obtain ⟨y, hy⟩ : ∃ y, y = -x := ⟨_, rfl⟩
  rw [e2, ← hy]
  rw [← hy] at hng
  have HNG := Lib.hid hng; clear hng
  have B1 := Lib.hid b1; clear b1
  have S0 := Lib.hid s0; clear s0
  clear hz hy e2 b0
  go_enter Tryz.func95, Tryz.ntmps95
  go_wp2_with fail
  go_at_call 87
  refine (HNG.out _).mono ?_
  rintro e w2 ⟨hq, rfl⟩
  have k1 := B1.out.keep hq
  have z0 := k1.cell (j := 0) rfl
  have z1 := k1.cell (j := 1) rfl
  have f0 := k1.frozen 0
  have f1 := k1.frozen 1
  have r2 := (k1.set 0 (.bool (ineg y))).set 1 (.string (imag y))
  have e0 := r2.cell (j := 0) rfl
  have e1' := r2.cell (j := 1) rfl
  have s2 := S0.out.trans (hq.mono S0.out.size)
  have S2 := Lib.hid s2; clear s2
  clear k1 hq x0 x1 r2
  go_wp2_with fail
  refine bodyPost_ret (v := IntV y) (by simp [results, Tryz.results95, go_sem, e0, e1', IntV]) rfl ⟨(S2.out.setCell (p := ⟨w.heap.size + 1, 0, none⟩) (Nat.le_succ _) _).setCell (p := ⟨w.heap.size + 1, 1, none⟩) (Nat.le_succ _) _, rfl⟩
 ·
  have e1 : ((z : Int) == 1) = false := by simp; omega
  have e2 : sgI k x = x := by unfold sgI; rw [if_neg (by omega)]
  rw [e2]
  have z0 := b1.cell (j := 0) rfl
  have z1 := b1.cell (j := 1) rfl
  have f0 := b1.frozen 0
  have f1 := b1.frozen 1
  obtain ⟨w1, hw1⟩ : ∃ w1, (w.alloc (.cells #[.bool (ineg x), .string (imag x)] 28)).alloc (.cells #[.bool false, .string ⟨#[]⟩] 28) = w1 := ⟨_, rfl⟩
  rw [hw1] at b1 x0 x1 s0 z0 z1 f0 f1
  have r2 := (b1.set 0 (.bool (ineg x))).set 1 (.string (imag x))
  have e0 := r2.cell (j := 0) rfl
  have e1' := r2.cell (j := 1) rfl
  have S0 := Lib.hid s0; clear s0
  clear hz e2 b0 b1 r2 hng
  go_enter Tryz.func95, Tryz.ntmps95
  go_wp2_with fail
  refine bodyPost_ret (v := IntV x) (by simp [results, Tryz.results95, go_sem, e0, e1', IntV]) rfl ⟨(S0.out.setCell (p := ⟨w.heap.size + 1, 0, none⟩) (Nat.le_succ _) _).setCell (p := ⟨w.heap.size + 1, 1, none⟩) (Nat.le_succ _) _, rfl⟩
set_option maxRecDepth 100000 in
set_option maxHeartbeats 3200000 in
theorem det_zero (v : Value) (w : World) (hT : Tab w v []) : Calls Tryz.prog 118 #[v] w (Ret w (IntV 1)) := by
 obtain ⟨rvs0, hr1, hr2, hr3⟩ := hT
 obtain ⟨va, vc, rfl, hle⟩ := hr2.slice
 have hof := fun w' => rof_any 1 w' (by decide) (by decide)
 have b1 := Blk.new w 28 [.bool false, .string ⟨#[]⟩]
 have s0 := (Below.refl w.heap.size w).alloc (Nat.le_refl _) (.cells #[.bool false, .string ⟨#[]⟩] 28)
 obtain ⟨y, hy⟩ : ∃ y : Int, y = 1 := ⟨_, rfl⟩
 have hof2 : ∀ w', Calls Tryz.prog 49 #[.int .i64 1] w' (Ret w' (IntV y)) := fun w' => by rw [hy]; exact hof w'
 rw [← hy]
 simp only [List.length_nil]
 have HOF := Lib.hid hof2; clear hof2
 have B1 := Lib.hid b1; clear b1
 have S0 := Lib.hid s0; clear s0
 clear hr1 hr2 hr3 hof hy
 go_enter Tryz.func118, Tryz.ntmps118
 go_wp2_with fail
 go_at_call 49
 refine (HOF.out _).mono ?_
 rintro e w2 ⟨hq, rfl⟩
 have k1 := B1.out.keep hq
 have z0 := k1.cell (j := 0) rfl
 have z1 := k1.cell (j := 1) rfl
 have f0 := k1.frozen 0
 have f1 := k1.frozen 1
 have r2 := (k1.set 0 (.bool (ineg y))).set 1 (.string (imag y))
 have e0 := r2.cell (j := 0) rfl
 have e1' := r2.cell (j := 1) rfl
 have s2 := S0.out.trans (hq.mono S0.out.size)
 have S2 := Lib.hid s2; clear s2
 clear k1 hq r2
 go_wp2_with fail
 refine bodyPost_ret (v := IntV y) (by simp [results, Tryz.results118, go_sem, e0, e1', IntV]) rfl ⟨(S2.out.setCell (p := ⟨w.heap.size, 0, none⟩) (Nat.le_refl _) _).setCell (p := ⟨w.heap.size, 1, none⟩) (Nat.le_refl _) _, rfl⟩
set_option maxRecDepth 100000 in
set_option maxHeartbeats 3200000 in
theorem det_step (n p : Nat) (rows : List (List Int)) (v : Value) (w : World) (hT : Tab w v rows) (hS : Sq (n + 1) p rows) (hn : n ≤ 100) (hp : p ≤ 1000)
  (IH : ∀ (rows' : List (List Int)) (v' : Value) (w' : World), Sq n p rows' → Tab w' v' rows' → Calls Tryz.prog 118 #[v'] w' (Ret w' (IntV (dlN n rows')))) :
  Calls Tryz.prog 118 #[v] w (Ret w (IntV (dlN (n + 1) rows))) := by
 have hT0 := hT
 obtain ⟨rvs0, hr1, hr2, hr3⟩ := hT
 rw [hS.1] at hr1 hr2
 obtain ⟨va, vc, rfl, hle⟩ := hr2.slice
 have hwo := fun (j : Nat) w' (hj : j < n + 1) (h : Tab w' (.slice va (n + 1) vc) rows) => without_any (n + 1) j rows (.slice va (n + 1) vc) w' h hS.1 (by omega) (by omega) hj hS.2.1
 have hsq := fun (j : Nat) (hj : j < n + 1) => hS.wo hj
 have hhd := fun (j : Nat) (hj : j < n + 1) => hS.head hj
 have hB := dlN_sm p (n + 1) rows hS (by omega)
 have hBP := fun j (hj : j ≤ n + 1) => hB.2 n j rfl hj
 have hBD := fun (j : Nat) (hj : j < n + 1) => (dlN_sm p n (woM rows j) (hS.wo hj) (by omega)).1
 have hpq : (n + 1) * (p + 1) ≤ 200000 := Nat.le_trans (Nat.mul_le_mul (show n + 1 ≤ 101 by omega) (show p + 1 ≤ 1001 by omega)) (by decide)
 have hpq2 : n * (p + 1) ≤ 200000 := Nat.le_trans (Nat.mul_le_mul (show n ≤ 100 by omega) (show p + 1 ≤ 1001 by omega)) (by decide)
 have hsuc := dlP_succ n rows
 have hfull := dlP_full n rows
 obtain ⟨DP, hDP⟩ : ∃ DP, DP = dlP n rows := ⟨_, rfl⟩
 rw [← hDP] at hBP hsuc hfull
 have hDP0 : DP 0 = 0 := by rw [hDP]; rfl
 rw [← hfull]
 obtain ⟨m, hm⟩ : ∃ m, m = n + 1 := ⟨_, rfl⟩
 rw [← hm] at hr1 hr2 hle hwo hsq hhd hBP hBD hpq hT0 ⊢
 have hm1 : 1 ≤ m := by omega
 have hm2 : m ≤ 101 := by omega
 have em : ((m : Int) == 0) = false := by simp; omega
 have b0 := Blk.new w 28 [.bool false, .string ⟨#[]⟩]
 have s0 := (Below.refl w.heap.size w).alloc (Nat.le_refl _) (.cells #[.bool false, .string ⟨#[]⟩] 28)
 obtain ⟨w1, hw1⟩ : ∃ w1, w.alloc (.cells #[.bool false, .string ⟨#[]⟩] 28) = w1 := ⟨_, rfl⟩
 rw [hw1] at b0 s0
 have hz1 := b0.lt
 have bA := Blk.new w1 28 [.bool false, .string ⟨#[]⟩]
 have s2 := (Below.refl w1.heap.size w1).alloc (Nat.le_refl _) (.cells #[.bool false, .string ⟨#[]⟩] 28)
 obtain ⟨W0, hW0⟩ : ∃ W0, w1.alloc (.cells #[.bool false, .string ⟨#[]⟩] 28) = W0 := ⟨_, rfl⟩
 rw [hW0] at bA s2
 have y0 := bA.cell (j := 0) rfl
 have y1 := bA.cell (j := 1) rfl
 have y2 := bA.frozen 0
 have y3 := bA.frozen 1
 have bA2 := (bA.set 0 (.bool false)).set 1 (.string ⟨#[]⟩)
 have s3 := (s2.setCell (p := ⟨w1.heap.size, 0, none⟩) (Nat.le_refl _) (.bool false)).setCell (p := ⟨w1.heap.size, 1, none⟩) (Nat.le_refl _) (.string ⟨#[]⟩)
 have hT1 := hT0.below s0 (Nat.le_refl _)
 have hr2' := hr2.below s0 (Nat.le_refl _)
 have hr3' : ∀ (i : Nat) (r : List Int), rows[i]? = some r → ∃ rv : Value, rvs0[i]? = some rv ∧ Row w1 rv r.length (civ r) := fun i r hr => by
  obtain ⟨rv, h1, h2⟩ := hr3 i r hr
  exact ⟨rv, h1, h2.below s0 (Nat.le_refl _)⟩
 have HT := Lib.hid hT1; clear hT1
 have HR2 := Lib.hid hr2'; clear hr2'
 have HR3 := Lib.hid hr3'; clear hr3'
 have HWO := Lib.hid hwo; clear hwo
 have HSQ := Lib.hid hsq; clear hsq
 have HHD := Lib.hid hhd; clear hhd
 have HBP := Lib.hid hBP; clear hBP
 have HBD := Lib.hid hBD; clear hBD
 have HSUC := Lib.hid hsuc; clear hsuc
 have HDP0 := Lib.hid hDP0; clear hDP0
 have IHH := Lib.hid IH; clear IH
 have B0 := Lib.hid b0; clear b0
 have BA := Lib.hid bA2; clear bA2
 have S0 := Lib.hid s0; clear s0
 have S3 := Lib.hid s3; clear s3
 clear hr2 hr3 hr1 hB hDP hfull hT0 bA s2 hS
 go_enter Tryz.func118, Tryz.ntmps118
 clear hm
 go_wp2_with fail
 clear hw1 hW0 y0 y1 y2 y3
 go_loopw [4] (fun i wr => ∃ j : Nat, j ≤ m ∧ i = .int .i64 (j : Int) ∧ Below w1.heap.size w1 wr ∧ Blk wr w1.heap.size 28 [.bool (ineg (DP j)), .string (imag (DP j))]) (fun i _ => m - (intOf i).toNat)
 case atStart => exact ⟨0, Nat.zero_le _, rfl, S3.out, by rw [HDP0.out, ineg_zero, imag_zero]; exact BA.out⟩
 case round =>
  obtain ⟨j, hj, rfl, hbel, hblk⟩ := hrel
  obtain ⟨wo, rfl⟩ : ∃ wo : World, wo = wr := ⟨_, rfl⟩
  have hszo := hbel.size
  have hbl := hblk.lt
  by_cases hjm : j < m
  ·
   have tj : decide ((j : Int) < (m : Int)) = true := by simp; omega
   obtain ⟨r, x, hr0, hrl, hrx, hxe, hxs⟩ := HHD.out j hjm
   have hst := HSUC.out j
   rw [hxe] at hst
   obtain ⟨rv, hrv, hrow⟩ := HR3.out 0 r hr0
   rw [hrl] at hrow
   obtain ⟨ra, rc, rfl, hrle⟩ := hrow.slice
   obtain ⟨bv, ov, rfl, hbv, hcv⟩ := HR2.out.at_ (by omega)
   have hhd := (hbel.cell (p := ⟨bv, ov + 0, none⟩) hbv).trans (hcv 0 _ hrv)
   simp only [Nat.add_zero] at hhd
   obtain ⟨br, orr, rfl, hbr, hcr⟩ := hrow.at_ (by omega)
   obtain ⟨q0, q1⟩ := int_cells hcr hbel hbr hrx
   have hneq := neqZ x
   have hix1 : (0 : Int) ≤ (j : Int) := by omega
   have hix2 : (j : Int) < (m : Int) := by omega
   have hix3 : (0 : Int) < (m : Int) := by omega
   have hix4 : 0 < m := by omega
   by_cases hx0 : x = 0
   ·
    have ex : decide (x = 0) = true := by simpa using hx0
    have hst2 : DP (j + 1) = DP j := by rw [hst, hx0, Int.zero_mul]; simp [sgI]
    have hl0 : (imag x).toList = [] := by rw [hx0, Lib.toList_data]; exact imag_empty.2 rfl
    have hi0 : ineg x = false := by rw [hx0]; rfl
    have hlb : ((imag x).toList == []) = true := by rw [hl0]; rfl
    clear hx0
    have HST := Lib.hid hst2; clear hst2
    have HBEL := Lib.hid hbel; clear hbel
    have HBLK := Lib.hid hblk; clear hblk
    clear hst hrow hcr hcv hrx hxe hxs hr0 hrv
    go_wp2_with fail
    go_roundw
    case rel => exact ⟨j + 1, by omega, by go_num, HBEL.out, by rw [HST.out]; exact HBLK.out⟩
    case measure => simp [intOf]; omega
   ·
    have ex : decide (x = 0) = false := by simpa using hx0
    have hl0 : ¬ (imag x).toList = [] := by
     rw [Lib.toList_data]
     exact fun e => hx0 (imag_empty.1 e)
    have hlb : ((imag x).toList == []) = false := beq_eq_false_iff_ne.2 hl0
    have hD := HBD.out j hjm
    obtain ⟨D, hDe⟩ : ∃ D, D = dlN n (woM rows j) := ⟨_, rfl⟩
    have hdet := fun v' w' h => IHH.out (woM rows j) v' w' (HSQ.out j hjm) h
    rw [← hDe] at hst hD
    simp only [← hDe] at hdet
    have hMs := HBP.out j hj
    have hmul := fun w' => rmul_any x D w' (Nat.le_trans hxs.size (by omega)) (Nat.le_trans hD.size (by omega))
    have hYs := hxs.mul hD
    obtain ⟨Y, hY⟩ : ∃ Y, Y = x * D := ⟨_, rfl⟩
    rw [← hY] at hst hmul hYs
    have hsg := fun w' => signed_any j Y w' (by omega) (Nat.le_trans hYs.size (by omega))
    have hZs : sm (p + (n * (p + 1) + 1)) (sgI j Y) := sgI_sm hYs
    obtain ⟨Z, hZ⟩ : ∃ Z, Z = sgI j Y := ⟨_, rfl⟩
    rw [← hZ] at hst hsg hZs
    obtain ⟨M, hM⟩ : ∃ M, M = DP j := ⟨_, rfl⟩
    rw [← hM] at hst hMs hblk
    have hadd := fun w' => radd_any M Z w' (Nat.le_trans hMs.size (by omega)) (Nat.le_trans hZs.size (by omega))
    have hst2 := hst.symm
    have hwoj := fun w' => HWO.out j w' hjm
    have hTo := HT.out.below hbel (Nat.le_refl _)
    have sw := (Below.refl wo.heap.size wo).drew
    have cN0 := hblk.cell (j := 0) rfl
    have cN1 := hblk.cell (j := 1) rfl
    have fr0 := hblk.frozen 0
    have fr1 := hblk.frozen 1
    have nb := hblk.drew
    have hne1 : ¬ w1.heap.size = bv := by omega
    have hne2 : ¬ w1.heap.size = br := by omega
    have HST := Lib.hid hst2; clear hst2
    have HBEL := Lib.hid hbel; clear hbel
    have HTO := Lib.hid hTo; clear hTo
    have HWJ := Lib.hid hwoj; clear hwoj
    have HDET := Lib.hid hdet; clear hdet
    have HMUL := Lib.hid hmul; clear hmul
    have HSG := Lib.hid hsg; clear hsg
    have HADD := Lib.hid hadd; clear hadd
    clear hst hrow hcr hcv hrx hxe hxs hr0 hrv hDe hY hYs hZ hZs hM hMs hD hblk
    go_wp2_with fail
    refine wp_region_held_drew (S := fun w' => w'.cell? ⟨bv, ov, none⟩ = some (.slice (some ⟨br, orr, none⟩) m rc) ∧ w'.cell? ⟨br, orr + j * 2, none⟩ = some (.bool (ineg x)) ∧ w'.cell? ⟨br, orr + j * 2 + 1, none⟩ = some (.string (imag x))) (by kernel_rfl) ?_ (fun hHeld => ?_)
    ·
     go_keep
    refine zT 1 (h := ?_)
    (try simp only [Act.put, zA, zB, zC])
    refine zT 2 (h := ?_)
    (try simp only [Act.put, zA, zB, zC])
    refine zT 3 (h := ?_)
    (try simp only [Act.put, zA, zB, zC])
    refine zT 4 (h := ?_)
    (try simp only [Act.put, zA, zB, zC])
    refine zT 5 (h := ?_)
    (try simp only [Act.put, zA, zB, zC])
    refine zT 6 (h := ?_)
    (try simp only [Act.put, zA, zB, zC])
    refine zT 7 (h := ?_)
    (try simp only [Act.put, zA, zB, zC])
    refine zT 8 (h := ?_)
    (try simp only [Act.put, zA, zB, zC])
    refine zT 9 (h := ?_)
    (try simp only [Act.put, zA, zB, zC])
    refine wpAnyH_ready (rs := [0, 10]) (by kernel_rfl) (by simp) ?_
    refine AllReadyH.cons rfl (fun K hK => ?_) (AllReadyH.cons rfl (fun K hK => ?_) (AllReadyH.nil))
    ·
     go_simp
     refine hK.out _ _ ?_ (fun hH1 => ?_)
     ·
      ((try dsimp only); go_keep)
     clear hK K
     (try simp only [Act.put, zA, zB, zC])
     refine zR 10 (h := fun K hK => ?_)
     go_simp
     go_at_call 135
     refine (HWJ.out _ HTO.out.drew).mono ?_
     rintro e' wa2 ⟨hq, vw, rfl, hvw⟩
     dsimp only
     have z0 := (hq.cell (p := ⟨bv, ov, none⟩) (show bv < wo.heap.size by omega)).trans hH1.1
     have z1 := (hq.cell (p := ⟨br, orr + j * 2, none⟩) (show br < wo.heap.size by omega)).trans hH1.2.1
     have z2 := (hq.cell (p := ⟨br, orr + j * 2 + 1, none⟩) (show br < wo.heap.size by omega)).trans hH1.2.2
     refine hK.out _ _ ⟨z0, z1, z2⟩ (fun hH3 => ?_)
     clear hK K z0  z1  z2
     (try simp only [Act.put, zA, zB, zC])
     have sa4 : Below wo.heap.size wo wa2 := sw.trans (hq.mono sw.size)
     have na5 := Blk.keep (w := wo.drew) nb hq
     clear hq
     have hlwa2 : wo.heap.size ≤ wa2.heap.size := sa4.size
     clear cN0 cN1
     have cN0 := na5.cell (j := 0) rfl
     have cN1 := na5.cell (j := 1) rfl
     have fr0 := na5.frozen 0
     have fr1 := na5.frozen 1
     refine zR 11 (h := fun K hK => ?_)
     go_simp
     go_at_call 118
     refine (HDET.out _ _ hvw).mono ?_
     rintro e' wa6 ⟨hq, rfl⟩
     dsimp only
     have z0 := (hq.cell (p := ⟨bv, ov, none⟩) (show bv < wa2.heap.size by omega)).trans hH3.1
     have z1 := (hq.cell (p := ⟨br, orr + j * 2, none⟩) (show br < wa2.heap.size by omega)).trans hH3.2.1
     have z2 := (hq.cell (p := ⟨br, orr + j * 2 + 1, none⟩) (show br < wa2.heap.size by omega)).trans hH3.2.2
     refine hK.out _ _ ⟨z0, z1, z2⟩ (fun hH7 => ?_)
     clear hK K z0  z1  z2
     (try simp only [Act.put, zA, zB, zC])
     have sa8 : Below wo.heap.size wo wa6 := sa4.trans (hq.mono sa4.size)
     have na9 := Blk.keep (w := wa2) na5 hq
     clear hq
     have hlwa6 : wo.heap.size ≤ wa6.heap.size := sa8.size
     clear cN0 cN1
     have cN0 := na9.cell (j := 0) rfl
     have cN1 := na9.cell (j := 1) rfl
     have fr0 := na9.frozen 0
     have fr1 := na9.frozen 1
     refine zR 12 (h := fun K hK => ?_)
     go_simp
     go_at_call 48
     refine (HMUL.out _).mono ?_
     rintro e' wa10 ⟨hq, rfl⟩
     dsimp only
     have z0 := (hq.cell (p := ⟨bv, ov, none⟩) (show bv < wa6.heap.size by omega)).trans hH7.1
     have z1 := (hq.cell (p := ⟨br, orr + j * 2, none⟩) (show br < wa6.heap.size by omega)).trans hH7.2.1
     have z2 := (hq.cell (p := ⟨br, orr + j * 2 + 1, none⟩) (show br < wa6.heap.size by omega)).trans hH7.2.2
     refine hK.out _ _ ⟨z0, z1, z2⟩ (fun hH11 => ?_)
     clear hK K z0  z1  z2
     (try simp only [Act.put, zA, zB, zC])
     have sa12 : Below wo.heap.size wo wa10 := sa8.trans (hq.mono sa8.size)
     have na13 := Blk.keep (w := wa6) na9 hq
     clear hq
     have hlwa10 : wo.heap.size ≤ wa10.heap.size := sa12.size
     clear cN0 cN1
     have cN0 := na13.cell (j := 0) rfl
     have cN1 := na13.cell (j := 1) rfl
     have fr0 := na13.frozen 0
     have fr1 := na13.frozen 1
     refine zR 13 (h := fun K hK => ?_)
     go_simp
     go_at_call 95
     refine (HSG.out _).mono ?_
     rintro e' wa14 ⟨hq, rfl⟩
     dsimp only
     have z0 := (hq.cell (p := ⟨bv, ov, none⟩) (show bv < wa10.heap.size by omega)).trans hH11.1
     have z1 := (hq.cell (p := ⟨br, orr + j * 2, none⟩) (show br < wa10.heap.size by omega)).trans hH11.2.1
     have z2 := (hq.cell (p := ⟨br, orr + j * 2 + 1, none⟩) (show br < wa10.heap.size by omega)).trans hH11.2.2
     refine hK.out _ _ ⟨z0, z1, z2⟩ (fun hH15 => ?_)
     clear hK K z0  z1  z2
     (try simp only [Act.put, zA, zB, zC])
     have sa16 : Below wo.heap.size wo wa14 := sa12.trans (hq.mono sa12.size)
     have na17 := Blk.keep (w := wa10) na13 hq
     clear hq
     have hlwa14 : wo.heap.size ≤ wa14.heap.size := sa16.size
     clear cN0 cN1
     have cN0 := na17.cell (j := 0) rfl
     have cN1 := na17.cell (j := 1) rfl
     have fr0 := na17.frozen 0
     have fr1 := na17.frozen 1
     refine zR 14 (h := fun K hK => ?_)
     go_simp
     go_at_call 40
     refine (HADD.out _).mono ?_
     rintro e' wa18 ⟨hq, rfl⟩
     dsimp only
     have z0 := (hq.cell (p := ⟨bv, ov, none⟩) (show bv < wa14.heap.size by omega)).trans hH15.1
     have z1 := (hq.cell (p := ⟨br, orr + j * 2, none⟩) (show br < wa14.heap.size by omega)).trans hH15.2.1
     have z2 := (hq.cell (p := ⟨br, orr + j * 2 + 1, none⟩) (show br < wa14.heap.size by omega)).trans hH15.2.2
     refine hK.out _ _ ⟨z0, z1, z2⟩ (fun hH19 => ?_)
     clear hK K z0  z1  z2
     (try simp only [Act.put, zA, zB, zC])
     have sa20 : Below wo.heap.size wo wa18 := sa16.trans (hq.mono sa16.size)
     have na21 := Blk.keep (w := wa14) na17 hq
     clear hq
     have hlwa18 : wo.heap.size ≤ wa18.heap.size := sa20.size
     clear cN0 cN1
     have cN0 := na21.cell (j := 0) rfl
     have cN1 := na21.cell (j := 1) rfl
     have fr0 := na21.frozen 0
     have fr1 := na21.frozen 1
     refine zR 15 (h := fun K hK => ?_)
     go_simp
     refine hK.out _ _ ?_ (fun hH22 => ?_)
     ·
      ((try dsimp only); go_keep)
     clear hK K
     (try simp only [Act.put, zA, zB, zC])
     have hfin := HBEL.out.trans (sa20.mono HBEL.out.size)
     have nfin := (na21.set 0 (.bool (ineg (M + Z)))).set 1 (.string (imag (M + Z)))
     have HFIN := Lib.hid hfin; clear hfin
     have NFIN := Lib.hid nfin; clear nfin
     refine wpAnyH_done (by kernel_rfl) ?_ _
     (try simp only [List.getElem_toArray, List.getElem_cons_zero, List.getElem_cons_succ, Act.put, zA, zB, zC])
     go_wp2_with fail
     go_roundw
     case rel => exact ⟨j + 1, by omega, by go_num, (HFIN.out.setCell (p := ⟨w1.heap.size, 0, none⟩) (Nat.le_refl _) _).setCell (p := ⟨w1.heap.size, 1, none⟩) (Nat.le_refl _) _, by rw [← HST.out]; exact NFIN.out⟩
     case measure => simp [intOf]; omega
    ·
     go_simp
     go_at_call 135
     refine (HWJ.out _ HTO.out.drew).mono ?_
     rintro e' wa23 ⟨hq, vw, rfl, hvw⟩
     dsimp only
     have z0 := (hq.cell (p := ⟨bv, ov, none⟩) (show bv < wo.heap.size by omega)).trans hHeld.1
     have z1 := (hq.cell (p := ⟨br, orr + j * 2, none⟩) (show br < wo.heap.size by omega)).trans hHeld.2.1
     have z2 := (hq.cell (p := ⟨br, orr + j * 2 + 1, none⟩) (show br < wo.heap.size by omega)).trans hHeld.2.2
     refine hK.out _ _ ⟨z0, z1, z2⟩ (fun hH24 => ?_)
     clear hK K z0  z1  z2
     (try simp only [Act.put, zA, zB, zC])
     have sa25 : Below wo.heap.size wo wa23 := sw.trans (hq.mono sw.size)
     have na26 := Blk.keep (w := wo.drew) nb hq
     clear hq
     have hlwa23 : wo.heap.size ≤ wa23.heap.size := sa25.size
     clear cN0 cN1
     have cN0 := na26.cell (j := 0) rfl
     have cN1 := na26.cell (j := 1) rfl
     have fr0 := na26.frozen 0
     have fr1 := na26.frozen 1
     refine wpAnyH_ready (rs := [0, 11]) (by kernel_rfl) (by simp) ?_
     refine AllReadyH.cons rfl (fun K hK => ?_) (AllReadyH.cons rfl (fun K hK => ?_) (AllReadyH.nil))
     ·
      go_simp
      refine hK.out _ _ ?_ (fun hH27 => ?_)
      ·
       ((try dsimp only); go_keep)
      clear hK K
      (try simp only [Act.put, zA, zB, zC])
      refine zR 11 (h := fun K hK => ?_)
      go_simp
      go_at_call 118
      refine (HDET.out _ _ hvw).mono ?_
      rintro e' wa28 ⟨hq, rfl⟩
      dsimp only
      have z0 := (hq.cell (p := ⟨bv, ov, none⟩) (show bv < wa23.heap.size by omega)).trans hH27.1
      have z1 := (hq.cell (p := ⟨br, orr + j * 2, none⟩) (show br < wa23.heap.size by omega)).trans hH27.2.1
      have z2 := (hq.cell (p := ⟨br, orr + j * 2 + 1, none⟩) (show br < wa23.heap.size by omega)).trans hH27.2.2
      refine hK.out _ _ ⟨z0, z1, z2⟩ (fun hH29 => ?_)
      clear hK K z0  z1  z2
      (try simp only [Act.put, zA, zB, zC])
      have sa30 : Below wo.heap.size wo wa28 := sa25.trans (hq.mono sa25.size)
      have na31 := Blk.keep (w := wa23) na26 hq
      clear hq
      have hlwa28 : wo.heap.size ≤ wa28.heap.size := sa30.size
      clear cN0 cN1
      have cN0 := na31.cell (j := 0) rfl
      have cN1 := na31.cell (j := 1) rfl
      have fr0 := na31.frozen 0
      have fr1 := na31.frozen 1
      refine zR 12 (h := fun K hK => ?_)
      go_simp
      go_at_call 48
      refine (HMUL.out _).mono ?_
      rintro e' wa32 ⟨hq, rfl⟩
      dsimp only
      have z0 := (hq.cell (p := ⟨bv, ov, none⟩) (show bv < wa28.heap.size by omega)).trans hH29.1
      have z1 := (hq.cell (p := ⟨br, orr + j * 2, none⟩) (show br < wa28.heap.size by omega)).trans hH29.2.1
      have z2 := (hq.cell (p := ⟨br, orr + j * 2 + 1, none⟩) (show br < wa28.heap.size by omega)).trans hH29.2.2
      refine hK.out _ _ ⟨z0, z1, z2⟩ (fun hH33 => ?_)
      clear hK K z0  z1  z2
      (try simp only [Act.put, zA, zB, zC])
      have sa34 : Below wo.heap.size wo wa32 := sa30.trans (hq.mono sa30.size)
      have na35 := Blk.keep (w := wa28) na31 hq
      clear hq
      have hlwa32 : wo.heap.size ≤ wa32.heap.size := sa34.size
      clear cN0 cN1
      have cN0 := na35.cell (j := 0) rfl
      have cN1 := na35.cell (j := 1) rfl
      have fr0 := na35.frozen 0
      have fr1 := na35.frozen 1
      refine zR 13 (h := fun K hK => ?_)
      go_simp
      go_at_call 95
      refine (HSG.out _).mono ?_
      rintro e' wa36 ⟨hq, rfl⟩
      dsimp only
      have z0 := (hq.cell (p := ⟨bv, ov, none⟩) (show bv < wa32.heap.size by omega)).trans hH33.1
      have z1 := (hq.cell (p := ⟨br, orr + j * 2, none⟩) (show br < wa32.heap.size by omega)).trans hH33.2.1
      have z2 := (hq.cell (p := ⟨br, orr + j * 2 + 1, none⟩) (show br < wa32.heap.size by omega)).trans hH33.2.2
      refine hK.out _ _ ⟨z0, z1, z2⟩ (fun hH37 => ?_)
      clear hK K z0  z1  z2
      (try simp only [Act.put, zA, zB, zC])
      have sa38 : Below wo.heap.size wo wa36 := sa34.trans (hq.mono sa34.size)
      have na39 := Blk.keep (w := wa32) na35 hq
      clear hq
      have hlwa36 : wo.heap.size ≤ wa36.heap.size := sa38.size
      clear cN0 cN1
      have cN0 := na39.cell (j := 0) rfl
      have cN1 := na39.cell (j := 1) rfl
      have fr0 := na39.frozen 0
      have fr1 := na39.frozen 1
      refine zR 14 (h := fun K hK => ?_)
      go_simp
      go_at_call 40
      refine (HADD.out _).mono ?_
      rintro e' wa40 ⟨hq, rfl⟩
      dsimp only
      have z0 := (hq.cell (p := ⟨bv, ov, none⟩) (show bv < wa36.heap.size by omega)).trans hH37.1
      have z1 := (hq.cell (p := ⟨br, orr + j * 2, none⟩) (show br < wa36.heap.size by omega)).trans hH37.2.1
      have z2 := (hq.cell (p := ⟨br, orr + j * 2 + 1, none⟩) (show br < wa36.heap.size by omega)).trans hH37.2.2
      refine hK.out _ _ ⟨z0, z1, z2⟩ (fun hH41 => ?_)
      clear hK K z0  z1  z2
      (try simp only [Act.put, zA, zB, zC])
      have sa42 : Below wo.heap.size wo wa40 := sa38.trans (hq.mono sa38.size)
      have na43 := Blk.keep (w := wa36) na39 hq
      clear hq
      have hlwa40 : wo.heap.size ≤ wa40.heap.size := sa42.size
      clear cN0 cN1
      have cN0 := na43.cell (j := 0) rfl
      have cN1 := na43.cell (j := 1) rfl
      have fr0 := na43.frozen 0
      have fr1 := na43.frozen 1
      refine zR 15 (h := fun K hK => ?_)
      go_simp
      refine hK.out _ _ ?_ (fun hH44 => ?_)
      ·
       ((try dsimp only); go_keep)
      clear hK K
      (try simp only [Act.put, zA, zB, zC])
      have hfin := HBEL.out.trans (sa42.mono HBEL.out.size)
      have nfin := (na43.set 0 (.bool (ineg (M + Z)))).set 1 (.string (imag (M + Z)))
      have HFIN := Lib.hid hfin; clear hfin
      have NFIN := Lib.hid nfin; clear nfin
      refine wpAnyH_done (by kernel_rfl) ?_ _
      (try simp only [List.getElem_toArray, List.getElem_cons_zero, List.getElem_cons_succ, Act.put, zA, zB, zC])
      go_wp2_with fail
      go_roundw
      case rel => exact ⟨j + 1, by omega, by go_num, (HFIN.out.setCell (p := ⟨w1.heap.size, 0, none⟩) (Nat.le_refl _) _).setCell (p := ⟨w1.heap.size, 1, none⟩) (Nat.le_refl _) _, by rw [← HST.out]; exact NFIN.out⟩
      case measure => simp [intOf]; omega
     ·
      go_simp
      go_at_call 118
      refine (HDET.out _ _ hvw).mono ?_
      rintro e' wa45 ⟨hq, rfl⟩
      dsimp only
      have z0 := (hq.cell (p := ⟨bv, ov, none⟩) (show bv < wa23.heap.size by omega)).trans hH24.1
      have z1 := (hq.cell (p := ⟨br, orr + j * 2, none⟩) (show br < wa23.heap.size by omega)).trans hH24.2.1
      have z2 := (hq.cell (p := ⟨br, orr + j * 2 + 1, none⟩) (show br < wa23.heap.size by omega)).trans hH24.2.2
      refine hK.out _ _ ⟨z0, z1, z2⟩ (fun hH46 => ?_)
      clear hK K z0  z1  z2
      (try simp only [Act.put, zA, zB, zC])
      have sa47 : Below wo.heap.size wo wa45 := sa25.trans (hq.mono sa25.size)
      have na48 := Blk.keep (w := wa23) na26 hq
      clear hq
      have hlwa45 : wo.heap.size ≤ wa45.heap.size := sa47.size
      clear cN0 cN1
      have cN0 := na48.cell (j := 0) rfl
      have cN1 := na48.cell (j := 1) rfl
      have fr0 := na48.frozen 0
      have fr1 := na48.frozen 1
      refine wpAnyH_ready (rs := [0, 12]) (by kernel_rfl) (by simp) ?_
      refine AllReadyH.cons rfl (fun K hK => ?_) (AllReadyH.cons rfl (fun K hK => ?_) (AllReadyH.nil))
      ·
       go_simp
       refine hK.out _ _ ?_ (fun hH49 => ?_)
       ·
        ((try dsimp only); go_keep)
       clear hK K
       (try simp only [Act.put, zA, zB, zC])
       refine zR 12 (h := fun K hK => ?_)
       go_simp
       go_at_call 48
       refine (HMUL.out _).mono ?_
       rintro e' wa50 ⟨hq, rfl⟩
       dsimp only
       have z0 := (hq.cell (p := ⟨bv, ov, none⟩) (show bv < wa45.heap.size by omega)).trans hH49.1
       have z1 := (hq.cell (p := ⟨br, orr + j * 2, none⟩) (show br < wa45.heap.size by omega)).trans hH49.2.1
       have z2 := (hq.cell (p := ⟨br, orr + j * 2 + 1, none⟩) (show br < wa45.heap.size by omega)).trans hH49.2.2
       refine hK.out _ _ ⟨z0, z1, z2⟩ (fun hH51 => ?_)
       clear hK K z0  z1  z2
       (try simp only [Act.put, zA, zB, zC])
       have sa52 : Below wo.heap.size wo wa50 := sa47.trans (hq.mono sa47.size)
       have na53 := Blk.keep (w := wa45) na48 hq
       clear hq
       have hlwa50 : wo.heap.size ≤ wa50.heap.size := sa52.size
       clear cN0 cN1
       have cN0 := na53.cell (j := 0) rfl
       have cN1 := na53.cell (j := 1) rfl
       have fr0 := na53.frozen 0
       have fr1 := na53.frozen 1
       refine zR 13 (h := fun K hK => ?_)
       go_simp
       go_at_call 95
       refine (HSG.out _).mono ?_
       rintro e' wa54 ⟨hq, rfl⟩
       dsimp only
       have z0 := (hq.cell (p := ⟨bv, ov, none⟩) (show bv < wa50.heap.size by omega)).trans hH51.1
       have z1 := (hq.cell (p := ⟨br, orr + j * 2, none⟩) (show br < wa50.heap.size by omega)).trans hH51.2.1
       have z2 := (hq.cell (p := ⟨br, orr + j * 2 + 1, none⟩) (show br < wa50.heap.size by omega)).trans hH51.2.2
       refine hK.out _ _ ⟨z0, z1, z2⟩ (fun hH55 => ?_)
       clear hK K z0  z1  z2
       (try simp only [Act.put, zA, zB, zC])
       have sa56 : Below wo.heap.size wo wa54 := sa52.trans (hq.mono sa52.size)
       have na57 := Blk.keep (w := wa50) na53 hq
       clear hq
       have hlwa54 : wo.heap.size ≤ wa54.heap.size := sa56.size
       clear cN0 cN1
       have cN0 := na57.cell (j := 0) rfl
       have cN1 := na57.cell (j := 1) rfl
       have fr0 := na57.frozen 0
       have fr1 := na57.frozen 1
       refine zR 14 (h := fun K hK => ?_)
       go_simp
       go_at_call 40
       refine (HADD.out _).mono ?_
       rintro e' wa58 ⟨hq, rfl⟩
       dsimp only
       have z0 := (hq.cell (p := ⟨bv, ov, none⟩) (show bv < wa54.heap.size by omega)).trans hH55.1
       have z1 := (hq.cell (p := ⟨br, orr + j * 2, none⟩) (show br < wa54.heap.size by omega)).trans hH55.2.1
       have z2 := (hq.cell (p := ⟨br, orr + j * 2 + 1, none⟩) (show br < wa54.heap.size by omega)).trans hH55.2.2
       refine hK.out _ _ ⟨z0, z1, z2⟩ (fun hH59 => ?_)
       clear hK K z0  z1  z2
       (try simp only [Act.put, zA, zB, zC])
       have sa60 : Below wo.heap.size wo wa58 := sa56.trans (hq.mono sa56.size)
       have na61 := Blk.keep (w := wa54) na57 hq
       clear hq
       have hlwa58 : wo.heap.size ≤ wa58.heap.size := sa60.size
       clear cN0 cN1
       have cN0 := na61.cell (j := 0) rfl
       have cN1 := na61.cell (j := 1) rfl
       have fr0 := na61.frozen 0
       have fr1 := na61.frozen 1
       refine zR 15 (h := fun K hK => ?_)
       go_simp
       refine hK.out _ _ ?_ (fun hH62 => ?_)
       ·
        ((try dsimp only); go_keep)
       clear hK K
       (try simp only [Act.put, zA, zB, zC])
       have hfin := HBEL.out.trans (sa60.mono HBEL.out.size)
       have nfin := (na61.set 0 (.bool (ineg (M + Z)))).set 1 (.string (imag (M + Z)))
       have HFIN := Lib.hid hfin; clear hfin
       have NFIN := Lib.hid nfin; clear nfin
       refine wpAnyH_done (by kernel_rfl) ?_ _
       (try simp only [List.getElem_toArray, List.getElem_cons_zero, List.getElem_cons_succ, Act.put, zA, zB, zC])
       go_wp2_with fail
       go_roundw
       case rel => exact ⟨j + 1, by omega, by go_num, (HFIN.out.setCell (p := ⟨w1.heap.size, 0, none⟩) (Nat.le_refl _) _).setCell (p := ⟨w1.heap.size, 1, none⟩) (Nat.le_refl _) _, by rw [← HST.out]; exact NFIN.out⟩
       case measure => simp [intOf]; omega
      ·
       go_simp
       go_at_call 48
       refine (HMUL.out _).mono ?_
       rintro e' wa63 ⟨hq, rfl⟩
       dsimp only
       have z0 := (hq.cell (p := ⟨bv, ov, none⟩) (show bv < wa45.heap.size by omega)).trans hH46.1
       have z1 := (hq.cell (p := ⟨br, orr + j * 2, none⟩) (show br < wa45.heap.size by omega)).trans hH46.2.1
       have z2 := (hq.cell (p := ⟨br, orr + j * 2 + 1, none⟩) (show br < wa45.heap.size by omega)).trans hH46.2.2
       refine hK.out _ _ ⟨z0, z1, z2⟩ (fun hH64 => ?_)
       clear hK K z0  z1  z2
       (try simp only [Act.put, zA, zB, zC])
       have sa65 : Below wo.heap.size wo wa63 := sa47.trans (hq.mono sa47.size)
       have na66 := Blk.keep (w := wa45) na48 hq
       clear hq
       have hlwa63 : wo.heap.size ≤ wa63.heap.size := sa65.size
       clear cN0 cN1
       have cN0 := na66.cell (j := 0) rfl
       have cN1 := na66.cell (j := 1) rfl
       have fr0 := na66.frozen 0
       have fr1 := na66.frozen 1
       refine wpAnyH_ready (rs := [0, 13]) (by kernel_rfl) (by simp) ?_
       refine AllReadyH.cons rfl (fun K hK => ?_) (AllReadyH.cons rfl (fun K hK => ?_) (AllReadyH.nil))
       ·
        go_simp
        refine hK.out _ _ ?_ (fun hH67 => ?_)
        ·
         ((try dsimp only); go_keep)
        clear hK K
        (try simp only [Act.put, zA, zB, zC])
        refine zR 13 (h := fun K hK => ?_)
        go_simp
        go_at_call 95
        refine (HSG.out _).mono ?_
        rintro e' wa68 ⟨hq, rfl⟩
        dsimp only
        have z0 := (hq.cell (p := ⟨bv, ov, none⟩) (show bv < wa63.heap.size by omega)).trans hH67.1
        have z1 := (hq.cell (p := ⟨br, orr + j * 2, none⟩) (show br < wa63.heap.size by omega)).trans hH67.2.1
        have z2 := (hq.cell (p := ⟨br, orr + j * 2 + 1, none⟩) (show br < wa63.heap.size by omega)).trans hH67.2.2
        refine hK.out _ _ ⟨z0, z1, z2⟩ (fun hH69 => ?_)
        clear hK K z0  z1  z2
        (try simp only [Act.put, zA, zB, zC])
        have sa70 : Below wo.heap.size wo wa68 := sa65.trans (hq.mono sa65.size)
        have na71 := Blk.keep (w := wa63) na66 hq
        clear hq
        have hlwa68 : wo.heap.size ≤ wa68.heap.size := sa70.size
        clear cN0 cN1
        have cN0 := na71.cell (j := 0) rfl
        have cN1 := na71.cell (j := 1) rfl
        have fr0 := na71.frozen 0
        have fr1 := na71.frozen 1
        refine zR 14 (h := fun K hK => ?_)
        go_simp
        go_at_call 40
        refine (HADD.out _).mono ?_
        rintro e' wa72 ⟨hq, rfl⟩
        dsimp only
        have z0 := (hq.cell (p := ⟨bv, ov, none⟩) (show bv < wa68.heap.size by omega)).trans hH69.1
        have z1 := (hq.cell (p := ⟨br, orr + j * 2, none⟩) (show br < wa68.heap.size by omega)).trans hH69.2.1
        have z2 := (hq.cell (p := ⟨br, orr + j * 2 + 1, none⟩) (show br < wa68.heap.size by omega)).trans hH69.2.2
        refine hK.out _ _ ⟨z0, z1, z2⟩ (fun hH73 => ?_)
        clear hK K z0  z1  z2
        (try simp only [Act.put, zA, zB, zC])
        have sa74 : Below wo.heap.size wo wa72 := sa70.trans (hq.mono sa70.size)
        have na75 := Blk.keep (w := wa68) na71 hq
        clear hq
        have hlwa72 : wo.heap.size ≤ wa72.heap.size := sa74.size
        clear cN0 cN1
        have cN0 := na75.cell (j := 0) rfl
        have cN1 := na75.cell (j := 1) rfl
        have fr0 := na75.frozen 0
        have fr1 := na75.frozen 1
        refine zR 15 (h := fun K hK => ?_)
        go_simp
        refine hK.out _ _ ?_ (fun hH76 => ?_)
        ·
         ((try dsimp only); go_keep)
        clear hK K
        (try simp only [Act.put, zA, zB, zC])
        have hfin := HBEL.out.trans (sa74.mono HBEL.out.size)
        have nfin := (na75.set 0 (.bool (ineg (M + Z)))).set 1 (.string (imag (M + Z)))
        have HFIN := Lib.hid hfin; clear hfin
        have NFIN := Lib.hid nfin; clear nfin
        refine wpAnyH_done (by kernel_rfl) ?_ _
        (try simp only [List.getElem_toArray, List.getElem_cons_zero, List.getElem_cons_succ, Act.put, zA, zB, zC])
        go_wp2_with fail
        go_roundw
        case rel => exact ⟨j + 1, by omega, by go_num, (HFIN.out.setCell (p := ⟨w1.heap.size, 0, none⟩) (Nat.le_refl _) _).setCell (p := ⟨w1.heap.size, 1, none⟩) (Nat.le_refl _) _, by rw [← HST.out]; exact NFIN.out⟩
        case measure => simp [intOf]; omega
       ·
        go_simp
        go_at_call 95
        refine (HSG.out _).mono ?_
        rintro e' wa77 ⟨hq, rfl⟩
        dsimp only
        have z0 := (hq.cell (p := ⟨bv, ov, none⟩) (show bv < wa63.heap.size by omega)).trans hH64.1
        have z1 := (hq.cell (p := ⟨br, orr + j * 2, none⟩) (show br < wa63.heap.size by omega)).trans hH64.2.1
        have z2 := (hq.cell (p := ⟨br, orr + j * 2 + 1, none⟩) (show br < wa63.heap.size by omega)).trans hH64.2.2
        refine hK.out _ _ ⟨z0, z1, z2⟩ (fun hH78 => ?_)
        clear hK K z0  z1  z2
        (try simp only [Act.put, zA, zB, zC])
        have sa79 : Below wo.heap.size wo wa77 := sa65.trans (hq.mono sa65.size)
        have na80 := Blk.keep (w := wa63) na66 hq
        clear hq
        have hlwa77 : wo.heap.size ≤ wa77.heap.size := sa79.size
        clear cN0 cN1
        have cN0 := na80.cell (j := 0) rfl
        have cN1 := na80.cell (j := 1) rfl
        have fr0 := na80.frozen 0
        have fr1 := na80.frozen 1
        refine zR 0 (h := fun K hK => ?_)
        go_simp
        refine hK.out _ _ ?_ (fun hH81 => ?_)
        ·
         ((try dsimp only); go_keep)
        clear hK K
        (try simp only [Act.put, zA, zB, zC])
        refine zR 14 (h := fun K hK => ?_)
        go_simp
        go_at_call 40
        refine (HADD.out _).mono ?_
        rintro e' wa82 ⟨hq, rfl⟩
        dsimp only
        have z0 := (hq.cell (p := ⟨bv, ov, none⟩) (show bv < wa77.heap.size by omega)).trans hH81.1
        have z1 := (hq.cell (p := ⟨br, orr + j * 2, none⟩) (show br < wa77.heap.size by omega)).trans hH81.2.1
        have z2 := (hq.cell (p := ⟨br, orr + j * 2 + 1, none⟩) (show br < wa77.heap.size by omega)).trans hH81.2.2
        refine hK.out _ _ ⟨z0, z1, z2⟩ (fun hH83 => ?_)
        clear hK K z0  z1  z2
        (try simp only [Act.put, zA, zB, zC])
        have sa84 : Below wo.heap.size wo wa82 := sa79.trans (hq.mono sa79.size)
        have na85 := Blk.keep (w := wa77) na80 hq
        clear hq
        have hlwa82 : wo.heap.size ≤ wa82.heap.size := sa84.size
        clear cN0 cN1
        have cN0 := na85.cell (j := 0) rfl
        have cN1 := na85.cell (j := 1) rfl
        have fr0 := na85.frozen 0
        have fr1 := na85.frozen 1
        refine zR 15 (h := fun K hK => ?_)
        go_simp
        refine hK.out _ _ ?_ (fun hH86 => ?_)
        ·
         ((try dsimp only); go_keep)
        clear hK K
        (try simp only [Act.put, zA, zB, zC])
        have hfin := HBEL.out.trans (sa84.mono HBEL.out.size)
        have nfin := (na85.set 0 (.bool (ineg (M + Z)))).set 1 (.string (imag (M + Z)))
        have HFIN := Lib.hid hfin; clear hfin
        have NFIN := Lib.hid nfin; clear nfin
        refine wpAnyH_done (by kernel_rfl) ?_ _
        (try simp only [List.getElem_toArray, List.getElem_cons_zero, List.getElem_cons_succ, Act.put, zA, zB, zC])
        go_wp2_with fail
        go_roundw
        case rel => exact ⟨j + 1, by omega, by go_num, (HFIN.out.setCell (p := ⟨w1.heap.size, 0, none⟩) (Nat.le_refl _) _).setCell (p := ⟨w1.heap.size, 1, none⟩) (Nat.le_refl _) _, by rw [← HST.out]; exact NFIN.out⟩
        case measure => simp [intOf]; omega
  ·
   have hjm2 : j = m := by omega
   have tj : decide ((j : Int) < (m : Int)) = false := by simp; omega
   rw [hjm2] at hblk
   have c0 := hblk.cell (j := 0) rfl
   have c1 := hblk.cell (j := 1) rfl
   have r0 := B0.out.below hbel (by omega)
   have g0 := r0.cell (j := 0) rfl
   have g1 := r0.cell (j := 1) rfl
   have f0 := r0.frozen 0
   have f1 := r0.frozen 1
   have r2 := (r0.set 0 (.bool (ineg (DP m)))).set 1 (.string (imag (DP m)))
   have e0 := r2.cell (j := 0) rfl
   have e1 := r2.cell (j := 1) rfl
   have s4 := S0.out.trans (hbel.mono S0.out.size)
   have s6 := (s4.setCell (p := ⟨w.heap.size, 0, none⟩) (Nat.le_refl _) (.bool (ineg (DP m)))).setCell (p := ⟨w.heap.size, 1, none⟩) (Nat.le_refl _) (.string (imag (DP m)))
   have S6 := Lib.hid s6; clear s6
   clear hblk hbel r0 r2 hjm2 s4
   go_wp2_with fail
   refine bodyPost_ret (v := IntV (DP m)) (by simp [results, Tryz.results118, go_sem, e0, e1, IntV]) rfl ⟨S6.out, rfl⟩
/-- The reference's determinant. -/
theorem det_any (p : Nat) (hp : p ≤ 1000) : ∀ (n : Nat) (rows : List (List Int)) (v : Value) (w : World), n ≤ 100 → Sq n p rows → Tab w v rows → Calls Tryz.prog 118 #[v] w (Ret w (IntV (dlN n rows)))
 | 0, rows, v, w, _, hS, hT =>
  by
  obtain rfl : rows = [] := List.eq_nil_of_length_eq_zero hS.1
  exact det_zero v w hT
 | n + 1, rows, v, w, hn, hS, hT => det_step n p rows v w hT hS (by omega) hp (fun rows' v' w' h1 h2 => det_any p hp n rows' v' w' (by omega) h1 h2)
end Go.Proofs.YthpgeeaccmgbkaaGreat


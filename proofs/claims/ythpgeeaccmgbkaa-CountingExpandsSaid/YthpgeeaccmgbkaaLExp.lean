/- The law CountingExpands. -/
import Derived.Deep.QuietTactic
import Derived.Deep.RegionHeld3
import Derived.Test.YthpgeeaccmgbkaaPart4
import Derived.Test.YthpgeeaccmgbkaaAwk22
namespace Go.Proofs.Ythpgeeaccmgbkaa
open Go.RowKit

theorem exS_zero (D l : List Int) (i : Nat) : exS D l i 0 = 0 := rfl
theorem exS_sm {D l : List Int} {p q : Nat} (hD : ∀ z ∈ D, sm p z) (hl : ∀ z ∈ l, sm q z) (i : Nat) {j : Nat} (hj : j ≤ 255) : sm (p + q + 1) (exS D l i j) := by
  unfold exS
  refine sm_sum' (fun z hz => ?_) (by simpa using hj)
  obtain ⟨t, -, rfl⟩ := List.mem_map.1 hz
  split
  · exact (getD_sm' hD _).mul (getD_sm' hl _)
  · unfold sm; exact Nat.pow_pos (by decide)
set_option maxRecDepth 100000 in
set_option maxHeartbeats 3200000 in
theorem lexp_bad (l1 l2 : List (Bool × ByteArray)) (v1 v2 : Value) (a1 : Nat) (w : World) (hr1 : Row w v1 l1.length (cnv l1)) (hr2 : Row w v2 l2.length (cnv l2)) (hB : ¬ (GLP l1 ∧ GLP l2)) :
    Calls Try.prog 6 #[v1, v2, .int .u8 (a1 : Int)] w (Ret w (.bool true)) := by
  have hg1 := greatL_any l1 v1 w hr1
  have hg2 := fun w' h => greatL_any l2 v2 w' h
  have hb : GLP l1 → GLP l2 → False := fun h h' => hB ⟨h, h'⟩
  have haw := awake22_true
  obtain ⟨va, vc, rfl, hle1⟩ := hr1.slice
  obtain ⟨vb, vd, rfl, hle2⟩ := hr2.slice
  obtain ⟨m1, hm1⟩ : ∃ m, m = l1.length := ⟨_, rfl⟩
  obtain ⟨m2, hm2⟩ : ∃ m, m = l2.length := ⟨_, rfl⟩
  rw [← hm1] at hr1 hg1
  rw [← hm2] at hr2 hg2
  rw [← hm1, ← hm2]
  have HG1 := Lib.hid hg1; clear hg1
  have HG2 := Lib.hid hg2; clear hg2
  have HB := Lib.hid hb; clear hb
  have HAW := Lib.hid haw; clear haw
  have HR1 := Lib.hid hr1; clear hr1
  have HR2 := Lib.hid hr2; clear hr2
  clear hm1 hm2 hB
  go_enter Try.func6, Try.ntmps6
  go_wp2_with fail
  go_at_call 21
  refine HG1.out.mono ?_
  rintro e w1 ⟨hq, b1, rfl, hb1⟩
  have hr21 := HR2.out.below hq (Nat.le_refl _)
  have hg2w := HG2.out w1 hr21
  have S1 := Lib.hid hq; clear hq
  have HR21 := Lib.hid hr21; clear hr21
  have HG2W := Lib.hid hg2w; clear hg2w
  cases b1 with
  | true =>
    clear hb1
    go_wp2_with fail
    go_at_call 10
    refine (HAW.out _).mono ?_
    rintro e w2 ⟨hq, rfl⟩
    have HQ := Lib.hid hq; clear hq
    go_wp2_with fail
    go_ret
    exact ⟨S1.out.trans (HQ.out.mono S1.out.size), rfl⟩
  | false =>
    have hG1 := hb1 rfl
    clear hb1
    have HGA := Lib.hid hG1; clear hG1
    go_wp2_with fail
    go_at_call 21
    refine HG2W.out.mono ?_
    rintro e w2 ⟨hq, b2, rfl, hb2⟩
    have s2 := S1.out.trans (hq.mono S1.out.size)
    have S2 := Lib.hid s2; clear s2
    clear hq
    cases b2 with
    | true =>
      clear hb2
      go_wp2_with fail
      go_at_call 10
      refine (HAW.out _).mono ?_
      rintro e w3 ⟨hq, rfl⟩
      have HQ := Lib.hid hq; clear hq
      go_wp2_with fail
      go_ret
      exact ⟨S2.out.trans (HQ.out.mono S2.out.size), rfl⟩
    | false => exact absurd (hb2 rfl) (fun h => HB.out HGA.out h)
set_option maxRecDepth 100000 in
set_option maxHeartbeats 3200000 in
theorem lexp_err (l1 l2 : List (Bool × ByteArray)) (v1 v2 : Value) (a1 n : Nat) (E : Int) (w : World) (hr1 : Row w v1 l1.length (cnv l1)) (hr2 : Row w v2 l2.length (cnv l2)) (h1 : a1 ≤ 255) (hn : n = a1 % 31) (hE0 : E ≠ 0)
    (hE : ∀ v1 v2 w', Row w' v1 l1.length (cnv l1) → Row w' v2 l2.length (cnv l2) → Calls Try.prog 19 #[v1, v2, .int .i64 (n : Int)] w' (Ret w' (.tuple #[.slice none 0 0, .int .i64 E]))) :
    Calls Try.prog 6 #[v1, v2, .int .u8 (a1 : Int)] w (Ret w (.bool true)) := by
  have hg1 := greatL_any l1 v1 w hr1
  have hg2 := fun w' h => greatL_any l2 v2 w' h
  have hex := fun w' h h' => hE v1 v2 w' h h'
  have r3 : (a1 : Int) % 31 = (n : Int) := by omega
  have t0 : (E != 0) = true := by simp [hE0]
  have haw := awake22_true
  obtain ⟨va, vc, rfl, hle1⟩ := hr1.slice
  obtain ⟨vb, vd, rfl, hle2⟩ := hr2.slice
  obtain ⟨m1, hm1⟩ : ∃ m, m = l1.length := ⟨_, rfl⟩
  obtain ⟨m2, hm2⟩ : ∃ m, m = l2.length := ⟨_, rfl⟩
  rw [← hm1] at hr1 hg1 hex
  rw [← hm2] at hr2 hg2 hex
  rw [← hm1, ← hm2]
  have HG1 := Lib.hid hg1; clear hg1
  have HG2 := Lib.hid hg2; clear hg2
  have HEX := Lib.hid hex; clear hex
  have R3 := Lib.hid r3; clear r3
  have HAW := Lib.hid haw; clear haw
  have HR1 := Lib.hid hr1; clear hr1
  have HR2 := Lib.hid hr2; clear hr2
  clear hE hn hm1 hm2 hE0
  go_enter Try.func6, Try.ntmps6
  go_wp2_with fail
  go_at_call 21
  refine HG1.out.mono ?_
  rintro e w1 ⟨hq, b1, rfl, hb1⟩
  have hr21 := HR2.out.below hq (Nat.le_refl _)
  have hg2w := HG2.out w1 hr21
  have S1 := Lib.hid hq; clear hq
  have HR21 := Lib.hid hr21; clear hr21
  have HG2W := Lib.hid hg2w; clear hg2w
  clear hb1
  cases b1 with
  | true =>
    go_wp2_with fail
    go_at_call 10
    refine (HAW.out _).mono ?_
    rintro e w2 ⟨hq, rfl⟩
    have HQ := Lib.hid hq; clear hq
    go_wp2_with fail
    go_ret
    exact ⟨S1.out.trans (HQ.out.mono S1.out.size), rfl⟩
  | false =>
    go_wp2_with fail
    go_at_call 21
    refine HG2W.out.mono ?_
    rintro e w2 ⟨hq, b2, rfl, hb2⟩
    have s2 := S1.out.trans (hq.mono S1.out.size)
    have hexw := HEX.out w2 (HR1.out.below s2 (Nat.le_refl _)) (HR21.out.below hq (Nat.le_refl _))
    have S2 := Lib.hid s2; clear s2
    have HEXW := Lib.hid hexw; clear hexw
    clear hq hb2
    cases b2 with
    | true =>
      go_wp2_with fail
      go_at_call 10
      refine (HAW.out _).mono ?_
      rintro e w3 ⟨hq, rfl⟩
      have HQ := Lib.hid hq; clear hq
      go_wp2_with fail
      go_ret
      exact ⟨S2.out.trans (HQ.out.mono S2.out.size), rfl⟩
    | false =>
      go_wp2_with fail
      rw [R3.out]
      go_at_call 19
      refine HEXW.out.mono ?_
      rintro e w3 ⟨hq, rfl⟩
      have s3 := S2.out.trans (hq.mono S2.out.size)
      have S3 := Lib.hid s3; clear s3
      clear hq
      go_wp2_with fail
      go_at_call 10
      refine (HAW.out _).mono ?_
      rintro e w4 ⟨hq, rfl⟩
      have HQ := Lib.hid hq; clear hq
      go_wp2_with fail
      go_ret
      exact ⟨S3.out.trans (HQ.out.mono S3.out.size), rfl⟩
set_option maxRecDepth 100000 in
set_option maxHeartbeats 8000000 in
theorem lexp_ok (N D : List Int) (v1 v2 : Value) (a1 n : Nat) (w : World) (hr1c : Row w v1 (N.map fun z => (ineg z, imag z)).length (cnv (N.map fun z => (ineg z, imag z)))) (hr2c : Row w v2 (D.map fun z => (ineg z, imag z)).length (cnv (D.map fun z => (ineg z, imag z)))) (h1 : a1 ≤ 255) (hn : n = a1 % 31)
    (hl1 : N.length ≤ 65) (hl2 : D.length ≤ 65) (hD0 : D ≠ []) (hone : one2 (D.getD 0 0)) (hN : ∀ z ∈ N, sm 6 z) (hD : ∀ z ∈ D, sm 6 z)
    (hE : ∀ v1 v2 w', Row w' v1 N.length (civ N) → Row w' v2 D.length (civ D) → Calls Try.prog 19 #[v1, v2, .int .i64 (n : Int)] w' (ExpRet n (exL N D n) w')) :
    Calls Try.prog 6 #[v1, v2, .int .u8 (a1 : Int)] w (Ret w (.bool true)) := by
  have hg1 := greatL_any _ v1 w hr1c
  have hg2 := fun w' h => greatL_any (D.map fun z => (ineg z, imag z)) v2 w' h
  rw [← civ_cnv, List.length_map] at hr1c hr2c
  simp only [← civ_cnv, List.length_map] at hg2
  have hr1 := hr1c
  have hr2 := hr2c
  clear hr1c hr2c
  have hex := fun w' h h' => hE v1 v2 w' h h'
  have r3 : (a1 : Int) % 31 = (n : Int) := by omega
  have hn31 : n < 31 := by omega
  have haw := awake22_true
  have hof := fun w' => iof_any 0 w' (by decide) (by decide)
  have hxs := exL_sm hN hD hl2 hone n
  have hxl := exL_length N D n
  have hall := fun (i : Nat) (hi : i < n) => exS_all N D hi hD0 hone
  obtain ⟨l, hl⟩ : ∃ l, l = exL N D n := ⟨_, rfl⟩
  rw [← hl] at hex hxs hxl
  simp only [← hl] at hall
  have hes := fun (i j : Nat) (hj : j ≤ 255) => exS_sm hD hxs i hj
  have hesu := fun (i j : Nat) => exS_succ D l i j
  have hDg : ∀ j, j < D.length → ∃ z, D[j]? = some z ∧ D.getD j 0 = z ∧ sm 6 z := fun j hj => ⟨D[j], List.getElem?_eq_getElem hj, by rw [List.getD_eq_getElem?_getD, List.getElem?_eq_getElem hj]; rfl, hD _ (List.getElem_mem hj)⟩
  have hlg : ∀ j, j < n → ∃ z, l[j]? = some z ∧ l.getD j 0 = z ∧ sm ((6 + 2) * n) z := fun j hj => by
    have hj2 : j < l.length := by omega
    exact ⟨l[j], List.getElem?_eq_getElem hj2, by rw [List.getD_eq_getElem?_getD, List.getElem?_eq_getElem hj2]; rfl, hxs _ (List.getElem_mem hj2)⟩
  have hNg : ∀ k, (k < N.length → ∃ z, N[k]? = some z ∧ N.getD k 0 = z) ∧ (¬ k < N.length → N.getD k 0 = 0) := fun k => by
    rw [List.getD_eq_getElem?_getD]
    refine ⟨fun hk => ⟨N[k], List.getElem?_eq_getElem hk, by rw [List.getElem?_eq_getElem hk]; rfl⟩, fun hk => by rw [List.getElem?_eq_none (by omega)]; rfl⟩
  obtain ⟨va, vc, rfl, hle1⟩ := hr1.slice
  obtain ⟨vb, vd, rfl, hle2⟩ := hr2.slice
  obtain ⟨m1, hm1⟩ : ∃ m, m = N.length := ⟨_, rfl⟩
  obtain ⟨m2, hm2⟩ : ∃ m, m = D.length := ⟨_, rfl⟩
  rw [← hm1] at hr1 hex hl1 hle1
  rw [← hm1] at hg1
  rw [← hm2] at hr2 hex hl2 hg2 hle2
  simp only [← hm1] at hNg
  simp only [← hm2] at hDg hall
  rw [← hm1, ← hm2]
  have HG1 := Lib.hid hg1; clear hg1
  have HG2 := Lib.hid hg2; clear hg2
  have HEX := Lib.hid hex; clear hex
  have R3 := Lib.hid r3; clear r3
  have HAW := Lib.hid haw; clear haw
  have HOF := Lib.hid hof; clear hof
  have HR1 := Lib.hid hr1; clear hr1
  have HR2 := Lib.hid hr2; clear hr2
  have HALL := Lib.hid hall; clear hall
  have HES := Lib.hid hes; clear hes
  have HESU := Lib.hid hesu; clear hesu
  have HDG := Lib.hid hDg; clear hDg
  have HLG := Lib.hid hlg; clear hlg
  have HNG := Lib.hid hNg; clear hNg
  clear hE hn hm1 hm2 hN hD hD0 hone hxs hl
  go_enter Try.func6, Try.ntmps6
  go_wp2_with fail
  go_at_call 21
  refine HG1.out.mono ?_
  rintro e w1 ⟨hq, b1, rfl, hb1⟩
  have hr21 := HR2.out.below hq (Nat.le_refl _)
  have hg2w := HG2.out w1 hr21
  have S1 := Lib.hid hq; clear hq
  have HR21 := Lib.hid hr21; clear hr21
  have HG2W := Lib.hid hg2w; clear hg2w
  clear hb1
  cases b1 with
  | true =>
    go_wp2_with fail
    go_at_call 10
    refine (HAW.out _).mono ?_
    rintro e w2 ⟨hq, rfl⟩
    have HQ := Lib.hid hq; clear hq
    go_wp2_with fail
    go_ret
    exact ⟨S1.out.trans (HQ.out.mono S1.out.size), rfl⟩
  | false =>
    go_wp2_with fail
    go_at_call 21
    refine HG2W.out.mono ?_
    rintro e w2 ⟨hq, b2, rfl, hb2⟩
    have s2 := S1.out.trans (hq.mono S1.out.size)
    have hexw := HEX.out w2 (HR1.out.below s2 (Nat.le_refl _)) (HR21.out.below hq (Nat.le_refl _))
    have S2 := Lib.hid s2; clear s2
    have HEXW := Lib.hid hexw; clear hexw
    clear hq hb2
    cases b2 with
    | true =>
      go_wp2_with fail
      go_at_call 10
      refine (HAW.out _).mono ?_
      rintro e w3 ⟨hq, rfl⟩
      have HQ := Lib.hid hq; clear hq
      go_wp2_with fail
      go_ret
      exact ⟨S2.out.trans (HQ.out.mono S2.out.size), rfl⟩
    | false =>
      go_wp2_with fail
      rw [R3.out]
      go_at_call 19
      refine HEXW.out.mono ?_
      rintro e w3 ⟨hq, vo, rfl, hown⟩
      have s3 := S2.out.trans (hq.mono S2.out.size)
      obtain ⟨ua, ucap, rfl⟩ := own_slice hown
      have hrow := own_row hown
      have S3 := Lib.hid s3; clear s3
      have HROW := Lib.hid hrow; clear hrow
      clear hq hown
      have tnn : ((n : Int) != (n : Int)) = false := by simp
      go_wp2_with fail
      go_loopw [45] (fun i wr => ∃ k : Nat, k ≤ n ∧ i = .int .i64 (k : Int) ∧ Below w3.heap.size w3 wr) (fun i _ => n - (intOf i).toNat)
      case atStart => exact ⟨0, Nat.zero_le _, rfl, Below.refl _ _⟩
      case round =>
        obtain ⟨k, hk, rfl, hbel⟩ := hrel
        obtain ⟨wo, rfl⟩ : ∃ wo : World, wo = wr := ⟨_, rfl⟩
        have hsz3 := hbel.size
        by_cases hkn : k < n
        · have tk : decide ((k : Int) < (n : Int)) = true := by simp; omega
          have hal := HALL.out k hkn
          have HBEL := Lib.hid hbel; clear hbel
          have HAL := Lib.hid hal; clear hal
          go_wp2_with fail
          go_at_call 11
          refine (HOF.out _).mono ?_
          rintro e w4 ⟨hq, rfl⟩
          have bx := Blk.new w4 28 [.bool (ineg 0), .string (imag 0)]
          have sx := (Below.refl w4.heap.size w4).alloc (Nat.le_refl _) (.cells #[.bool (ineg 0), .string (imag 0)] 28)
          have b4 := HBEL.out.trans (hq.mono hsz3)
          have hrow4 := HROW.out.below b4 (Nat.le_refl _)
          have s4 := S3.out.trans (b4.mono S3.out.size)
          have hsz4 := b4.size
          have BX := Lib.hid bx; clear bx
          have SX := Lib.hid sx; clear sx
          have B4 := Lib.hid b4; clear b4
          have HROW4 := Lib.hid hrow4; clear hrow4
          have S4 := Lib.hid s4; clear s4
          clear hq
          go_wp2_with fail
          go_loopw [51] (fun i wv => ∃ j : Nat, j ≤ m2 ∧ i = .int .i64 (j : Int) ∧ Below w4.heap.size w4 wv ∧ Blk wv w4.heap.size 28 [.bool (ineg (exS D l k j)), .string (imag (exS D l k j))]) (fun i _ => m2 - (intOf i).toNat)
          case atStart => exact ⟨0, Nat.zero_le _, rfl, SX.out, by rw [exS_zero]; exact BX.out⟩
          case round =>
            obtain ⟨j, hj, rfl, hbe, hblk⟩ := hrel
            obtain ⟨wu, rfl⟩ : ∃ wu : World, wu = wr := ⟨_, rfl⟩
            have hvs := hbe.size
            have hbl := hblk.lt
            by_cases hjm : j < m2
            · have tj : decide ((j : Int) < (m2 : Int)) = true := by simp; omega
              obtain ⟨y, hy1, hy2, hy3⟩ := HDG.out j hjm
              have hesu := HESU.out k j
              rw [hy2] at hesu
              have hMs := HES.out k j (by omega)
              obtain ⟨b2, o2, rfl, hb2o, hbc2⟩ := HR2.out.at_ (by omega)
              have swu := S4.out.trans (hbe.mono S4.out.size)
              obtain ⟨q2, q3⟩ := int_cells hbc2 swu hb2o hy1
              have bT := Blk.new wu 28 [.bool (ineg y), .string (imag y)]
              have sT := (Below.refl wu.heap.size wu).alloc (Nat.le_refl _) (.cells #[.bool (ineg y), .string (imag y)] 28)
              have hi1 : (0 : Int) ≤ (j : Int) := by omega
              have hi2 : (j : Int) < (m2 : Int) := by omega
              by_cases hjk : j ≤ k
              · have tjk : decide ((j : Int) ≤ (k : Int)) = true := by simp; omega
                obtain ⟨d, hd⟩ : ∃ d, d + j = k := ⟨k - j, by omega⟩
                obtain ⟨z, hz1, hz2, hz3⟩ := HLG.out d (by omega)
                rw [if_pos hjk, show k - j = d by omega, hz2] at hesu
                obtain ⟨M, hM⟩ : ∃ M, M = exS D l k j := ⟨_, rfl⟩
                rw [← hM] at hesu hMs hblk
                have hMS := hesu.symm
                have hmul := fun w' => imulV y z w' (Nat.le_trans hy3.size (by omega)) (Nat.le_trans hz3.size (by omega))
                have hyz := hy3.mul hz3
                have hadd := fun w' => iadd_any (ineg M) (ineg (y * z)) (imag M) (imag (y * z)) w' (Nat.le_trans hMs.size (by omega)) (Nat.le_trans hyz.size (by omega))
                simp only [ival_canon] at hadd
                have hrw := HROW4.out.below hbe (Nat.le_refl _)
                obtain ⟨b3, o3, rfl, hb3o, hbc3⟩ := HROW4.out.at_ (by omega)
                obtain ⟨q4, q5⟩ := int_cells hbc3 (hbe.trans (sT.mono hvs)) hb3o hz1
                have k5 := hblk.keep sT
                obtain ⟨wv, hwv⟩ : ∃ wv, wu.alloc (.cells #[.bool (ineg y), .string (imag y)] 28) = wv := ⟨_, rfl⟩
                obtain ⟨A, hA⟩ : ∃ A, A = wu.heap.size := ⟨_, rfl⟩
                rw [hwv] at bT sT k5 q4 q5
                rw [← hA] at bT
                have hAl := bT.lt
                have hA4 : w4.heap.size < A := by omega
                have hb3v : b3 < A := by omega
                have hcl := sT.size
                have ne1 : ¬ w4.heap.size = A := by omega
                have ne2 : ¬ A = w4.heap.size := by omega
                have ne3 : ¬ w4.heap.size = b3 := by omega
                have ne4 : ¬ b3 = w4.heap.size := by omega
                have hi3 : (0 : Int) ≤ (d : Int) := by omega
                have hi4 : (d : Int) < (n : Int) := by omega
                have hdd : (k : Int) - (j : Int) = (d : Int) := by omega
                have hwd : IntKind.i64.wrap (d : Int) = (d : Int) := IntWalk.i64_in _ (by omega)
                have hBV := hbe.trans (sT.mono hvs)
                have y0 := bT.cell (j := 0) rfl
                have y1 := bT.cell (j := 1) rfl
                have cN0 := k5.cell (j := 0) rfl
                have cN1 := k5.cell (j := 1) rfl
                have fr0 := k5.frozen 0
                have fr1 := k5.frozen 1
                have nV := k5.drew
                have sV := (Below.refl wv.heap.size wv).drew
                have HMS := Lib.hid hMS; clear hMS
                have HMUL := Lib.hid hmul; clear hmul
                have HADD := Lib.hid hadd; clear hadd
                have HBV := Lib.hid hBV; clear hBV
                clear hesu hMs hM hyz hy1 hy2 hy3 hz1 hz2 hz3 hbc3 hbc2 hblk hbe hrw swu bT sT k5
                go_wp2_with fail
                (try rw [hwv])
                (try rw [← hA])
                clear hwv hA q2 q3
                refine wp_region_held_drew (S := fun w' => w'.cell? ⟨A, 0, none⟩ = some (.bool (ineg y)) ∧ w'.cell? ⟨A, 1, none⟩ = some (.string (imag y)) ∧ w'.cell? ⟨b3, o3 + d * 2, none⟩ = some (.bool (ineg z)) ∧ w'.cell? ⟨b3, o3 + d * 2 + 1, none⟩ = some (.string (imag z))) (by kernel_rfl) ?_ (fun hHeld => ?_)
                · go_keep
                refine wpAnyH_take (i := 1) (v := ?_) rfl (by kernel_rfl) (by kernel_rfl) (by kernel_rfl) (fun _ _ _ h => h) (Or.inl ⟨by rfl, ?_⟩) (by assumption) ?_
                rotate_left
                · (intro wS hSw; (try dsimp only at hSw); go_simp; (try with_reducible rfl))
                (try simp only [Act.put, List.setIfInBounds_toArray, List.set_cons_zero, List.set_cons_succ])
                refine wpAnyH_take (i := 2) (v := ?_) rfl (by kernel_rfl) (by kernel_rfl) (by kernel_rfl) (fun _ _ _ h => h) (Or.inl ⟨by rfl, ?_⟩) (by assumption) ?_
                rotate_left
                · (intro wS hSw; (try dsimp only at hSw); go_simp; (try with_reducible rfl))
                (try simp only [Act.put, List.setIfInBounds_toArray, List.set_cons_zero, List.set_cons_succ])
                refine wpAnyH_take (i := 3) (v := ?_) rfl (by kernel_rfl) (by kernel_rfl) (by kernel_rfl) (fun _ _ _ h => h) (Or.inl ⟨by rfl, ?_⟩) (by assumption) ?_
                rotate_left
                · (intro wS hSw; (try dsimp only at hSw); go_simp; (try with_reducible rfl))
                (try simp only [Act.put, List.setIfInBounds_toArray, List.set_cons_zero, List.set_cons_succ])
                refine wpAnyH_take (i := 4) (v := ?_) rfl (by kernel_rfl) (by kernel_rfl) (by kernel_rfl) (fun _ _ _ h => h) (Or.inl ⟨by rfl, ?_⟩) (by assumption) ?_
                rotate_left
                · (intro wS hSw; (try dsimp only at hSw); go_simp; (try with_reducible rfl))
                (try simp only [Act.put, List.setIfInBounds_toArray, List.set_cons_zero, List.set_cons_succ])
                refine wpAnyH_take (i := 5) (v := ?_) rfl (by kernel_rfl) (by kernel_rfl) (by kernel_rfl) (fun _ _ _ h => h) (Or.inl ⟨by rfl, ?_⟩) (by assumption) ?_
                rotate_left
                · (intro wS hSw; (try dsimp only at hSw); go_simp; (try with_reducible rfl))
                (try simp only [Act.put, List.setIfInBounds_toArray, List.set_cons_zero, List.set_cons_succ])
                refine wpAnyH_take (i := 6) (v := ?_) rfl (by kernel_rfl) (by kernel_rfl) (by kernel_rfl) (fun _ _ _ h => h) (Or.inl ⟨by rfl, ?_⟩) (by assumption) ?_
                rotate_left
                · (intro wS hSw; (try dsimp only at hSw); go_simp; (try with_reducible rfl))
                (try simp only [Act.put, List.setIfInBounds_toArray, List.set_cons_zero, List.set_cons_succ])
                refine wpAnyH_take (i := 7) (v := ?_) rfl (by kernel_rfl) (by kernel_rfl) (by kernel_rfl) (fun _ _ _ h => h) (Or.inl ⟨by rfl, ?_⟩) (by assumption) ?_
                rotate_left
                · (intro wS hSw; (try dsimp only at hSw); go_simp; (try with_reducible rfl))
                (try simp only [Act.put, List.setIfInBounds_toArray, List.set_cons_zero, List.set_cons_succ])
                refine wpAnyH_ready (rs := [0, 8]) (by kernel_rfl) (by simp) ?_
                refine AllReadyH.cons rfl (fun K hK => ?_) (AllReadyH.cons rfl (fun K hK => ?_) (AllReadyH.nil))
                · go_simp
                  refine hK.out _ _ ?_ (fun hH1 => ?_)
                  · ((try dsimp only); go_keep)
                  clear hK K
                  (try simp only [Act.put, List.setIfInBounds_toArray, List.set_cons_zero, List.set_cons_succ])
                  refine wpAnyH_ready (rs := [8]) (by kernel_rfl) (by simp) ?_
                  refine AllReadyH.cons rfl (fun K hK => ?_) AllReadyH.nil
                  go_simp
                  go_at_call 15
                  refine (HMUL.out _).mono ?_
                  rintro e' wa2 ⟨hq, rfl⟩
                  dsimp only
                  have z0 := (hq.cell (p := ⟨A, 0, none⟩) (show A < wv.heap.size by omega)).trans hH1.1
                  have z1 := (hq.cell (p := ⟨A, 1, none⟩) (show A < wv.heap.size by omega)).trans hH1.2.1
                  have z2 := (hq.cell (p := ⟨b3, o3 + d * 2, none⟩) (show b3 < wv.heap.size by omega)).trans hH1.2.2.1
                  have z3 := (hq.cell (p := ⟨b3, o3 + d * 2 + 1, none⟩) (show b3 < wv.heap.size by omega)).trans hH1.2.2.2
                  refine hK.out _ _ ⟨z0, z1, z2, z3⟩ (fun hH3 => ?_)
                  clear hK K z0  z1  z2  z3
                  (try simp only [Act.put, List.setIfInBounds_toArray, List.set_cons_zero, List.set_cons_succ])
                  have sa4 : Below wv.heap.size wv wa2 := sV.trans (hq.mono sV.size)
                  have na5 := Blk.keep (w := wv.drew) nV hq
                  clear hq
                  have hlwa2 : wv.heap.size ≤ wa2.heap.size := sa4.size
                  clear cN0 cN1
                  have cN0 := na5.cell (j := 0) rfl
                  have cN1 := na5.cell (j := 1) rfl
                  have fr0 := na5.frozen 0
                  have fr1 := na5.frozen 1
                  refine wpAnyH_ready (rs := [9]) (by kernel_rfl) (by simp) ?_
                  refine AllReadyH.cons rfl (fun K hK => ?_) AllReadyH.nil
                  go_simp
                  go_at_call 14
                  refine (HADD.out _).mono ?_
                  rintro e' wa6 ⟨hq, rfl⟩
                  dsimp only
                  have z0 := (hq.cell (p := ⟨A, 0, none⟩) (show A < wa2.heap.size by omega)).trans hH3.1
                  have z1 := (hq.cell (p := ⟨A, 1, none⟩) (show A < wa2.heap.size by omega)).trans hH3.2.1
                  have z2 := (hq.cell (p := ⟨b3, o3 + d * 2, none⟩) (show b3 < wa2.heap.size by omega)).trans hH3.2.2.1
                  have z3 := (hq.cell (p := ⟨b3, o3 + d * 2 + 1, none⟩) (show b3 < wa2.heap.size by omega)).trans hH3.2.2.2
                  refine hK.out _ _ ⟨z0, z1, z2, z3⟩ (fun hH7 => ?_)
                  clear hK K z0  z1  z2  z3
                  (try simp only [Act.put, List.setIfInBounds_toArray, List.set_cons_zero, List.set_cons_succ])
                  have sa8 : Below wv.heap.size wv wa6 := sa4.trans (hq.mono sa4.size)
                  have na9 := Blk.keep (w := wa2) na5 hq
                  clear hq
                  have hlwa6 : wv.heap.size ≤ wa6.heap.size := sa8.size
                  clear cN0 cN1
                  have cN0 := na9.cell (j := 0) rfl
                  have cN1 := na9.cell (j := 1) rfl
                  have fr0 := na9.frozen 0
                  have fr1 := na9.frozen 1
                  refine wpAnyH_ready (rs := [10]) (by kernel_rfl) (by simp) ?_
                  refine AllReadyH.cons rfl (fun K hK => ?_) AllReadyH.nil
                  go_simp
                  refine hK.out _ _ ?_ (fun hH10 => ?_)
                  · ((try dsimp only); go_keep)
                  clear hK K
                  (try simp only [Act.put, List.setIfInBounds_toArray, List.set_cons_zero, List.set_cons_succ])
                  refine wpAnyH_done (by kernel_rfl) ?_ _
                  (try simp only [List.getElem_toArray, List.getElem_cons_zero, List.getElem_cons_succ, Act.put, List.setIfInBounds_toArray, List.set_cons_zero, List.set_cons_succ])
                  go_wp2_with fail
                  go_roundw
                  case rel => exact ⟨j + 1, by omega, by go_num, ((HBV.out.trans (sa8.mono HBV.out.size)).setCell (p := ⟨w4.heap.size, 0, none⟩) (Nat.le_refl _) _).setCell (p := ⟨w4.heap.size, 1, none⟩) (Nat.le_refl _) _, by rw [← HMS.out]; exact (na9.set 0 _).set 1 _⟩
                  case measure => simp [intOf]; omega
                · go_simp
                  go_at_call 15
                  refine (HMUL.out _).mono ?_
                  rintro e' wa11 ⟨hq, rfl⟩
                  dsimp only
                  have z0 := (hq.cell (p := ⟨A, 0, none⟩) (show A < wv.heap.size by omega)).trans hHeld.1
                  have z1 := (hq.cell (p := ⟨A, 1, none⟩) (show A < wv.heap.size by omega)).trans hHeld.2.1
                  have z2 := (hq.cell (p := ⟨b3, o3 + d * 2, none⟩) (show b3 < wv.heap.size by omega)).trans hHeld.2.2.1
                  have z3 := (hq.cell (p := ⟨b3, o3 + d * 2 + 1, none⟩) (show b3 < wv.heap.size by omega)).trans hHeld.2.2.2
                  refine hK.out _ _ ⟨z0, z1, z2, z3⟩ (fun hH12 => ?_)
                  clear hK K z0  z1  z2  z3
                  (try simp only [Act.put, List.setIfInBounds_toArray, List.set_cons_zero, List.set_cons_succ])
                  have sa13 : Below wv.heap.size wv wa11 := sV.trans (hq.mono sV.size)
                  have na14 := Blk.keep (w := wv.drew) nV hq
                  clear hq
                  have hlwa11 : wv.heap.size ≤ wa11.heap.size := sa13.size
                  clear cN0 cN1
                  have cN0 := na14.cell (j := 0) rfl
                  have cN1 := na14.cell (j := 1) rfl
                  have fr0 := na14.frozen 0
                  have fr1 := na14.frozen 1
                  refine wpAnyH_ready (rs := [0]) (by kernel_rfl) (by simp) ?_
                  refine AllReadyH.cons rfl (fun K hK => ?_) AllReadyH.nil
                  go_simp
                  refine hK.out _ _ ?_ (fun hH15 => ?_)
                  · ((try dsimp only); go_keep)
                  clear hK K
                  (try simp only [Act.put, List.setIfInBounds_toArray, List.set_cons_zero, List.set_cons_succ])
                  refine wpAnyH_ready (rs := [9]) (by kernel_rfl) (by simp) ?_
                  refine AllReadyH.cons rfl (fun K hK => ?_) AllReadyH.nil
                  go_simp
                  go_at_call 14
                  refine (HADD.out _).mono ?_
                  rintro e' wa16 ⟨hq, rfl⟩
                  dsimp only
                  have z0 := (hq.cell (p := ⟨A, 0, none⟩) (show A < wa11.heap.size by omega)).trans hH15.1
                  have z1 := (hq.cell (p := ⟨A, 1, none⟩) (show A < wa11.heap.size by omega)).trans hH15.2.1
                  have z2 := (hq.cell (p := ⟨b3, o3 + d * 2, none⟩) (show b3 < wa11.heap.size by omega)).trans hH15.2.2.1
                  have z3 := (hq.cell (p := ⟨b3, o3 + d * 2 + 1, none⟩) (show b3 < wa11.heap.size by omega)).trans hH15.2.2.2
                  refine hK.out _ _ ⟨z0, z1, z2, z3⟩ (fun hH17 => ?_)
                  clear hK K z0  z1  z2  z3
                  (try simp only [Act.put, List.setIfInBounds_toArray, List.set_cons_zero, List.set_cons_succ])
                  have sa18 : Below wv.heap.size wv wa16 := sa13.trans (hq.mono sa13.size)
                  have na19 := Blk.keep (w := wa11) na14 hq
                  clear hq
                  have hlwa16 : wv.heap.size ≤ wa16.heap.size := sa18.size
                  clear cN0 cN1
                  have cN0 := na19.cell (j := 0) rfl
                  have cN1 := na19.cell (j := 1) rfl
                  have fr0 := na19.frozen 0
                  have fr1 := na19.frozen 1
                  refine wpAnyH_ready (rs := [10]) (by kernel_rfl) (by simp) ?_
                  refine AllReadyH.cons rfl (fun K hK => ?_) AllReadyH.nil
                  go_simp
                  refine hK.out _ _ ?_ (fun hH20 => ?_)
                  · ((try dsimp only); go_keep)
                  clear hK K
                  (try simp only [Act.put, List.setIfInBounds_toArray, List.set_cons_zero, List.set_cons_succ])
                  refine wpAnyH_done (by kernel_rfl) ?_ _
                  (try simp only [List.getElem_toArray, List.getElem_cons_zero, List.getElem_cons_succ, Act.put, List.setIfInBounds_toArray, List.set_cons_zero, List.set_cons_succ])
                  go_wp2_with fail
                  go_roundw
                  case rel => exact ⟨j + 1, by omega, by go_num, ((HBV.out.trans (sa18.mono HBV.out.size)).setCell (p := ⟨w4.heap.size, 0, none⟩) (Nat.le_refl _) _).setCell (p := ⟨w4.heap.size, 1, none⟩) (Nat.le_refl _) _, by rw [← HMS.out]; exact (na19.set 0 _).set 1 _⟩
                  case measure => simp [intOf]; omega
              · have tjk : decide ((j : Int) ≤ (k : Int)) = false := by simp; omega
                rw [if_neg hjk, Int.add_zero] at hesu
                have k5 := hblk.keep sT
                have hBV := hbe.trans (sT.mono hvs)
                have HESUJ := Lib.hid hesu; clear hesu
                have K5 := Lib.hid k5; clear k5
                have HBV := Lib.hid hBV; clear hBV
                clear hMs hy1 hy2 hy3 hbc2 hblk hbe swu bT sT
                go_wp2_with fail
                go_roundw
                case rel => exact ⟨j + 1, by omega, by go_num, HBV.out, by rw [HESUJ.out]; exact K5.out⟩
                case measure => simp [intOf]; omega
            · have hje : j = m2 := by omega
              have tj : decide ((j : Int) < (m2 : Int)) = false := by simp; omega
              rw [hje, HAL.out] at hblk
              obtain ⟨hN1, hN2⟩ := HNG.out k
              obtain ⟨Z, hZ⟩ : ∃ Z, Z = N.getD k 0 := ⟨_, rfl⟩
              rw [← hZ] at hblk hN1 hN2
              have hneq : ∀ w', (binOp .neq 28 (.agg #[.bool (ineg Z), .string (imag Z)]) (.agg #[.bool (ineg Z), .string (imag Z)])).run Try.prog w' = .ok (.bool false) w' := fun w' => by rw [neq_int]; simp
              have hix1 : (0 : Int) ≤ (k : Int) := by omega
              have HBK := Lib.hid hblk; clear hblk
              have HBE := Lib.hid hbe; clear hbe
              clear hje hZ
              go_wp2_with fail
              go_at_call 11
              refine (HOF.out _).mono ?_
              rintro e w5 ⟨hq, rfl⟩
              have hb5 := HBE.out.trans (hq.mono hvs)
              have k5 := HBK.out.keep hq
              have b5 := Blk.new w5 28 [.bool (ineg 0), .string (imag 0)]
              have s5 := (Below.refl w5.heap.size w5).alloc (Nat.le_refl _) (.cells #[.bool (ineg 0), .string (imag 0)] 28)
              have hk5l := k5.lt
              have hsz5 := hb5.size
              have ne1 : ¬ w4.heap.size = w5.heap.size := by omega
              have ne2 : ¬ w5.heap.size = w4.heap.size := by omega
              by_cases hkl : k < m1
              · have tl : decide ((k : Int) < (m1 : Int)) = true := by simp; omega
                have hix2 : (k : Int) < (m1 : Int) := by omega
                obtain ⟨z, hz1, hz2⟩ := hN1 hkl
                rw [← hz2] at hz1
                obtain ⟨b1, o1, rfl, hb1o, hbc1⟩ := HR1.out.at_ (by omega)
                have s5w := (S4.out.trans (hb5.mono S4.out.size)).alloc (by have := S4.out.size; omega) (.cells #[.bool (ineg 0), .string (imag 0)] 28)
                obtain ⟨q0, q1⟩ := int_cells hbc1 s5w hb1o hz1
                have k6 := k5.alloc (.cells #[.bool (ineg Z), .string (imag Z)] 28)
                have n6 := Blk.new w5 28 [.bool (ineg Z), .string (imag Z)]
                have s6 := (Below.refl w5.heap.size w5).alloc (Nat.le_refl _) (.cells #[.bool (ineg Z), .string (imag Z)] 28)
                have hf := B4.out.trans ((hb5.trans (s6.mono hsz5)).mono hsz4)
                have f0 := b5.frozen 0
                have f1 := b5.frozen 1
                have g0 := b5.cell (j := 0) rfl
                have g1 := b5.cell (j := 1) rfl
                have u0 := k6.cell (j := 0) rfl
                have u1 := k6.cell (j := 1) rfl
                have u2 := n6.cell (j := 0) rfl
                have u3 := n6.cell (j := 1) rfl
                have HF := Lib.hid hf; clear hf
                clear hq hb5 k5 b5 s5 hz1 hz2 hN1 hN2 hbc1 s5w k6 n6 s6
                go_wp2_with fail
                go_roundw
                case rel => exact ⟨k + 1, by omega, by go_num, HF.out⟩
                case measure => simp [intOf]; omega
              · have tl : decide ((k : Int) < (m1 : Int)) = false := by simp; omega
                have hz0 := hN2 hkl
                have k6 := k5.alloc (.cells #[.bool (ineg 0), .string (imag 0)] 28)
                have hf := B4.out.trans ((hb5.trans (s5.mono hsz5)).mono hsz4)
                rw [hz0] at k6 hneq
                have u0 := k6.cell (j := 0) rfl
                have u1 := k6.cell (j := 1) rfl
                have u2 := b5.cell (j := 0) rfl
                have u3 := b5.cell (j := 1) rfl
                have HF := Lib.hid hf; clear hf
                clear hq hb5 k5 b5 s5 hN1 hN2 k6 hz0
                go_wp2_with fail
                go_roundw
                case rel => exact ⟨k + 1, by omega, by go_num, HF.out⟩
                case measure => simp [intOf]; omega
        · have tk : decide ((k : Int) < (n : Int)) = false := by simp; omega
          have HBEL := Lib.hid hbel; clear hbel
          go_wp2_with fail
          go_at_call 10
          refine (HAW.out _).mono ?_
          rintro e w5 ⟨hq, rfl⟩
          have HQ := Lib.hid hq; clear hq
          go_wp2_with fail
          go_ret
          exact ⟨(S3.out.trans (HBEL.out.mono S3.out.size)).trans (HQ.out.mono (S3.out.trans (HBEL.out.mono S3.out.size)).size), rfl⟩
theorem lexp_all (l1 l2 : List (Bool × ByteArray)) (v1 v2 : Value) (a1 : Nat) (w : World) (hr1 : Row w v1 l1.length (cnv l1)) (hr2 : Row w v2 l2.length (cnv l2)) (h1 : a1 ≤ 255) :
    Calls Try.prog 6 #[v1, v2, .int .u8 (a1 : Int)] w (Ret w (.bool true)) := by
  by_cases hG : GLP l1 ∧ GLP l2
  · rcases expand_cases l1 l2 hG.1 hG.2 (a1 % 31) (by omega) with ⟨E, hE0, hE⟩ | ⟨N, D, rfl, rfl, hN, hD, hD0, hone, sN, sD, hE⟩
    · exact lexp_err l1 l2 v1 v2 a1 _ E w hr1 hr2 h1 rfl hE0 hE
    · exact lexp_ok N D v1 v2 a1 _ w hr1 hr2 h1 rfl hN hD hD0 hone sN sD hE
  · exact lexp_bad l1 l2 v1 v2 a1 w hr1 hr2 hG
end Go.Proofs.Ythpgeeaccmgbkaa

/- Contracts and plain laws of several functions, one after the other: RSq, RChar, PsD, PsE. -/
import Derived.Deep.QuietTactic
import Derived.Test.YthpgeeaccmgbkaaGreatRDetm
import Derived.Test.YthpgeeaccmgbkaaGreatPart12
import Derived.Test.YthpgeeaccmgbkaaGreatRMinB
import Derived.Test.YthpgeeaccmgbkaaGreatPart14
import Derived.Test.YthpgeeaccmgbkaaGreatPart17
/- grooveref04.Check and square at a square matrix of canonical integers. -/
namespace Go.Proofs.YthpgeeaccmgbkaaGreat
open Go.RowKit

theorem cnB_can (z : Int) : cnB (ineg z) (imag z) = true := by rw [cnB_iff, ival_canon]; exact ⟨rfl, rfl⟩
set_option maxRecDepth 100000 in
set_option maxHeartbeats 3200000 in
theorem rcheck04_any (n p : Nat) (A : List (List Int)) (v : Value) (w : World) (hA : Tab w v A) (hS : Sq n p A) (hn1 : 1 ≤ n) (hn : n ≤ 32) (hp : p ≤ 1000000) :
  Calls Tryz.prog 117 #[v] w (Ret w (.int .i64 0)) := by
 obtain ⟨rvs0, hr1, hr2, hr3⟩ := hA
 rw [hS.1] at hr1 hr2
 obtain ⟨va, vc, rfl, hle⟩ := hr2.slice
 obtain ⟨bv, ov, rfl, hbv, hcv⟩ := hr2.at_ (by omega)
 have hget : ∀ i, i < n → ∃ r, A[i]? = some r ∧ r.length = n ∧ (∀ j, j < n → ∃ x, r[j]? = some x ∧ sm p x) := fun i hi => by
  have hi' : i < A.length := by rw [hS.1]; exact hi
  have hl := hS.2.1 A[i] (List.getElem_mem hi')
  refine ⟨A[i], List.getElem?_eq_getElem hi', hl, fun j hj => ⟨A[i][j]'(by omega), List.getElem?_eq_getElem _, hS.2.2 _ (List.getElem_mem hi') _ (List.getElem_mem _)⟩⟩
 have hrow : ∀ i, i < n → ∃ ra rc, w.cell? ⟨bv, ov + i, none⟩ = some (.slice ra n rc) ∧ ∃ r, A[i]? = some r ∧ Row w (.slice ra n rc) n (civ r) ∧ (∀ j, j < n → ∃ x, r[j]? = some x ∧ sm p x) := fun i hi => by
  obtain ⟨r, h1, h2, h3⟩ := hget i hi
  obtain ⟨rv, h4, h5⟩ := hr3 i r h1
  rw [h2] at h5
  obtain ⟨ra, rc, rfl, -⟩ := h5.slice
  exact ⟨ra, rc, hcv i _ h4, r, h1, h5, h3⟩
 have hck := fun (z : Int) w' (h : sm p z) => rcheck01_any (ineg z) (imag z) w' (Nat.le_trans h.size (by omega))
 simp only [cnB_can] at hck
 obtain ⟨a0, c0, h0, -⟩ := hrow 0 (by omega)
 rw [Nat.add_zero] at h0
 have n1 : ((n : Int) == 0) = false := by simp; omega
 have n2 : decide (32 < (n : Int)) = false := by simp; omega
 have n3 : (0 : Int) < (n : Int) := by omega
 have n4 : 0 < n := by omega
 have n5 : ¬ 32 < n := by omega
 have n6 : ¬ n = 0 := by omega
 have h0' := h0
 have HROW := Lib.hid hrow; clear hrow
 have HCK := Lib.hid hck; clear hck
 have H0 := Lib.hid h0'; clear h0'
 clear hr1 hr2 hr3 hget hcv hS
 go_enter Tryz.func117, Tryz.ntmps117
 go_wp2_with fail
 go_loopw [3] (fun i wr => ∃ k : Nat, k ≤ n ∧ i = .int .i64 (k : Int) ∧ Below w.heap.size w wr) (fun i _ => n - (intOf i).toNat)
 case atStart => exact ⟨0, Nat.zero_le _, rfl, Below.refl _ _⟩
 case round =>
  obtain ⟨k, hk, rfl, hbel⟩ := hrel
  by_cases hkn : k < n
  ·
   have tk : decide ((k : Int) < (n : Int)) = true := by simp; omega
   obtain ⟨ra, rc, hh, -⟩ := HROW.out k hkn
   have g0 := (hbel.cell (p := ⟨bv, ov, none⟩) hbv).trans H0.out
   have g1 := (hbel.cell (p := ⟨bv, ov + k, none⟩) hbv).trans hh
   have hix1 : (0 : Int) ≤ (k : Int) := by omega
   have hix2 : (k : Int) < (n : Int) := by omega
   have HBEL := Lib.hid hbel; clear hbel
   clear hh h0
   go_wp2_with fail
   go_quiet (fail)
   go_wp2_with fail
   go_roundw
   case rel => exact ⟨k + 1, by omega, by go_num, below_drewN HBEL.out _⟩
   case measure => simp [intOf]; omega
  ·
   have tk : decide ((k : Int) < (n : Int)) = false := by simp; omega
   have HBEL := Lib.hid hbel; clear hbel
   clear h0
   obtain ⟨wz, hwz⟩ : ∃ wz : World, wz = wr := ⟨_, rfl⟩
   rw [← hwz] at HBEL
   go_wp2_with fail
   rw [← hwz]
   clear hwz
   go_loopw [4, 5] (fun i _ wr => ∃ k : Nat, k ≤ n ∧ i = .int .i64 (k : Int) ∧ Below w.heap.size w wr) (fun i _ _ => n - (intOf i).toNat)
   case atStart => exact ⟨0, Nat.zero_le _, rfl, HBEL.out⟩
   case round =>
    obtain ⟨i, hi, rfl, hbe⟩ := hrel
    obtain ⟨wo, rfl⟩ : ∃ wo : World, wo = wr := ⟨_, rfl⟩
    by_cases hin : i < n
    ·
     have ti : decide ((i : Int) < (n : Int)) = true := by simp; omega
     obtain ⟨ra, rc, hh, r, hrA, hrw, hent⟩ := HROW.out i hin
     obtain ⟨br, orr, rfl, hbr, hcr⟩ := hrw.at_ (by omega)
     have hix1 : (0 : Int) ≤ (i : Int) := by omega
     have hix2 : (i : Int) < (n : Int) := by omega
     have HBE := Lib.hid hbe; clear hbe
     have HH := Lib.hid hh; clear hh
     have HCR := Lib.hid hcr; clear hcr
     have HENT := Lib.hid hent; clear hent
     clear hrA hrw
     go_wp2_with fail
     go_loopw [5] (fun j wr => ∃ k : Nat, k ≤ n ∧ j = .int .i64 (k : Int) ∧ Below w.heap.size w wr) (fun j _ => n - (intOf j).toNat)
     case atStart => exact ⟨0, Nat.zero_le _, rfl, HBE.out⟩
     case round =>
      obtain ⟨j, hj, rfl, hb⟩ := hrel
      have g1 := (hb.cell (p := ⟨bv, ov + i, none⟩) hbv).trans HH.out
      by_cases hjn : j < n
      ·
       have tj : decide ((j : Int) < (n : Int)) = true := by simp; omega
       obtain ⟨x, hx, hs⟩ := HENT.out j hjn
       obtain ⟨q0, q1⟩ := int_cells HCR.out hb hbr hx
       have hix3 : (0 : Int) ≤ (j : Int) := by omega
       have hix4 : (j : Int) < (n : Int) := by omega
       have hcx := fun w' => HCK.out x w' hs
       simp only [chkZ] at hcx
       have HB := Lib.hid hb; clear hb
       have HCX := Lib.hid hcx; clear hcx
       clear hx hs
       go_wp2_with fail
       go_at_call 62
       refine (HCX.out _).mono ?_
       rintro e w3 ⟨hq, rfl⟩
       have hb3 := HB.out.trans (hq.mono HB.out.size)
       have HB3 := Lib.hid hb3; clear hb3
       clear hq q0 q1 g1
       go_wp2_with fail
       go_roundw
       case rel => exact ⟨j + 1, by omega, by go_num, HB3.out⟩
       case measure => simp [intOf]; omega
      ·
       have tj : decide ((j : Int) < (n : Int)) = false := by simp; omega
       have HB := Lib.hid hb; clear hb
       go_wp2_with fail
       go_roundw
       case rel => exact ⟨i + 1, by omega, by go_num, HB.out⟩
       case measure => simp [intOf]; omega
    ·
     have ti : decide ((i : Int) < (n : Int)) = false := by simp; omega
     have HBE := Lib.hid hbe; clear hbe
     go_wp2_with fail
     go_ret
     exact ⟨HBE.out, rfl⟩
set_option maxRecDepth 100000 in
set_option maxHeartbeats 3200000 in
theorem rsquare_any (n p : Nat) (A : List (List Int)) (v : Value) (w : World) (hA : Tab w v A) (hS : Sq n p A) (hn1 : 1 ≤ n) (hn : n ≤ 32) (hp : p ≤ 1000000) :
  Calls Tryz.prog 94 #[v] w (Ret w (.int .i64 0)) := by
 have hck := rcheck04_any n p A v w hA hS hn1 hn hp
 obtain ⟨rvs0, hr1, hr2, hr3⟩ := hA
 rw [hS.1] at hr1 hr2
 obtain ⟨va, vc, rfl, hle⟩ := hr2.slice
 obtain ⟨bv, ov, rfl, hbv, hcv⟩ := hr2.at_ (by omega)
 obtain ⟨ra, rc, h0⟩ : ∃ ra rc, w.cell? ⟨bv, ov, none⟩ = some (.slice ra n rc) := by
  have hi' : 0 < A.length := by rw [hS.1]; omega
  obtain ⟨rv, h4, h5⟩ := hr3 0 A[0] (List.getElem?_eq_getElem hi')
  rw [hS.2.1 A[0] (List.getElem_mem hi')] at h5
  obtain ⟨ra, rc, rfl, -⟩ := h5.slice
  have := hcv 0 _ h4
  rw [Nat.add_zero] at this
  exact ⟨ra, rc, this⟩
 have n3 : (0 : Int) < (n : Int) := by omega
 have n4 : 0 < n := by omega
 have HCK := Lib.hid hck; clear hck
 have H0 := Lib.hid h0; clear h0
 clear hr1 hr2 hr3 hcv hS
 go_enter Tryz.func94, Tryz.ntmps94
 go_wp2_with fail
 go_at_call 117
 refine HCK.out.mono ?_
 rintro e w1 ⟨hq, rfl⟩
 have g0 := (hq.cell (p := ⟨bv, ov, none⟩) hbv).trans H0.out
 have HQ := Lib.hid hq; clear hq
 go_wp2_with fail
 go_ret
 exact ⟨HQ.out, rfl⟩
end Go.Proofs.YthpgeeaccmgbkaaGreat

/- grooveref04.minors whole, Characteristic at a square matrix. -/
namespace Go.Proofs.YthpgeeaccmgbkaaGreat
open Go.RowKit

theorem minors_any (S p : Nat) (A : List (List Int)) (v : Value) (hS : Sq S p A) (hS1 : S ≤ 32) (hp : p ≤ 1000) : ∀ (n f : Nat) (T : List Nat) (tv : Value) (w : World), Tab w v A → Row w tv T.length (ci (nz T)) → (∀ t ∈ T, t < S) → T.length + n ≤ 100 → f ≤ S →
  Calls Tryz.prog 96 #[v, .int .i64 (f : Int), .int .i64 (n : Int), tv] w (Ret w (IntV (mnS A S n f T)))
 | 0, f, T, tv, w, hA, hT, ht, hl, _ => minors_zero S p A v tv T f w hA hS (by omega) hp hT ht (by omega)
 | n + 1, f, T, tv, w, hA, hT, ht, hl, hf =>
  minors_step S p n f A v tv T w hA hS hS1 hp hT ht hl hf fun d tv' w' hd hA' hT' => by
   refine minors_any S p A v hS hS1 hp n (f + d + 1) (T ++ [f + d]) tv' w' hA' ?_ (fun t h => ?_) (by simp; omega) (by omega)
   ·
    rw [List.length_append]; exact hT'
   ·
    rcases List.mem_append.1 h with h1 | h1
    ·
     exact ht t h1
    ·
     rw [List.mem_singleton.1 h1]; omega
/-- The reference's characteristic polynomial. -/
def chR (A : List (List Int)) (S k : Nat) : Int := sgI (S - k) (mnS A S (S - k) 0 [])
def chL (A : List (List Int)) (S k : Nat) : List Int := (List.range k).map (chR A S)
theorem chL_len (A : List (List Int)) (S k : Nat) : (chL A S k).length = k := by simp [chL]
theorem chL_succ (A : List (List Int)) (S k : Nat) : chL A S (k + 1) = chL A S k ++ [chR A S k] := by simp [chL, List.range_succ]
set_option maxRecDepth 100000 in
set_option maxHeartbeats 3200000 in
theorem rchar_any (S p : Nat) (A : List (List Int)) (v : Value) (w : World) (hA : Tab w v A) (hS : Sq S p A) (h1 : 1 ≤ S) (hS1 : S ≤ 32) (hp : p ≤ 1000) :
  Calls Tryz.prog 56 #[v] w (LstRet (chL A S (S + 1)) 0 w) := by
 have hsq := rsquare_any S p A v w hA hS h1 hS1 (by omega)
 obtain ⟨i0, hi, hz0, hz1, hz2⟩ := info_parts infoZ
 have hA0 := hA
 obtain ⟨rvs0, hr1, hr2, hr3⟩ := hA
 rw [hS.1] at hr1 hr2
 obtain ⟨va, vc, rfl, hle⟩ := hr2.slice
 have hmn := fun (n : Nat) (hn : n ≤ S) w' h => minors_any S p A (.slice va S vc) hS hS1 hp n 0 [] (.slice none 0 0) w' h (Row.nil w') (by simp) (by simp; omega) (by omega)
 have hmb := fun (n : Nat) (hn : n ≤ S) => (mnS_sm hS hS1 n 0 [] (by omega) (by simp) (by simp; omega)).1
 have hsuc := chL_succ A S
 have hlen := chL_len A S
 have hch : ∀ k, chR A S k = sgI (S - k) (mnS A S (S - k) 0 []) := fun k => rfl
 obtain ⟨L, hL⟩ : ∃ L, L = chL A S := ⟨_, rfl⟩
 have hL0 : L 0 = [] := by rw [hL]; rfl
 rw [← hL] at hsuc hlen ⊢
 have HSQ := Lib.hid hsq; clear hsq
 have HMN := Lib.hid hmn; clear hmn
 have HMB := Lib.hid hmb; clear hmb
 have HSUC := Lib.hid hsuc; clear hsuc
 have HCH := Lib.hid hch; clear hch
 have HL0 := Lib.hid hL0; clear hL0
 have HLEN := Lib.hid hlen; clear hlen
 have HA := Lib.hid hA0; clear hA0
 clear hr1 hr2 hr3 hL hS
 go_enter Tryz.func56, Tryz.ntmps56
 go_wp2_with fail
 go_at_call 94
 refine HSQ.out.mono ?_
 rintro e w1 ⟨hq, rfl⟩
 have hTa := HA.out.below hq (Nat.le_refl _)
 have hmd := World.ownsRow_made w1 (#[] : Array Value) 0 (base := w1.heap.size) (e := 28) (size := 2) (Nat.le_refl _) (Nat.zero_le _) rfl
 have s1 := (Below.refl w1.heap.size w1).alloc (Nat.le_refl _) (.cells #[] 28)
 obtain ⟨w2, hw2⟩ : ∃ w2, w1.alloc (.cells #[] 28) = w2 := ⟨_, rfl⟩
 rw [hw2] at hmd s1
 have HQ := Lib.hid hq; clear hq
 have HTA := Lib.hid hTa; clear hTa
 have HMD := Lib.hid hmd; clear hmd
 have S1 := Lib.hid s1; clear s1
 go_wp2_with fail
 (try rw [hw2])
 clear hw2
 go_loopw [5, 6, 7] (fun u i _ wr => ∃ k : Nat, k ≤ S + 1 ∧ i = .int .i64 (k : Int) ∧ Below w1.heap.size w1 wr ∧ wr.ownsRow w1.heap.size 28 2 u k (civ (L k))) (fun _ i _ _ => S + 1 - (intOf i).toNat)
 case atStart => exact ⟨0, Nat.zero_le _, rfl, S1.out, by rw [HL0.out]; exact HMD.out⟩
 case round =>
  obtain ⟨k, hk, rfl, hbel, hown⟩ := hrel
  have hszr := hbel.size
  by_cases hkS : k ≤ S
  ·
   have tk : decide ((k : Int) ≤ (S : Int)) = true := by simp; omega
   obtain ⟨n, hn⟩ : ∃ n, n = S - k := ⟨_, rfl⟩
   have hnw : IntKind.i64.wrap ((S : Int) - (k : Int)) = (n : Int) := by rw [show (S : Int) - (k : Int) = (n : Int) by omega]; exact IntWalk.i64_in _ (by omega)
   have hmn := HMN.out n (by omega)
   have hmb := HMB.out n (by omega)
   have hst := HSUC.out k
   rw [HCH.out k, ← hn] at hst
   obtain ⟨X, hX⟩ : ∃ X, X = mnS A S n 0 [] := ⟨_, rfl⟩
   rw [← hX] at hst hmb
   simp only [← hX] at hmn
   have hsg := fun w' => signed_any n X w' (by omega) (Nat.le_trans hmb.size (by omega))
   obtain ⟨Z, hZ⟩ : ∃ Z, Z = sgI n X := ⟨_, rfl⟩
   rw [← hZ] at hst hsg
   have hTo := HTA.out.below hbel (Nat.le_refl _)
   obtain ⟨a, cap, rfl⟩ := own_slice hown
   have HM := Lib.hid hmn; clear hmn
   have HSG := Lib.hid hsg; clear hsg
   have HST := Lib.hid hst; clear hst
   have HTO := Lib.hid hTo; clear hTo
   have HBEL := Lib.hid hbel; clear hbel
   have HOWN := Lib.hid hown; clear hown
   clear hX hZ hmb hn
   go_wp2_with fail
   go_at_call 96
   refine (HM.out _ HTO.out).mono ?_
   rintro e w3 ⟨hq3, rfl⟩
   have ho3 := own_below HOWN.out hq3
   have hb3 := HBEL.out.trans (hq3.mono hszr)
   have HO3 := Lib.hid ho3; clear ho3
   have HB3 := Lib.hid hb3; clear hb3
   clear hq3
   go_wp2_with fail
   go_at_call 95
   refine (HSG.out _).mono ?_
   rintro e w4 ⟨hq4, rfl⟩
   have ho4 := own_below HO3.out hq4
   have hb4 := HB3.out.trans (hq4.mono HB3.out.size)
   have hsz4 := hb4.size
   have HO2 := Lib.hid ho4; clear ho4
   have HB2 := Lib.hid hb4; clear hb4
   clear hq4
   go_wp2_with (at_builtin; refine wpList_append_lies _ rfl (.tmp 24) (.tmp 30) 32 rfl w1.heap.size 28 i0 _ 2 24 Tryz.underlying32 hi hz0 hz1 hz2 rfl (by decide) _ _ _ rfl (HO2.out.alloc _) _ 1 1 [.bool (ineg Z), .string (imag Z)] rfl rfl (World.news_of_block (heap_alloc_new _ _)) (by simp [Value.oneCell']) (by omega) (by unfold maxLen; omega) (by omega) (by simp; omega) _ rfl ?_; intro g cap' w5 hown' hg hat hlt'; have HG := Lib.hid hg; clear hg; have HO4 := Lib.hid hown'; clear hown'; have HAT := Lib.hid hat; clear hat)
   go_roundw
   case rel =>
    refine ⟨k + 1, by omega, by go_num, (HB2.out.alloc hsz4 _).grown HG.out (by simp; omega) (fun j hj => (HO2.out.lt j hj).1), ?_⟩
    rw [HST.out, civ_snoc]; exact HO4.out
   case measure => simp [intOf]; omega
  ·
   have hkS2 : k = S + 1 := by omega
   have tk : decide ((k : Int) ≤ (S : Int)) = false := by simp; omega
   have hb2 := HQ.out.trans (hbel.mono HQ.out.size)
   rw [hkS2] at hown
   have hrw := own_row hown
   have HB2 := Lib.hid hb2; clear hb2
   have HRW := Lib.hid hrw; clear hrw
   clear hown hbel hkS2
   go_wp2_with fail
   go_ret2
   exact ⟨HB2.out, _, rfl, by rw [HLEN.out]; exact HRW.out⟩
end Go.Proofs.YthpgeeaccmgbkaaGreat

/- Determinants by expanding the first row, of power series; sums of principal minors are the characteristic polynomial; plain. -/
namespace Go.Proofs.YthpgeeaccmgbkaaGreat

theorem pm_subr (f g g' : PS) (n : Nat) : pm f (fun k => g k - g' k) n = pm f g n - pm f g' n := by
 have h := pm_addr f (fun k => g k - g' k) g' n
 have e : (fun k => (g k - g' k) + g' k) = g := by funext k; omega
 rw [e] at h
 omega
theorem pm_subl (f f' g : PS) (n : Nat) : pm (fun k => f k - f' k) g n = pm f g n - pm f' g n := by
 rw [pm_comm, pm_subr, pm_comm f, pm_comm f']
theorem pm_negr (f g : PS) (n : Nat) : pm f (fun k => - g k) n = - pm f g n := by
 have h := pm_smulr (-1) f g n
 have e : (fun k => (-1) * g k) = fun k => - g k := by funext k; omega
 rw [e] at h
 omega
theorem pm_zeror (f : PS) (n : Nat) : pm f (fun _ => 0) n = 0 := by rw [pm_comm, pm_zerol]
theorem pm_lcomm (f g h : PS) : pm f (pm g h) = pm g (pm f h) := by rw [← pm_assoc, pm_comm f g, pm_assoc]
theorem psz_sub (f g : PS) (n : Nat) : psz (fun k => f k - g k) n = psz f n - psz g n := by cases n <;> simp [psz]
/-- A row is expanded. -/
def E1 (r : Nat → PS) (g : List Nat → PS) : List Nat → PS
 | [] => fun _ => 0
 | c :: C => fun n => pm (r c) (g C) n - E1 r (fun D => g (c :: D)) C n
/-- A determinant: the rows as functions, and the columns. -/
def dtP : List (Nat → PS) → List Nat → PS
 | [], _ => psC 1
 | r :: R, C => E1 r (dtP R) C
theorem E1_cons (r : Nat → PS) (g : List Nat → PS) (c : Nat) (C : List Nat) (n : Nat) : E1 r g (c :: C) n = pm (r c) (g C) n - E1 r (fun D => g (c :: D)) C n := rfl
theorem E1_congr {r r' : Nat → PS} {C : List Nat} : ∀ {g g' : List Nat → PS}, (∀ c ∈ C, r c = r' c) → (∀ D, D.Sublist C → g D = g' D) → E1 r g C = E1 r' g' C := by
 induction C with
 | nil => intros; rfl
 | cons c C ih =>
  intro g g' hr hg
  funext n
  rw [E1_cons, E1_cons, hr c (by simp), hg C (List.sublist_cons_self c C), ih (fun x hx => hr x (by simp [hx])) (fun D hD => hg (c :: D) (hD.cons_cons c))]
theorem E1_add (r : Nat → PS) (C : List Nat) : ∀ (g h : List Nat → PS) (n : Nat), E1 r (fun D k => g D k - h D k) C n = E1 r g C n - E1 r h C n := by
 induction C with
 | nil => intros; rfl
 | cons c C ih =>
  intro g h n
  rw [E1_cons, E1_cons, E1_cons, pm_subr, ih (fun D => g (c :: D)) (fun D => h (c :: D))]
  omega
theorem E1_neg (r : Nat → PS) (C : List Nat) : ∀ (g : List Nat → PS) (n : Nat), E1 r (fun D k => - g D k) C n = - E1 r g C n := by
 induction C with
 | nil => intros; rfl
 | cons c C ih =>
  intro g n
  rw [E1_cons, E1_cons, pm_negr, ih (fun D => g (c :: D))]
  omega
theorem E1_pm (p : PS) (r : Nat → PS) (C : List Nat) : ∀ (g : List Nat → PS) (n : Nat), E1 r (fun D => pm p (g D)) C n = pm p (E1 r g C) n := by
 induction C with
 | nil => intro g n; exact (pm_zeror p n).symm
 | cons c C ih =>
  intro g n
  have e : E1 r g (c :: C) = fun k => pm (r c) (g C) k - E1 r (fun D => g (c :: D)) C k := rfl
  rw [E1_cons, e, pm_subr, pm_lcomm, ih (fun D => g (c :: D))]
theorem E1_z (r : Nat → PS) (C : List Nat) : ∀ (g : List Nat → PS) (n : Nat), E1 r (fun D => psz (g D)) C n = psz (E1 r g C) n := by
 induction C with
 | nil => intro g n; cases n <;> rfl
 | cons c C ih =>
  intro g n
  have e : E1 r g (c :: C) = fun k => pm (r c) (g C) k - E1 r (fun D => g (c :: D)) C k := rfl
  rw [E1_cons, e, psz_sub, pm_zr, ih (fun D => g (c :: D))]
theorem E1_zero {r : Nat → PS} {C : List Nat} : ∀ {g : List Nat → PS}, (∀ D, D.Sublist C → g D = fun _ => 0) → E1 r g C = fun _ => 0 := by
 induction C with
 | nil => intros; rfl
 | cons c C ih =>
  intro g hg
  funext n
  rw [E1_cons, hg C (List.sublist_cons_self c C), ih (fun D hD => hg (c :: D) (hD.cons_cons c)), pm_zeror]
  rfl
theorem E1_zerorow {r : Nat → PS} {C : List Nat} (g : List Nat → PS) (hr : ∀ c ∈ C, r c = fun _ => 0) : E1 r g C = fun _ => 0 := by
 induction C generalizing g with
 | nil => rfl
 | cons c C ih =>
  funext n
  rw [E1_cons, hr c (by simp), ih (fun D => g (c :: D)) (fun x hx => hr x (by simp [hx])), pm_zerol]
  rfl
/-- Two rows that change places. -/
theorem E1_swap (r s : Nat → PS) (C : List Nat) : ∀ (g : List Nat → PS) (n : Nat), E1 r (E1 s g) C n = - E1 s (E1 r g) C n := by
 induction C with
 | nil => intros; rfl
 | cons c C ih =>
  intro g n
  rw [E1_cons, E1_cons]
  have e0 : E1 r (E1 s (fun D => g (c :: D))) C n = - E1 s (E1 r (fun D => g (c :: D))) C n := ih (fun D => g (c :: D)) n
  have e1 : (fun D => E1 s g (c :: D)) = fun D k => pm (s c) (g D) k - E1 s (fun D => g (c :: D)) D k := rfl
  have e2 : (fun D => E1 r g (c :: D)) = fun D k => pm (r c) (g D) k - E1 r (fun D => g (c :: D)) D k := rfl
  rw [e1, e2, E1_add r C (fun D => pm (s c) (g D)), E1_add s C (fun D => pm (r c) (g D)), E1_pm, E1_pm, e0]
  omega
/-- A row that stands twice. -/
theorem dtP_dup {r : Nat → PS} : ∀ {R : List (Nat → PS)}, r ∈ R → ∀ (C : List Nat) (n : Nat), dtP (r :: R) C n = 0
 | [], h, _, _ => nomatch h
 | s :: R, h, C, n =>
  by
  have e : dtP (r :: s :: R) C n = - dtP (s :: r :: R) C n := E1_swap r s C (dtP R) n
  rcases List.mem_cons.1 h with h1 | h1
  ·
   subst h1
   omega
  ·
   have e2 : dtP (s :: r :: R) C = E1 s (dtP (r :: R)) C := rfl
   rw [e, e2, E1_zero (fun D _ => funext fun k => dtP_dup h1 D k)]
   rfl
theorem E1_linr {r s : Nat → PS} {C : List Nat} (g : List Nat → PS) (n : Nat) : E1 (fun c k => r c k - psz (s c) k) g C n = E1 r g C n - psz (E1 s g C) n := by
 induction C generalizing g n with
 | nil => cases n <;> rfl
 | cons c C ih =>
  have e : E1 s g (c :: C) = fun k => pm (s c) (g C) k - E1 s (fun D => g (c :: D)) C k := rfl
  rw [E1_cons, E1_cons, e, psz_sub, pm_subl, pm_zl, ih (fun D => g (c :: D))]
  omega
theorem dtP_linr {r s : Nat → PS} {R2 : List (Nat → PS)} : ∀ (R1 : List (Nat → PS)) (C : List Nat) (n : Nat), dtP (R1 ++ (fun c k => r c k - psz (s c) k) :: R2) C n = dtP (R1 ++ r :: R2) C n - psz (dtP (R1 ++ s :: R2) C) n
 | [], C, n => E1_linr (dtP R2) n
 | q :: R1, C, n =>
  by
  show E1 q (dtP (R1 ++ (fun c k => r c k - psz (s c) k) :: R2)) C n = E1 q (dtP (R1 ++ r :: R2)) C n - psz (E1 q (dtP (R1 ++ s :: R2)) C) n
  have e : dtP (R1 ++ (fun c k => r c k - psz (s c) k) :: R2) = fun D k => dtP (R1 ++ r :: R2) D k - psz (dtP (R1 ++ s :: R2) D) k := by
   funext D k; exact dtP_linr R1 D k
  rw [e, E1_add q C (dtP (R1 ++ r :: R2)) (fun D => psz (dtP (R1 ++ s :: R2) D)), E1_z]
/-- The row of a unit matrix. -/
def eP (u : Nat) : Nat → PS := fun c => psC (if u = c then 1 else 0)
theorem psC_zero : psC 0 = fun _ => 0 := by funext k; simp [psC]
theorem pm_one_l (f : PS) : pm (psC 1) f = f := by rw [pm_comm, pm_one]
def sgnP (k : Nat) (f : PS) : PS := fun n => if k % 2 = 0 then f n else - f n
theorem sgnP_zero (f : PS) : sgnP 0 f = f := rfl
theorem sgnP_succ (k : Nat) (f : PS) (n : Nat) : sgnP (k + 1) f n = - sgnP k f n := by
 unfold sgnP
 by_cases h : k % 2 = 0
 ·
  rw [if_pos h, if_neg (by omega)]
 ·
  rw [if_neg h, if_pos (by omega)]; omega
theorem sgnP_neg (k : Nat) (f : PS) (n : Nat) : sgnP k (fun j => - f j) n = - sgnP k f n := by
 unfold sgnP
 split <;> rfl
theorem sgnP_pm (k : Nat) (p f : PS) : pm p (sgnP k f) = sgnP k (pm p f) := by
 funext n
 unfold sgnP
 by_cases h : k % 2 = 0
 ·
  simp only [if_pos h]
 ·
  simp only [if_neg h]; exact pm_negr p f n
theorem E1_unit {u : Nat} (C2 : List Nat) (h2 : u ∉ C2) : ∀ (C1 : List Nat) (g : List Nat → PS), u ∉ C1 → E1 (eP u) g (C1 ++ u :: C2) = sgnP C1.length (g (C1 ++ C2))
 | [], g, _ =>
  by
  funext n
  rw [List.nil_append, List.nil_append, E1_cons, E1_zerorow _ (fun c hc => by
   have : ¬ u = c := fun h => h2 (h ▸ hc)
   rw [eP, if_neg this, psC_zero])]
  rw [eP, if_pos rfl, pm_one_l]
  show _ - (0 : Int) = g C2 n
  omega
 | c :: C1, g, h1 =>
  by
  have hc : ¬ u = c := fun h => h1 (by simp [h])
  funext n
  rw [List.cons_append, E1_cons, E1_unit C2 h2 C1 _ (fun h => h1 (by simp [h])), eP, if_neg hc, psC_zero, pm_zerol, List.length_cons, sgnP_succ]
  show (0 : Int) - _ = _
  rw [List.cons_append]
  omega
theorem E1_move {u : Nat} {r : Nat → PS} {C2 : List Nat} (h2 : u ∉ C2) : ∀ (C1 : List Nat) (g h : List Nat → PS), u ∉ C1 →
  (∀ D1 D2, D1.Sublist C1 → D2.Sublist C2 → g (D1 ++ u :: D2) = sgnP D1.length (h (D1 ++ D2))) → (∀ D, u ∉ D → g D = fun _ => 0) →
  E1 r g (C1 ++ u :: C2) = sgnP (C1.length + 1) (E1 r h (C1 ++ C2))
 | [], g, h, _, hg, h0 =>
  by
  funext n
  have e : E1 r (fun D => g (u :: D)) C2 = E1 r h C2 := E1_congr (fun _ _ => rfl) fun D hD => hg [] D (List.Sublist.refl _) hD
  rw [List.nil_append, List.nil_append, E1_cons, e, h0 C2 h2, pm_zeror, List.length_nil, sgnP_succ, sgnP_zero]
  omega
 | c :: C1, g, h, h1, hg, h0 =>
  by
  funext n
  have ih := E1_move (r := r) h2 C1 (fun D => g (c :: D)) (fun D k => - h (c :: D) k) (fun hh => h1 (by simp [hh]))
   (fun D1 D2 hD1 hD2 => by
    have := hg (c :: D1) D2 (hD1.cons_cons c) hD2
    rw [List.cons_append] at this
    rw [this]
    funext k
    rw [List.length_cons, sgnP_succ, sgnP_neg, List.cons_append])
   (fun D hD => h0 (c :: D) (fun hh => (List.mem_cons.1 hh).elim (fun e => h1 (by simp [e])) hD))
  have e1 := hg C1 C2 (List.sublist_cons_self c C1) (List.Sublist.refl _)
  rw [List.cons_append, E1_cons, ih, e1, sgnP_pm, List.cons_append, List.length_cons]
  have e2 : E1 r h (c :: (C1 ++ C2)) = fun k => pm (r c) (h (C1 ++ C2)) k - E1 r (fun D => h (c :: D)) (C1 ++ C2) k := rfl
  have e3 : E1 r (fun D k => - h (c :: D) k) (C1 ++ C2) = fun k => - E1 r (fun D => h (c :: D)) (C1 ++ C2) k := by funext k; exact E1_neg r _ (fun D => h (c :: D)) k
  rw [e2, e3]
  unfold sgnP
  dsimp only
  by_cases hp : C1.length % 2 = 0
  ·
   rw [if_pos hp, if_neg (by omega), if_pos (by omega)]; omega
  ·
   rw [if_neg hp, if_pos (by omega), if_neg (by omega)]; omega
theorem dtP_zerorow {r : Nat → PS} {R2 : List (Nat → PS)} : ∀ (R1 : List (Nat → PS)) (C : List Nat), (∀ c ∈ C, r c = fun _ => 0) → dtP (R1 ++ r :: R2) C = fun _ => 0
 | [], C, h => E1_zerorow _ h
 | q :: R1, C, h => E1_zero fun D hD => dtP_zerorow R1 D fun c hc => h c (hD.subset hc)
/-- A unit row and its column are left out. -/
theorem dtP_unit {u : Nat} {R2 : List (Nat → PS)} : ∀ (R1 : List (Nat → PS)) (C1 C2 : List Nat), u ∉ C1 → u ∉ C2 → dtP (R1 ++ eP u :: R2) (C1 ++ u :: C2) = sgnP (R1.length + C1.length) (dtP (R1 ++ R2) (C1 ++ C2))
 | [], C1, C2, h1, h2 =>
  by
  rw [List.length_nil, Nat.zero_add]
  exact E1_unit C2 h2 C1 (dtP R2) h1
 | q :: R1, C1, C2, h1, h2 =>
  by
  have e := E1_move (r := q) h2 C1 (dtP (R1 ++ eP u :: R2)) (fun D => sgnP R1.length (dtP (R1 ++ R2) D)) h1
   (fun D1 D2 hD1 hD2 => by
    rw [dtP_unit R1 D1 D2 (fun h => h1 (hD1.subset h)) (fun h => h2 (hD2.subset h))]
    funext k
    unfold sgnP
    by_cases ha : R1.length % 2 = 0 <;> by_cases hb : D1.length % 2 = 0
    ·
     rw [if_pos (by omega), if_pos hb, if_pos ha]
    ·
     rw [if_neg (by omega), if_neg hb, if_pos ha]
    ·
     rw [if_neg (by omega), if_pos hb, if_neg ha]
    ·
     rw [if_pos (by omega), if_neg hb, if_neg ha]; omega)
   (fun D hD => dtP_zerorow R1 D fun c hc => by
    have : ¬ u = c := fun h => hD (h ▸ hc)
    rw [eP, if_neg this, psC_zero])
  show E1 q (dtP (R1 ++ eP u :: R2)) (C1 ++ u :: C2) = sgnP ((R1.length + 1) + C1.length) (E1 q (dtP (R1 ++ R2)) (C1 ++ C2))
  rw [e]
  have e2 : E1 q (fun D => sgnP R1.length (dtP (R1 ++ R2) D)) (C1 ++ C2) = sgnP R1.length (E1 q (dtP (R1 ++ R2)) (C1 ++ C2)) := by
   funext k
   unfold sgnP
   by_cases ha : R1.length % 2 = 0
   ·
    simp only [if_pos ha]
   ·
    simp only [if_neg ha]; exact E1_neg q _ (dtP (R1 ++ R2)) k
  rw [e2]
  funext k
  unfold sgnP
  by_cases ha : R1.length % 2 = 0 <;> by_cases hb : C1.length % 2 = 0
  ·
   rw [if_neg (by omega), if_pos ha, if_neg (by omega)]
  ·
   rw [if_pos (by omega), if_pos ha, if_pos (by omega)]
  ·
   rw [if_neg (by omega), if_neg ha, if_pos (by omega)]; omega
  ·
   rw [if_pos (by omega), if_neg ha, if_neg (by omega)]
/-- A row as the sum of unit rows. -/
theorem E1_units {C : List Nat} (hC : C.Nodup) (r : Nat → PS) (g : List Nat → PS) (n : Nat) : E1 r g C n = (C.map fun j => pm (r j) (E1 (eP j) g C) n).sum := by
 induction C generalizing g with
 | nil => rfl
 | cons c C ih =>
  rw [List.nodup_cons] at hC
  rw [E1_cons, ih hC.2 (fun D => g (c :: D)), List.map_cons, List.sum_cons]
  have e1 : E1 (eP c) g (c :: C) = g C := by
   have := E1_unit (u := c) C hC.1 [] g (by simp)
   rw [List.nil_append, List.nil_append] at this
   rw [this]; rfl
  have e2 : ∀ j ∈ C, pm (r j) (E1 (eP j) g (c :: C)) n = - pm (r j) (E1 (eP j) (fun D => g (c :: D)) C) n := fun j hj => by
   have hne : ¬ j = c := fun h => hC.1 (h ▸ hj)
   have : E1 (eP j) g (c :: C) = fun k => - E1 (eP j) (fun D => g (c :: D)) C k := by
    funext k
    rw [E1_cons, eP, if_neg hne, psC_zero, pm_zerol]; omega
   rw [this, pm_negr]
  rw [e1, sum_congr e2]
  have e3 : ∀ (l : List Nat) (f : Nat → Int), (l.map fun j => - f j).sum = - (l.map f).sum := fun l f => by
   induction l with
   | nil => rfl
   | cons x l ih => simp only [List.map_cons, List.sum_cons, ih]; omega
  rw [e3]
  omega
/-- The rows of 1 - x a. -/
def MP (a : Nat → Nat → Int) (i : Nat) : Nat → PS := fun c k => eP i c k - psz (psC (a i c)) k
theorem cof_eq {a : Nat → Nat → Int} {V : List Nat} {v : Nat} (hv : v ∈ V) {c : Nat → PS} {d : PS} (h : ∀ i ∈ V, ∀ n, (V.map fun j => pm (MP a i j) (c j) n).sum = if i = v then d n else 0) (hV : V.Nodup) :
  ∀ i ∈ V, c i = pm (GW a V i v) d := by
 have e1 : ∀ i ∈ V, ∀ n, c i n - psz (fun k => (V.map fun j => a i j * c j k).sum) n = if i = v then d n else 0 := fun i hi n => by
  rw [← h i hi n]
  have e2 : ∀ j ∈ V, pm (MP a i j) (c j) n = (if i = j then 1 else 0) * c j n - psz (fun k => a i j * c j k) n := fun j _ => by
   show pm (fun k => eP i j k - psz (psC (a i j)) k) (c j) n = _
   rw [pm_subl, eP, pm_constl, pm_zl]
   have : pm (psC (a i j)) (c j) = fun k => a i j * c j k := by funext k; exact pm_constl _ _ _
   rw [this]
  rw [sum_congr e2]
  have e3 : ∀ (l : List Nat) (f g : Nat → Int), (l.map fun j => f j - g j).sum = (l.map f).sum - (l.map g).sum := fun l f g => by
   induction l with
   | nil => rfl
   | cons x l ih => simp only [List.map_cons, List.sum_cons, ih]; omega
  rw [e3, pick_list hV hi]
  congr 1
  cases n with
  | zero => exact (sum_zero' V).symm
  | succ n => rfl
 intro i hi
 funext n
 induction n generalizing i with
 | zero =>
  have := e1 i hi 0
  show c i 0 = (if i = v then 1 else 0) * d 0
  by_cases e : i = v
  ·
   rw [if_pos e] at this ⊢; simp only [psz] at this; omega
  ·
   rw [if_neg e] at this ⊢; simp only [psz] at this; omega
 | succ n ih =>
  have h1 := e1 i hi (n + 1)
  have h2 : psz (fun k => (V.map fun j => a i j * c j k).sum) (n + 1) = (V.map fun j => a i j * pm (GW a V j v) d n).sum := by
   show (V.map fun j => a i j * c j n).sum = _
   exact sum_congr fun j hj => by rw [ih j hj]
  have h3 : pm (GW a V i v) d (n + 1) = (if i = v then 1 else 0) * d (n + 1) + pm (tlS (GW a V i v)) d n := rfl
  have h4 : tlS (GW a V i v) = fun k => (V.map fun l => (fun l k => a i l * GW a V l v k) l k).sum := rfl
  rw [h2] at h1
  rw [h3, h4, pm_suml]
  have h5 : (V.map fun x => pm ((fun l k => a i l * GW a V l v k) x) d n).sum = (V.map fun j => a i j * pm (GW a V j v) d n).sum := sum_congr fun j _ => pm_smull _ _ _ _
  rw [h5]
  by_cases e : i = v
  ·
   rw [if_pos e] at h1 ⊢; omega
  ·
   rw [if_neg e] at h1 ⊢; omega
/-- The determinant of 1 - x a is the characteristic polynomial. -/
theorem dt_DD (a : Nat → Nat → Int) : ∀ {V : List Nat}, V.Nodup → dtP (V.map (MP a)) V = DD a V
 | [], _ => rfl
 | v :: U, hV =>
  by
  have hV2 := List.nodup_cons.1 hV
  have ih := dt_DD a hV2.2
  have key := cof_eq (a := a) (V := v :: U) (v := v) (by simp) (c := fun j => E1 (eP j) (dtP (U.map (MP a))) (v :: U)) (d := dtP ((v :: U).map (MP a)) (v :: U)) (fun i hi n => by
   rw [← E1_units hV (MP a i) (dtP (U.map (MP a))) n]
   by_cases e : i = v
   ·
    subst e; rw [if_pos rfl]; rfl
   ·
    rw [if_neg e]
    exact dtP_dup (List.mem_map.2 ⟨i, (List.mem_cons.1 hi).resolve_left e, rfl⟩) _ _) hV v (by simp)
  have e1 : E1 (eP v) (dtP (U.map (MP a))) (v :: U) = dtP (U.map (MP a)) U := by
   have := E1_unit (u := v) U hV2.1 [] (dtP (U.map (MP a))) (by simp)
   rw [List.nil_append, List.nil_append] at this
   rw [this]; rfl
  rw [e1, ih] at key
  show dtP ((v :: U).map (MP a)) (v :: U) = pm (DD a U) (D1 a U v)
  rw [key, pm_comm, ← pm_assoc, D1_inv hV2.2 hV2.1, pm_one_l]
/-- Determinants of integers. -/
def E1i (r : Nat → Int) (g : List Nat → Int) : List Nat → Int
 | [] => 0
 | c :: C => r c * g C - E1i r (fun D => g (c :: D)) C
def dtI (a : Nat → Nat → Int) : List Nat → List Nat → Int
 | [], _ => 1
 | r :: R, C => E1i (a r) (dtI a R) C
theorem E1i_const (r : Nat → Int) (C : List Nat) : ∀ g : List Nat → Int, E1 (fun c => psC (r c)) (fun D => psC (g D)) C = psC (E1i r g C) := by
 induction C with
 | nil => intro g; exact psC_zero.symm
 | cons c C ih =>
  intro g
  funext n
  rw [E1_cons, ih (fun D => g (c :: D)), pm_constl]
  show r c * psC (g C) n - _ = psC (r c * g C - E1i r (fun D => g (c :: D)) C) n
  unfold psC
  split
  ·
   rfl
  ·
   simp
theorem dtI_const (a : Nat → Nat → Int) : ∀ R C : List Nat, dtP (R.map fun i c => psC (a i c)) C = psC (dtI a R C)
 | [], _ => rfl
 | r :: R, C =>
  by
  show E1 (fun c => psC (a r c)) (dtP (R.map fun i c => psC (a i c))) C = psC (E1i (a r) (dtI a R) C)
  rw [← E1i_const]
  exact E1_congr (fun _ _ => rfl) fun D _ => dtI_const a R D
/-- Sums of principal minors. -/
def mnL (a : Nat → Nat → Int) : List Nat → Nat → List Nat → Int
 | _, 0, T => dtI a T T
 | [], _ + 1, _ => 0
 | u :: U, n + 1, T => mnL a U (n + 1) T + mnL a U n (T ++ [u])
theorem mnL_zero (a : Nat → Nat → Int) (U T : List Nat) : mnL a U 0 T = dtI a T T := by cases U <;> rfl
theorem minors_DD (a : Nat → Nat → Int) : ∀ (U T : List Nat), (T ++ U).Nodup → ∀ n, dtP ((T.map fun i c => psC (a i c)) ++ U.map (MP a)) (T ++ U) n = if n % 2 = 0 then mnL a U n T else - mnL a U n T
 | [], T, _, n =>
  by
  rw [List.map_nil, List.append_nil, List.append_nil, dtI_const]
  cases n with
  | zero => simp [psC, mnL_zero]
  | succ n => simp [psC, mnL]
 | u :: U, T, h, n =>
  by
  have hnd := h
  have hu1 : u ∉ T := fun hu => by
   have := (List.nodup_append.1 h).2.2 u hu u (by simp)
   exact this rfl
  have hu2 : u ∉ U := (List.nodup_cons.1 (List.nodup_append.1 h).2.1).1
  have h1 : (T ++ U).Nodup := by
   rw [List.nodup_append] at h ⊢
   exact ⟨h.1, (List.nodup_cons.1 h.2.1).2, fun x hx y hy => h.2.2 x hx y (by simp [hy])⟩
  have h2 : ((T ++ [u]) ++ U).Nodup := by rw [List.append_assoc]; exact h
  have e1 : dtP ((T.map fun i c => psC (a i c)) ++ (u :: U).map (MP a)) (T ++ u :: U) n = _ := dtP_linr (r := eP u) (s := fun c => psC (a u c)) (R2 := U.map (MP a)) (T.map fun i c => psC (a i c)) (T ++ u :: U) n
  rw [e1, dtP_unit _ T U hu1 hu2, List.length_map]
  have e2 : sgnP (T.length + T.length) (dtP ((T.map fun i c => psC (a i c)) ++ U.map (MP a)) (T ++ U)) n = dtP ((T.map fun i c => psC (a i c)) ++ U.map (MP a)) (T ++ U) n := by
   unfold sgnP; rw [if_pos (by omega)]
  rw [e2, minors_DD a U T h1 n]
  have e3 : (T.map fun i c => psC (a i c)) ++ (fun c => psC (a u c)) :: U.map (MP a) = ((T ++ [u]).map fun i c => psC (a i c)) ++ U.map (MP a) := by simp
  have e4 : T ++ u :: U = (T ++ [u]) ++ U := by simp
  rw [e3, e4]
  cases n with
  | zero =>
   rw [mnL_zero, mnL_zero]
   simp [psz]
  | succ n =>
   show _ - dtP _ _ n = _
   rw [minors_DD a U (T ++ [u]) h2 n]
   show _ = if (n + 1) % 2 = 0 then mnL a U (n + 1) T + mnL a U n (T ++ [u]) else - (mnL a U (n + 1) T + mnL a U n (T ++ [u]))
   by_cases hp : n % 2 = 0
   ·
    rw [if_neg (by omega), if_pos hp, if_neg (by omega)]; omega
   ·
    rw [if_pos (by omega), if_neg hp, if_pos (by omega)]; omega
/-- The characteristic polynomial's coefficients are signed sums of principal minors. -/
theorem DD_minors (a : Nat → Nat → Int) {V : List Nat} (hV : V.Nodup) (n : Nat) : DD a V n = if n % 2 = 0 then mnL a V n [] else - mnL a V n [] := by
 rw [← dt_DD a hV]
 exact minors_DD a V [] hV n
end Go.Proofs.YthpgeeaccmgbkaaGreat

/- The reference's characteristic polynomial is the program's; plain. -/
namespace Go.Proofs.YthpgeeaccmgbkaaGreat
open Go.RowKit

theorem map_eraseIdx' {α β : Type} (f : α → β) : ∀ (l : List α) (k : Nat), (l.map f).eraseIdx k = (l.eraseIdx k).map f
 | [], _ => rfl
 | x :: l, 0 => rfl
 | x :: l, k + 1 =>
  by
  show f x :: (l.map f).eraseIdx k = f x :: (l.eraseIdx k).map f
  rw [map_eraseIdx' f l k]
theorem sum_neg' {α : Type} (l : List α) (f : α → Int) : (l.map fun x => - f x).sum = - (l.map f).sum := by
 induction l with
 | nil => rfl
 | cons x l ih => simp only [List.map_cons, List.sum_cons, ih]; omega
theorem sgI_succ (k : Nat) (x : Int) : sgI (k + 1) x = - sgI k x := by
 unfold sgI
 by_cases h : k % 2 = 1
 ·
  rw [if_pos h, if_neg (by omega)]; omega
 ·
  rw [if_neg h, if_pos (by omega)]
theorem E1i_sum (r : Nat → Int) (C : List Nat) : ∀ g : List Nat → Int, E1i r g C = ((List.range C.length).map fun k => sgI k (r (C.getD k 0) * g (C.eraseIdx k))).sum := by
 induction C with
 | nil => intro g; rfl
 | cons c C ih =>
  intro g
  show r c * g C - E1i r (fun D => g (c :: D)) C = _
  rw [ih, List.length_cons, List.range_succ_eq_map, List.map_cons, List.sum_cons, List.map_map]
  have e : ((List.range C.length).map ((fun k => sgI k (r ((c :: C).getD k 0) * g ((c :: C).eraseIdx k))) ∘ Nat.succ)).sum = - ((List.range C.length).map fun k => sgI k (r (C.getD k 0) * g (c :: C.eraseIdx k))).sum := by
   rw [← sum_neg']
   congr 1
   refine List.map_congr_left fun k _ => ?_
   show sgI (k + 1) _ = _
   rw [sgI_succ]; rfl
  rw [e]
  show _ = sgI 0 (r c * g C) + _
  have e0 : sgI 0 (r c * g C) = r c * g C := by simp [sgI]
  rw [e0]; omega
theorem dlN_dtI (a : Nat → Nat → Int) : ∀ (n : Nat) (R C : List Nat), R.length = n → C.length = n → dlN n (R.map fun i => C.map (a i)) = dtI a R C
 | 0, R, C, hR, _ =>
  by
  obtain rfl : R = [] := List.eq_nil_of_length_eq_zero hR
  rfl
 | n + 1, R, C, hR, hC =>
  by
  obtain ⟨r, R, rfl⟩ : ∃ r R', R = r :: R' := by
   rcases R with _ | ⟨r, R⟩
   ·
    simp at hR
   ·
    exact ⟨r, R, rfl⟩
  show _ = E1i (a r) (dtI a R) C
  rw [E1i_sum, hC]
  unfold dlN
  congr 1
  refine List.map_congr_left fun k hk => ?_
  have hk' : k < n + 1 := by have := List.mem_range.1 hk; omega
  have e1 : woM ((r :: R).map fun i => C.map (a i)) k = R.map fun i => (C.eraseIdx k).map (a i) := by
   unfold woM
   rw [List.map_cons, List.tail_cons, List.map_map]
   refine List.map_congr_left fun i _ => ?_
   show (C.map (a i)).eraseIdx k = _
   exact map_eraseIdx' (a i) C k
  rw [e1, dlN_dtI a n R (C.eraseIdx k) (by simp at hR; exact hR) (by rw [List.length_eraseIdx, if_pos (by omega), hC]; rfl)]
  have e2 : (((r :: R).map fun i => C.map (a i)).headD []).getD k 0 = a r (C.getD k 0) := by
   simp [List.getD, List.getElem?_eq_getElem (show k < C.length by omega)]
  rw [e2]
theorem ent_F {S : Nat} (a : Nat → Nat → Int) {i j : Nat} (hi : i < S) (hj : j < S) : ent (matF S S a) i j = a i j := by
 unfold ent matF
 simp [List.getD, hi, hj]
theorem mnL_range (a : Nat → Nat → Int) (n : Nat) (T : List Nat) : ∀ (k f : Nat), mnL a (List.range' f k) (n + 1) T = ((List.range k).map fun d => mnL a (List.range' (f + d + 1) (k - d - 1)) n (T ++ [f + d])).sum
 | 0, f => rfl
 | k + 1, f =>
  by
  have e : List.range' f (k + 1) = f :: List.range' (f + 1) k := by rw [List.range'_succ]
  rw [e]
  show mnL a (List.range' (f + 1) k) (n + 1) T + mnL a (List.range' (f + 1) k) n (T ++ [f]) = _
  rw [mnL_range a n T k (f + 1), List.range_succ_eq_map, List.map_cons, List.sum_cons, List.map_map]
  have e2 : ((List.range k).map ((fun d => mnL a (List.range' (f + d + 1) (k + 1 - d - 1)) n (T ++ [f + d])) ∘ Nat.succ)).sum = ((List.range k).map fun d => mnL a (List.range' (f + 1 + d + 1) (k - d - 1)) n (T ++ [f + 1 + d])).sum := by
   congr 1
   refine List.map_congr_left fun d _ => ?_
   show mnL a (List.range' (f + (d + 1) + 1) (k + 1 - (d + 1) - 1)) n (T ++ [f + (d + 1)]) = _
   rw [show f + (d + 1) = f + 1 + d by omega, show k + 1 - (d + 1) - 1 = k - d - 1 by omega]
  rw [e2]
  show _ = mnL a (List.range' (f + 0 + 1) (k + 1 - 0 - 1)) n (T ++ [f + 0]) + _
  rw [show k + 1 - 0 - 1 = k by omega]
  simp only [Nat.add_zero]
  omega
theorem mnS_mnL {S : Nat} (a : Nat → Nat → Int) : ∀ (n f : Nat) (T : List Nat), (∀ t ∈ T, t < S) → f ≤ S → mnS (matF S S a) S n f T = mnL a (List.range' f (S - f)) n T
 | 0, f, T, hT, _ =>
  by
  rw [mnL_zero]
  show dlN T.length (subT (matF S S a) T) = _
  rw [← dlN_dtI a T.length T T rfl rfl]
  congr 1
  refine List.map_congr_left fun i hi => ?_
  refine List.map_congr_left fun j hj => ?_
  exact ent_F a (hT i hi) (hT j hj)
 | n + 1, f, T, hT, hf =>
  by
  rw [mnL_range]
  show ((List.range (S - f)).map fun d => mnS (matF S S a) S n (f + d + 1) (T ++ [f + d])).sum = _
  congr 1
  refine List.map_congr_left fun d hd => ?_
  have hd' := List.mem_range.1 hd
  rw [mnS_mnL a n (f + d + 1) (T ++ [f + d]) (fun t ht => by
   rcases List.mem_append.1 ht with h1 | h1
   ·
    exact hT t h1
   ·
    rw [List.mem_singleton.1 h1]; omega) (by omega), show S - (f + d + 1) = S - f - d - 1 by omega]
theorem chR_chC (es : List E3) {S k : Nat} (hk : k ≤ S) : chR (matF S S (adjF es)) S (S - k) = chC es S k := by
 unfold chR chC
 rw [show S - (S - k) = k by omega, mnS_mnL (adjF es) k 0 [] (by simp) (by omega), Nat.sub_zero, ← List.range_eq_range', DD_minors (adjF es) List.nodup_range k]
 unfold sgI
 by_cases h : k % 2 = 1
 ·
  rw [if_pos h, if_neg (by omega)]
 ·
  rw [if_neg h, if_pos (by omega)]
/-- The list of den, as far as it is built. -/
def dnP (es : List E3) (S k : Nat) : List Int := (List.range (S + 1)).map fun q => if q < k then chC es S q else 0
theorem dnP_len (es : List E3) (S k : Nat) : (dnP es S k).length = S + 1 := by simp [dnP]
theorem dnP_zero (es : List E3) (S : Nat) : dnP es S 0 = List.replicate (S + 1) 0 := by
 apply List.ext_getElem
 ·
  simp [dnP]
 ·
  intro i h1 h2
  simp [dnP]
theorem dnP_get {es : List E3} {S k : Nat} (h : k < S + 1) : (dnP es S k)[k]? = some 0 := by simp [dnP, h]
theorem dnP_set (es : List E3) {S k : Nat} (h : k < S + 1) : (dnP es S k).set k (chC es S k) = dnP es S (k + 1) := by
 apply List.ext_getElem
 ·
  simp [dnP]
 ·
  intro i h1 h2
  rw [List.getElem_set]
  by_cases e : k = i
  ·
   subst e; simp [dnP]
  ·
   have h3 : (i < k) ↔ (i < k + 1) := by omega
   simp [dnP, e, h3]
theorem dnP_full (es : List E3) (S : Nat) : dnP es S (S + 1) = serD es S := by
 apply List.ext_getElem?
 intro i
 by_cases hi : i < S + 1
 ·
  have h1 : (dnP es S (S + 1))[i]? = some (chC es S i) := by simp [dnP, hi]
  have h2 := serD_getD es S i
  rw [List.getD, List.getElem?_eq_getElem (by rw [serD_len]; exact hi)] at h2
  rw [h1, List.getElem?_eq_getElem (by rw [serD_len]; exact hi)]
  simp at h2
  rw [h2]
 ·
  rw [List.getElem?_eq_none (by rw [dnP_len]; omega), List.getElem?_eq_none (by rw [serD_len]; omega)]
end Go.Proofs.YthpgeeaccmgbkaaGreat


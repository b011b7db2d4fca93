/- counting.Series, given the quotients of the characteristic polynomial. -/
import Derived.Test.YthpgeeaccmgbkaaGreatPart16
import Derived.Test.YthpgeeaccmgbkaaGreatAdj
import Derived.Test.YthpgeeaccmgbkaaGreatFrom
import Derived.Test.YthpgeeaccmgbkaaGreatPart7
import Derived.Test.YthpgeeaccmgbkaaGreatPart14
import Derived.Test.YthpgeeaccmgbkaaGreatPart6
namespace Go.Proofs.YthpgeeaccmgbkaaGreat
open Go.RowKit

def SerRet (num den : List Int) (w : World) (e : Ending) (w' : World) : Prop :=
 Below w.heap.size w w' ∧ ∃ a b, e = .returned (.tuple #[a, b, .int .i64 0]) ∧ Row w' a (tzI num).length (civ (tzI num)) ∧ Row w' b (tzI den).length (civ (tzI den))
theorem pL_sm {c : Nat → Int} {n P : Nat} (hP1 : 1 ≤ P) (hc : ∀ j, j ≤ n → sm P (c j)) (j : Nat) : ∀ z ∈ pL c n j, sm P z := fun z hz => by
 obtain ⟨q, hq, rfl⟩ := List.mem_map.1 hz
 rw [List.mem_range] at hq
 split
 ·
  unfold sm
  exact Nat.lt_of_lt_of_le (by decide : (1 : Int).natAbs < 256 ^ 1) (Nat.pow_le_pow_right (by decide) hP1)
 ·
  split
  ·
   exact hc _ (by omega)
  ·
   unfold sm; exact Nat.pow_pos (by decide)
theorem numL_sm {D B : List Int} {p q S : Nat} (hD : ∀ z ∈ D, sm p z) (hB : ∀ z ∈ B, sm q z) (hS : S ≤ 64) : ∀ z ∈ numL D B S, sm (p + q + 1) z := fun z hz => by
 obtain ⟨k, hk, rfl⟩ := List.mem_map.1 hz
 rw [List.mem_range] at hk
 exact cv_sm hD hB k (by omega)
set_option maxRecDepth 100000 in
set_option maxHeartbeats 16000000 in
theorem series_any (L : Int) (S s P : Nat) (es : List E3) (v : Value) (c r : Nat → Int) (w : World) (hr : Row w v es.length (ce es)) (hok : okEs es) (hc : chk L (S : Int) es = 0) (hS : S ≤ 32) (hs : s < S) (hP : P ≤ 40000) (hP1 : 2 ≤ P)
  (hch : ∀ j, j < S → MatOk (chM (matF S S (adjF es)) S c j) S S P) (hcs : ∀ j, j ≤ S → sm P (c j))
  (hdiv : ∀ j, j < S → ∀ w', Calls Tryz.prog 46 #[IntV (-(trM (nxM (matF S S (adjF es)) S c j) S)), IntV ((j : Int) + 1)] w' (Ret w' (.tuple #[IntV (c (j + 1)), IntV (r j), .int .i64 0]))) :
  Calls Tryz.prog 20 #[.agg #[.int .i64 L, .int .i64 (S : Int), v], .int .i64 (s : Int)] w
   (SerRet (numL (pL c S (S + 1)).reverse (bL es s S) S) (pL c S (S + 1)).reverse w) := by
 obtain ⟨va, vc, rfl, hle⟩ := hr.slice
 obtain ⟨i0, hi, hz0, hz1', hz2'⟩ := info_parts infoZ
 have hca := chk_all hc
 have hlen := hca.2.2.2.1
 have hck := fun w' h => check_any L (S : Int) es (.slice va es.length vc) w' h hok
 rw [hc] at hck
 have had := fun w' h => adjacency_any L S es (.slice va es.length vc) w' h (by omega) hlen (chk_inS hc)
 have hcha := fun (bm : Nat) (w' : World) (hM : MatB 0 w' bm S (matF S S (adjF es))) =>
  Char_any S P (matF S S (adjF es)) (.slice (some ⟨bm, 0, none⟩) S S) c r w' (by have := (hM.tabB (by rw [matF_length]; omega) (by omega)).tab; rwa [matF_length] at this)
   (matF_ok fun i k => (adjF_sm hlen i k).mono hP1) (by omega) hS hP (by omega) hch hcs hdiv
 have hfr := fun (k : Nat) (hk : k ≤ 4096) w' (h : Row w' (.slice va es.length vc) es.length (ce es)) => from_any L S k es (.slice va es.length vc) w' h (by omega) hk hlen (chk_inS hc)
 have hcl := fun v' w' h => cloneI_any (pL c S (S + 1)) v' w' h (by rw [pL_length]; omega)
 have hrev := fun g cap B rest w' h hB => reverseI_any (pL c S (S + 1)) g cap B rest w' h (by rw [pL_length]; omega) hB
 rw [pL_length] at hcl hrev
 have hDs : ∀ z ∈ (pL c S (S + 1)).reverse, sm P z := fun z hz => pL_sm (by omega) hcs _ z (List.mem_reverse.1 hz)
 have hBs := bL_sm hlen s S
 have hNs := numL_sm hDs hBs (show S ≤ 64 by omega)
 have hDl : (pL c S (S + 1)).reverse.length = S + 1 := by rw [List.length_reverse, pL_length]
 have hPl : (pL c S (S + 1)).length = S + 1 := pL_length _ _ _
 obtain ⟨p0, hp0⟩ : ∃ p0, p0 = pL c S (S + 1) := ⟨_, rfl⟩
 obtain ⟨A, hA⟩ : ∃ A, A = matF S S (adjF es) := ⟨_, rfl⟩
 have hBget : ∀ k, k < S → (bL es s S)[k]? = some (cw es allP k (s : Int)) := fun k hk => by simp [bL, hk]
 have hBl := bL_length es s S
 have hbs := bL_succ es s
 obtain ⟨m, hm⟩ : ∃ m, m = es.length := ⟨_, rfl⟩
 have s0 := (Below.refl w.heap.size w).alloc (Nat.le_refl _) (.cells #[.int .i64 L, .int .i64 (S : Int), .slice va es.length vc] 24)
 have bg := Blk.new w 24 [.int .i64 L, .int .i64 (S : Int), .slice va es.length vc]
 have hr0 := hr.below s0 (Nat.le_refl _)
 rw [← hA] at had hcha
 rw [← hp0] at hcl hrev hDs hNs hDl hPl ⊢
 have hch1 : ∀ (bm : Nat) (w' : World), MatB 0 w' bm S A → Calls Tryz.prog 51 #[.slice (some ⟨bm, 0, none⟩) S S] w' (fun e w2 => Below w'.heap.size w' w2 ∧ ∃ pb, e = .returned (.tuple #[.slice (some ⟨pb, 0, none⟩) (S + 1) (S + 1), .int .i64 0]) ∧ Blk w2 pb 28 (civ p0) ∧ w'.heap.size ≤ pb) := fun bm w' h => by
  rw [hp0]; exact hcha bm w' h
 obtain ⟨N, hN⟩ : ∃ N, N = numL p0.reverse (bL es s S) S := ⟨_, rfl⟩
 obtain ⟨D, hD⟩ : ∃ D, D = p0.reverse := ⟨_, rfl⟩
 have hcn := fun v' w' h => canon_any N v' w' h (by rw [hN]; simp [numL]; omega) (fun z hz => ((hNs z (by rw [← hN]; exact hz)).mono (Nat.le_refl _)).small (by omega))
 have hcd := fun v' w' h => canon_any D v' w' h (by rw [hD, hDl]; omega) (fun z hz => (hDs z (by rw [← hD]; exact hz)).small (by omega))
 have hNl : N.length = S := by rw [hN]; simp [numL]
 rw [hNl] at hcn
 rw [hD, hDl, ← hD] at hcd
 rw [← hD] at hDs hDl hN hrev ⊢
 rw [← hN]
 rw [← hm] at hr0 hle hck had hfr s0 bg ⊢
 have t1 : ¬ (s : Int) < 0 := by omega
 have t2 : ¬ (S : Int) ≤ (s : Int) := by omega
 have t3 : ¬ (32 : Int) < (S : Int) := by omega
 clear hcha hdiv hch hr hok hc hca hp0 hA hcs
 have HCK := Lib.hid hck; clear hck
 have HAD := Lib.hid had; clear had
 have HCH := Lib.hid hch1; clear hch1
 have HFR := Lib.hid hfr; clear hfr
 have HCL := Lib.hid hcl; clear hcl
 have HREV := Lib.hid hrev; clear hrev
 have HCN := Lib.hid hcn; clear hcn
 have HCD := Lib.hid hcd; clear hcd
 have HDS := Lib.hid hDs; clear hDs
 have HBS := Lib.hid hBs; clear hBs
 have HNS := Lib.hid hNs; clear hNs
 have HDL := Lib.hid hDl; clear hDl
 have HPL := Lib.hid hPl; clear hPl
 have HN := Lib.hid hN; clear hN
 have HNL := Lib.hid hNl; clear hNl
 have HDD := Lib.hid hD; clear hD
 have HBG := Lib.hid hBget; clear hBget
 have HBL := Lib.hid hBl; clear hBl
 have HBSU := Lib.hid hbs; clear hbs
 have HM := Lib.hid hm; clear hm
 have S0 := Lib.hid s0; clear s0
 have BG := Lib.hid bg; clear bg
 have HR0 := Lib.hid hr0; clear hr0
 have x0 := BG.out.cell (j := 0) rfl
 have x1 := BG.out.cell (j := 1) rfl
 have x2 := BG.out.cell (j := 2) rfl
 go_enter Tryz.func20, Tryz.ntmps20
 go_wp2_with fail
 go_at_call 31
 refine (HCK.out _ HR0.out).mono ?_
 rintro e w1 ⟨hq, rfl⟩
 have s1 := S0.out.trans (hq.mono S0.out.size)
 have hr1 := HR0.out.below hq (Nat.le_refl _)
 have tk := BG.out.keep hq; have x0 := tk.cell (j := 0) rfl; have x1 := tk.cell (j := 1) rfl; have x2 := tk.cell (j := 2) rfl; have BG1 := Lib.hid tk; clear tk
 have S1 := Lib.hid s1; clear s1
 have HR1 := Lib.hid hr1; clear hr1
 clear hq
 go_wp2_with fail
 go_at_call 52
 refine (HAD.out _ HR1.out).mono ?_
 rintro e w2 ⟨hq, bm, rfl, hmat⟩
 have s2 := S1.out.trans (hq.mono S1.out.size)
 have hr2 := HR1.out.below hq (Nat.le_refl _)
 have tk := BG1.out.keep hq; have x0 := tk.cell (j := 0) rfl; have x1 := tk.cell (j := 1) rfl; have x2 := tk.cell (j := 2) rfl; have BG2 := Lib.hid tk; clear tk
 have S2 := Lib.hid s2; clear s2
 have HR2 := Lib.hid hr2; clear hr2
 clear hq
 have hcm := HCH.out bm w2 (hmat.mono (Nat.zero_le _))
 have HCM := Lib.hid hcm; clear hcm
 clear hmat
 go_wp2_with fail
 go_at_call 51
 refine HCM.out.mono ?_
 rintro e w3 ⟨hq, pb, rfl, hpb, hple⟩
 have s3 := S2.out.trans (hq.mono S2.out.size)
 have hr3 := HR2.out.below hq (Nat.le_refl _)
 have tk := BG2.out.keep hq; have x0 := tk.cell (j := 0) rfl; have x1 := tk.cell (j := 1) rfl; have x2 := tk.cell (j := 2) rfl; have BG3 := Lib.hid tk; clear tk
 have hprow := blk_row hpb (by rw [HPL.out]; omega)
 rw [HPL.out] at hprow
 have hclw := HCL.out _ w3 hprow
 have S3 := Lib.hid s3; clear s3
 have HR3 := Lib.hid hr3; clear hr3
 have HCLW := Lib.hid hclw; clear hclw
 clear hq hpb hple hprow
 go_wp2_with fail
 go_at_call 53
 refine HCLW.out.mono ?_
 rintro e w4 ⟨hq, vd, rfl, hown⟩
 have hw34 := S3.out.size
 rw [HPL.out] at hown
 obtain ⟨g, cap, rest, rfl, hg3, hbd, hcap1, hcap2⟩ := own_blkI hown (by omega) HPL.out
 have hrw := HREV.out g cap w3.heap.size rest w4 hbd hg3
 have tk := BG3.out.keep hq; have x0 := tk.cell (j := 0) rfl; have x1 := tk.cell (j := 1) rfl; have x2 := tk.cell (j := 2) rfl; have BG4 := Lib.hid tk; clear tk
 have HRW := Lib.hid hrw; clear hrw
 have HQ34 := Lib.hid hq; clear hq
 clear hown hbd
 go_wp2_with fail
 go_at_call 54
 refine HRW.out.mono ?_
 rintro e w5 ⟨rfl, hbd, hq45⟩
 have hq := HQ34.out.trans hq45
 have s5 := S3.out.trans (hq.mono S3.out.size)
 have hr5 := HR3.out.below hq (Nat.le_refl _)
 have tk := BG3.out.keep hq; have x0 := tk.cell (j := 0) rfl; have x1 := tk.cell (j := 1) rfl; have x2 := tk.cell (j := 2) rfl; have BG5 := Lib.hid tk; clear tk
 have S5 := Lib.hid s5; clear s5
 have HR5 := Lib.hid hr5; clear hr5
 have HBD5 := Lib.hid hbd; clear hbd
 clear hq hq45
 go_wp2_with fail
 go_loopw [9, 10, 46] (fun u _ i wr => ∃ k : Nat, k ≤ S ∧ i = .int .i64 k ∧ wr.ownsRow w5.heap.size 28 2 u k (civ (bL es s k)) ∧ Below w5.heap.size w5 wr) (fun _ _ i _ => S - (intOf i).toNat)
 case atStart => exact ⟨0, Nat.zero_le _, rfl, World.ownsRow_nil _ _ _ _, Below.refl _ _⟩
 case round =>
  obtain ⟨k, hk, rfl, hown, hbel⟩ := hrel
  have hsz : w5.heap.size ≤ wr.heap.size := hbel.size
  obtain ⟨wo, rfl⟩ : ∃ wo : World, wo = wr := ⟨_, rfl⟩
  by_cases hlt : k < S
  ·
   have hrk := HR5.out.below hbel (Nat.le_refl _)
   have bk := BG5.out.keep hbel
   have y0 := bk.cell (j := 0) rfl
   have y1 := bk.cell (j := 1) rfl
   have y2 := bk.cell (j := 2) rfl
   have hfk := HFR.out k (by omega) wo hrk
   have hz2 : civ (bL es s (k + 1)) = civ (bL es s k) ++ [.bool (ineg (cw es allP k (s : Int))), .string (imag (cw es allP k (s : Int)))] := by
    rw [HBSU.out]; exact civ_snoc _ _
   have hgk := rowK_get (es := es) (p := allP) (k := k) hs
   obtain ⟨x, hx⟩ : ∃ x, x = cw es allP k (s : Int) := ⟨_, rfl⟩
   rw [← hx] at hz2 hgk
   obtain ⟨ua, ucap, rfl⟩ := own_slice hown
   have hix1 : (0 : Int) ≤ (s : Int) := by omega
   have hix2 : (s : Int) < (S : Int) := by omega
   have HO := Lib.hid hown; clear hown
   have HB := Lib.hid hbel; clear hbel
   have HZ2 := Lib.hid hz2; clear hz2
   have HFK := Lib.hid hfk; clear hfk
   have HGK := Lib.hid hgk; clear hgk
   clear hx hrk bk x0 x1 x2
   go_wp2_with fail
   go_at_call 38
   refine HFK.out.mono ?_
   rintro e w6 ⟨hq, b, rfl, hbr⟩
   have ho2 := own_below HO.out hq
   have hb2 := HB.out.trans (hq.mono HB.out.size)
   have hsz2 : w5.heap.size ≤ w6.heap.size := hb2.size
   have c0 := hbr.cell (civ_get HGK.out).1
   have c1 := hbr.cell (civ_get HGK.out).2
   have HO2 := Lib.hid ho2; clear ho2
   have HB2 := Lib.hid hb2; clear hb2
   clear hq hbr y0 y1 y2
   go_wp2_with (at_builtin; refine wpList_append_lies _ rfl (.tmp 49) (.tmp 56) 32 rfl w5.heap.size 28 i0 _ 2 24 Tryz.underlying32 hi hz0 hz1' hz2' rfl (by decide) _ _ _ rfl (HO2.out.alloc _) _ 1 1 [.bool (ineg x), .string (imag x)] rfl rfl (World.news_of_block (heap_alloc_new _ _)) (by simp [Value.oneCell']) (by omega) (by unfold maxLen; omega) (by omega) (by simp; omega) _ rfl ?_; intro g' cap' w7 hown' hg hat hlt'; have HG := Lib.hid hg; clear hg; have HO4 := Lib.hid hown'; clear hown'; have HAT := Lib.hid hat; clear hat)
   go_roundw
   case rel =>
    refine ⟨k + 1, by omega, by go_num, ?_, (HB2.out.alloc hsz2 _).grown HG.out (by simp; omega) (fun j hj => (HO2.out.lt j hj).1)⟩
    rw [HZ2.out]; exact HO4.out
   case measure => simp [intOf]; omega
  ·
   obtain rfl : k = S := by omega
   have hbv := own_row hown
   obtain ⟨ua, uc, rfl⟩ := own_slice hown
   have bk := BG5.out.keep hbel
   have y1 := bk.cell (j := 1) rfl
   have hbd6 := HBD5.out.keep hbel
   have hdv := blk_rowI hbd6 (by rw [HDL.out]; omega) hcap2
   rw [HDL.out] at hdv
   have hmk := mkI k (by omega) (k : Int) rfl
   have s6 := S5.out.trans (hbel.mono S5.out.size)
   have snb := (Below.refl wo.heap.size wo).alloc (Nat.le_refl _) (.cells (zarr (.agg #[.bool false, .string ⟨#[]⟩]) k) 28)
   have hnb := blk_mkI wo k
   rw [← numP_start D (bL es s k) k] at hnb
   obtain ⟨Bv, hBv⟩ : ∃ Bv, Bv = bL es s k := ⟨_, rfl⟩
   have hBvl := HBL.out
   rw [← hBv] at hbv hnb hBvl
   have hNn := HN.out
   rw [← hBv] at hNn
   have hBvs := HBS.out
   rw [← hBv] at hBvs
   obtain ⟨nb, hnbe⟩ : ∃ nb, nb = wo.heap.size := ⟨_, rfl⟩
   have hnbl : wo.heap.size ≤ nb := by omega
   obtain ⟨wm, hwm⟩ : ∃ wm, wo.alloc (.cells (zarr (.agg #[.bool false, .string ⟨#[]⟩]) k) 28) = wm := ⟨_, rfl⟩
   rw [hwm] at snb hnb
   rw [← hnbe] at hnb
   have HBV := Lib.hid hbv; clear hbv
   have HDV := Lib.hid hdv; clear hdv
   have S6 := Lib.hid s6; clear s6
   have SNB := Lib.hid snb; clear snb
   have HNB0 := Lib.hid hnb; clear hnb
   have HBVL := Lib.hid hBvl; clear hBvl
   have HNN := Lib.hid hNn; clear hNn
   have HBVS := Lib.hid hBvs; clear hBvs
   clear hown hbel bk hbd6 hBv x0 x1 x2 HBL HBG HBSU HBS
   go_wp2_with fail
   (try rw [hwm])
   (try rw [← hnbe])
   clear hwm hmk y1 hnbe
   obtain ⟨S, rfl⟩ : ∃ S : Nat, S = k := ⟨_, rfl⟩
   go_loopw [12, 13, 64] (fun _ _ q wr => ∃ i : Nat, i ≤ S ∧ q = .int .i64 (i : Int) ∧ Below wo.heap.size wo wr ∧ Blk wr nb 28 (civ (numP D Bv S i 0))) (fun _ _ q _ => S - (intOf q).toNat)
   case atStart => exact ⟨0, Nat.zero_le _, rfl, SNB.out, HNB0.out⟩
   case round =>
    obtain ⟨i, hi2, rfl, hbel, hblk⟩ := hrel
    by_cases hlt2 : i < S
    ·
     have HBW := Lib.hid hbel
     clear hbel
     have HBLK := Lib.hid hblk; clear hblk
     go_wp2_with fail
     go_loopw [13] (fun q wv => ∃ j : Nat, j ≤ i + 1 ∧ q = .int .i64 (j : Int) ∧ Below wo.heap.size wo wv ∧ Blk wv nb 28 (civ (numP D Bv S i j))) (fun q _ => i + 1 - (intOf q).toNat)
     case atStart => exact ⟨0, Nat.zero_le _, rfl, HBW.out, HBLK.out⟩
     case round =>
      obtain ⟨j, hj, rfl, hbel, hblk⟩ := hrel
      clear HBW HBLK
      obtain ⟨wv, rfl⟩ : ∃ wv : World, wv = wr := ⟨_, rfl⟩
      by_cases hji : j ≤ i
      ·
       obtain ⟨d, hd⟩ : ∃ d : Nat, (i : Int) - (j : Int) = (d : Int) := ⟨i - j, by omega⟩
       have hdd : i - j = d := by omega
       have hjD : j < D.length := by rw [HDL.out]; omega
       have hdB : d < Bv.length := by rw [HBVL.out]; omega
       have hgx : D[j]? = some (D[j]'hjD) := List.getElem?_eq_getElem _
       have hgy : Bv[d]? = some (Bv[d]'hdB) := List.getElem?_eq_getElem _
       obtain ⟨x, hx⟩ : ∃ x, x = D[j]'hjD := ⟨_, rfl⟩
       obtain ⟨y, hy⟩ : ∃ y, y = Bv[d]'hdB := ⟨_, rfl⟩
       have hxs : sm P x := by rw [hx]; exact HDS.out _ (List.getElem_mem _)
       have hys : sm (2 * S + 1) y := by rw [hy]; exact HBVS.out _ (List.getElem_mem _)
       rw [← hx] at hgx
       rw [← hy] at hgy
       have hsu := cv_succ (D := D) (B := Bv) (i := i) (j := j) hgx (by rw [hdd]; exact hgy)
       have hset := numP_set D Bv S i j
       rw [hsu] at hset
       have hgz := numP_get (D := D) (B := Bv) (j := j) hlt2
       have hzs := cv_sm HDS.out HBVS.out i (show j ≤ 255 by omega)
       obtain ⟨z, hz⟩ : ∃ z, z = cv D Bv i j := ⟨_, rfl⟩
       rw [← hz] at hset hgz hzs
       have hmul := fun w' => imulV x y w' (Nat.le_trans hxs.size (by omega)) (Nat.le_trans hys.size (by omega))
       have hxy := hxs.mul hys
       have hadd := fun w' => iadd_any (ineg z) (ineg (x * y)) (imag z) (imag (x * y)) w' (Nat.le_trans hzs.size (by omega)) (Nat.le_trans hxy.size (by omega))
       simp only [ival_canon] at hadd
       obtain ⟨b1, o1, hge, hb1o, hbc1⟩ := HDV.out.at_ (by omega)
       obtain ⟨rfl, rfl⟩ : g = b1 ∧ o1 = 0 := by cases hge; exact ⟨rfl, rfl⟩
       obtain ⟨b2, o2, rfl, hb2o, hbc2⟩ := HBV.out.at_ (by omega)
       obtain ⟨q0, q1⟩ := int_cells hbc1 hbel hb1o hgx
       simp only [Nat.zero_add] at q0 q1
       obtain ⟨q2, q3⟩ := int_cells hbc2 hbel hb2o hgy
       have hvs := hbel.size
       have hb1 : g < wv.heap.size := by omega
       have hb2 : b2 < wv.heap.size := by omega
       have hnv := hblk.lt
       have cN0 := hblk.cell (civ_get hgz).1
       have cN1 := hblk.cell (civ_get hgz).2
       have n1 : ¬ nb = g := by omega
       have n2 : ¬ nb = b2 := by omega
       have m1 : ¬ g = nb := by omega
       have m2 : ¬ b2 = nb := by omega
       have hix1 : (0 : Int) ≤ (i : Int) := by omega
       have hix2 : (i : Int) < (S : Int) := by omega
       have hix3 : (0 : Int) ≤ (j : Int) := by omega
       have hix4 : (j : Int) < (S : Int) + 1 := by omega
       have hix5 : (0 : Int) ≤ (d : Int) := by omega
       have hix6 : (d : Int) < (S : Int) := by omega
       have hix7 : (j : Int) ≤ (i : Int) := by omega
       have hwd : IntKind.i64.wrap (d : Int) = (d : Int) := IntWalk.i64_in _ (by omega)
       have HNB := Lib.hid hblk
       have HBW := Lib.hid hbel; clear hbel
       have HSET := Lib.hid hset; clear hset
       have HMUL := Lib.hid hmul; clear hmul
       have HADD := Lib.hid hadd; clear hadd
       clear hge hx hy hz hsu hxs hys hzs hxy hbc1 hbc2 hgx hgy hblk hjD hdB hdd
       go_wp2_with fail
       refine wp_region_held_drew (S := fun w' => w'.cell? ⟨g, j * 2, none⟩ = some (.bool (ineg x)) ∧ w'.cell? ⟨g, j * 2 + 1, none⟩ = some (.string (imag x)) ∧ w'.cell? ⟨b2, o2 + d * 2, none⟩ = some (.bool (ineg y)) ∧ w'.cell? ⟨b2, o2 + d * 2 + 1, none⟩ = some (.string (imag y))) (by kernel_rfl) ?_ (fun hHeld => ?_)
       ·
        go_keep
       refine zT 0 (h := ?_)
       (try simp only [Act.put, zA, zB, zC])
       refine zT 1 (h := ?_)
       (try simp only [Act.put, zA, zB, zC])
       refine zT 2 (h := ?_)
       (try simp only [Act.put, zA, zB, zC])
       refine zT 3 (h := ?_)
       (try simp only [Act.put, zA, zB, zC])
       refine zT 4 (h := ?_)
       (try simp only [Act.put, zA, zB, zC])
       refine zT 6 (h := ?_)
       (try simp only [Act.put, zA, zB, zC])
       refine zT 7 (h := ?_)
       (try simp only [Act.put, zA, zB, zC])
       refine zT 8 (h := ?_)
       (try simp only [Act.put, zA, zB, zC])
       refine zT 9 (h := ?_)
       (try simp only [Act.put, zA, zB, zC])
       refine zT 10 (h := ?_)
       (try simp only [Act.put, zA, zB, zC])
       refine zT 11 (h := ?_)
       (try simp only [Act.put, zA, zB, zC])
       refine zT 12 (h := ?_)
       (try simp only [Act.put, zA, zB, zC])
       refine zT 13 (h := ?_)
       (try simp only [Act.put, zA, zB, zC])
       refine zT 14 (h := ?_)
       (try simp only [Act.put, zA, zB, zC])
       refine zT 15 (h := ?_)
       (try simp only [Act.put, zA, zB, zC])
       refine wpAnyH_ready (rs := [5, 16]) (by kernel_rfl) (by simp) ?_
       refine AllReadyH.cons rfl (fun K hK => ?_) (AllReadyH.cons rfl (fun K hK => ?_) AllReadyH.nil)
       ·
        go_simp
        refine hK.out _ _ ?_ (fun hH9 => ?_)
        ·
         ((try dsimp only); go_keep)
        clear hK K
        (try simp only [Act.put, zA, zB, zC])
        refine zR 16 (h := fun K hK => ?_)
        go_simp
        go_at_call 45
        refine (HMUL.out _).mono ?_
        rintro e' w4 ⟨hq, rfl⟩
        dsimp only
        have z0 := (hq.cell (p := ⟨g, j * 2, none⟩) (show g < wv.heap.size by omega)).trans hH9.1
        have z1 := (hq.cell (p := ⟨g, j * 2 + 1, none⟩) (show g < wv.heap.size by omega)).trans hH9.2.1
        have z2 := (hq.cell (p := ⟨b2, o2 + d * 2, none⟩) (show b2 < wv.heap.size by omega)).trans hH9.2.2.1
        have z3 := (hq.cell (p := ⟨b2, o2 + d * 2 + 1, none⟩) (show b2 < wv.heap.size by omega)).trans hH9.2.2.2
        refine hK.out _ _ ⟨z0, z1, z2, z3⟩ (fun hH4 => ?_)
        clear hK K z0 z1 z2 z3
        (try simp only [Act.put, zA, zB, zC])
        have s4w : Below wv.heap.size wv w4 := ((Below.refl wv.heap.size wv).drew).trans hq
        have n4 := Blk.keep (w := wv.drew) HNB.out hq
        clear hq cN0 cN1
        have cN0 := n4.cell (civ_get hgz).1
        have cN1 := n4.cell (civ_get hgz).2
        have hl4 := s4w.size
        refine zR 17 (h := fun K hK => ?_)
        go_simp
        go_at_call 44
        refine (HADD.out _).mono ?_
        rintro e' w5 ⟨hq, rfl⟩
        dsimp only
        have z0 := (hq.cell (p := ⟨g, j * 2, none⟩) (show g < w4.heap.size by omega)).trans hH4.1
        have z1 := (hq.cell (p := ⟨g, j * 2 + 1, none⟩) (show g < w4.heap.size by omega)).trans hH4.2.1
        have z2 := (hq.cell (p := ⟨b2, o2 + d * 2, none⟩) (show b2 < w4.heap.size by omega)).trans hH4.2.2.1
        have z3 := (hq.cell (p := ⟨b2, o2 + d * 2 + 1, none⟩) (show b2 < w4.heap.size by omega)).trans hH4.2.2.2
        refine hK.out _ _ ⟨z0, z1, z2, z3⟩ (fun hH5 => ?_)
        clear hK K z0 z1 z2 z3
        (try simp only [Act.put, zA, zB, zC])
        have s5w := s4w.trans (hq.mono s4w.size)
        have n5 := n4.keep hq
        have fr0 := n5.frozen (i * 2)
        have fr1 := n5.frozen (i * 2 + 1)
        have cn0 := n5.cell (civ_get hgz).1
        have cn1 := n5.cell (civ_get hgz).2
        have n6 := (n5.set (i * 2) (.bool (ineg (z + x * y)))).set (i * 2 + 1) (.string (imag (z + x * y)))
        rw [civ_set, HSET.out] at n6
        clear hq cN0 cN1 n5
        have hl5 := s5w.size
        have N6 := Lib.hid n6; clear n6
        have S5 := Lib.hid s5w; clear s5w
        refine zT 18 (h := ?_)
        (try simp only [Act.put, zA, zB, zC])
        refine zR 19 (h := fun K hK => ?_)
        go_simp
        refine hK.out _ _ ?_ (fun hH9 => ?_)
        ·
         ((try dsimp only); go_keep)
        clear hK K
        (try simp only [Act.put, zA, zB, zC])
        refine wpAnyH_done (by kernel_rfl) ?_ _
        (try simp only [List.getElem_toArray, List.getElem_cons_zero, List.getElem_cons_succ, Act.put, zA, zB, zC])
        clear hH9
        go_wp2_with fail
        go_roundw
        case rel => exact ⟨j + 1, by omega, by go_num, ((HBW.out.trans (S5.out.mono HBW.out.size)).setCell (p := ⟨nb, i * 2, none⟩) hnbl _).setCell (p := ⟨nb, i * 2 + 1, none⟩) hnbl _, N6.out⟩
        case measure => simp [intOf]; omega
       ·
        go_simp
        go_at_call 45
        refine (HMUL.out _).mono ?_
        rintro e' w4 ⟨hq, rfl⟩
        dsimp only
        have z0 := (hq.cell (p := ⟨g, j * 2, none⟩) (show g < wv.heap.size by omega)).trans hHeld.1
        have z1 := (hq.cell (p := ⟨g, j * 2 + 1, none⟩) (show g < wv.heap.size by omega)).trans hHeld.2.1
        have z2 := (hq.cell (p := ⟨b2, o2 + d * 2, none⟩) (show b2 < wv.heap.size by omega)).trans hHeld.2.2.1
        have z3 := (hq.cell (p := ⟨b2, o2 + d * 2 + 1, none⟩) (show b2 < wv.heap.size by omega)).trans hHeld.2.2.2
        refine hK.out _ _ ⟨z0, z1, z2, z3⟩ (fun hH4 => ?_)
        clear hK K z0 z1 z2 z3
        (try simp only [Act.put, zA, zB, zC])
        have s4w : Below wv.heap.size wv w4 := ((Below.refl wv.heap.size wv).drew).trans hq
        have n4 := Blk.keep (w := wv.drew) HNB.out hq
        clear hq cN0 cN1
        have cN0 := n4.cell (civ_get hgz).1
        have cN1 := n4.cell (civ_get hgz).2
        have hl4 := s4w.size
        refine zR 5 (h := fun K hK => ?_)
        go_simp
        refine hK.out _ _ ?_ (fun hH9 => ?_)
        ·
         ((try dsimp only); go_keep)
        clear hK K
        (try simp only [Act.put, zA, zB, zC])
        refine zR 17 (h := fun K hK => ?_)
        go_simp
        go_at_call 44
        refine (HADD.out _).mono ?_
        rintro e' w5 ⟨hq, rfl⟩
        dsimp only
        have z0 := (hq.cell (p := ⟨g, j * 2, none⟩) (show g < w4.heap.size by omega)).trans hH9.1
        have z1 := (hq.cell (p := ⟨g, j * 2 + 1, none⟩) (show g < w4.heap.size by omega)).trans hH9.2.1
        have z2 := (hq.cell (p := ⟨b2, o2 + d * 2, none⟩) (show b2 < w4.heap.size by omega)).trans hH9.2.2.1
        have z3 := (hq.cell (p := ⟨b2, o2 + d * 2 + 1, none⟩) (show b2 < w4.heap.size by omega)).trans hH9.2.2.2
        refine hK.out _ _ ⟨z0, z1, z2, z3⟩ (fun hH5 => ?_)
        clear hK K z0 z1 z2 z3
        (try simp only [Act.put, zA, zB, zC])
        have s5w := s4w.trans (hq.mono s4w.size)
        have n5 := n4.keep hq
        have fr0 := n5.frozen (i * 2)
        have fr1 := n5.frozen (i * 2 + 1)
        have cn0 := n5.cell (civ_get hgz).1
        have cn1 := n5.cell (civ_get hgz).2
        have n6 := (n5.set (i * 2) (.bool (ineg (z + x * y)))).set (i * 2 + 1) (.string (imag (z + x * y)))
        rw [civ_set, HSET.out] at n6
        clear hq cN0 cN1 n5
        have hl5 := s5w.size
        have N6 := Lib.hid n6; clear n6
        have S5 := Lib.hid s5w; clear s5w
        refine zT 18 (h := ?_)
        (try simp only [Act.put, zA, zB, zC])
        refine zR 19 (h := fun K hK => ?_)
        go_simp
        refine hK.out _ _ ?_ (fun hH9 => ?_)
        ·
         ((try dsimp only); go_keep)
        clear hK K
        (try simp only [Act.put, zA, zB, zC])
        refine wpAnyH_done (by kernel_rfl) ?_ _
        (try simp only [List.getElem_toArray, List.getElem_cons_zero, List.getElem_cons_succ, Act.put, zA, zB, zC])
        clear hH9
        go_wp2_with fail
        go_roundw
        case rel => exact ⟨j + 1, by omega, by go_num, ((HBW.out.trans (S5.out.mono HBW.out.size)).setCell (p := ⟨nb, i * 2, none⟩) hnbl _).setCell (p := ⟨nb, i * 2 + 1, none⟩) hnbl _, N6.out⟩
        case measure => simp [intOf]; omega
      ·
       obtain rfl : j = i + 1 := by omega
       rw [numP_next] at hblk
       have hix7 : ¬ ((i : Int) + 1 ≤ (i : Int)) := by omega
       have HBW := Lib.hid hbel; clear hbel
       have HBLK := Lib.hid hblk; clear hblk
       go_wp2_with fail
       go_roundw
       case rel => exact ⟨i + 1, by omega, by go_num, HBW.out, HBLK.out⟩
       case measure => simp [intOf]; omega
    ·
     obtain rfl : i = S := by omega
     rw [numP_full, ← HNN.out] at hblk
     have hnr := blk_row hblk (by rw [HNL.out]; omega)
     rw [HNL.out] at hnr
     have hcnw := HCN.out _ wr hnr
     have hdv2 := HDV.out.below hbel (Nat.le_refl _)
     have s8 := S6.out.trans (hbel.mono S6.out.size)
     have HCNW := Lib.hid hcnw; clear hcnw
     have HDV2 := Lib.hid hdv2; clear hdv2
     have S8 := Lib.hid s8; clear s8
     clear hblk hnr hbel
     go_wp2_with fail
     go_at_call 55
     refine HCNW.out.mono ?_
     rintro e w9 ⟨hq, va1, rfl, hra⟩
     have hdv3 := HDV2.out.below hq (Nat.le_refl _)
     have hcdw := HCD.out _ w9 hdv3
     have s9 := S8.out.trans (hq.mono S8.out.size)
     have HCDW := Lib.hid hcdw; clear hcdw
     have S9 := Lib.hid s9; clear s9
     have HRA := Lib.hid hra; clear hra
     clear hq hdv3
     go_wp2_with fail
     go_at_call 55
     refine HCDW.out.mono ?_
     rintro e w10 ⟨hq, vb1, rfl, hrb⟩
     have hra2 := HRA.out.below hq (Nat.le_refl _)
     have s10 := S9.out.trans (hq.mono S9.out.size)
     have S10 := Lib.hid s10; clear s10
     have HRA2 := Lib.hid hra2; clear hra2
     have HRB := Lib.hid hrb; clear hrb
     clear hq
     go_wp2_with fail
     go_ret3
     exact ⟨S10.out, va1, vb1, rfl, HRA2.out, HRB.out⟩
end Go.Proofs.YthpgeeaccmgbkaaGreat

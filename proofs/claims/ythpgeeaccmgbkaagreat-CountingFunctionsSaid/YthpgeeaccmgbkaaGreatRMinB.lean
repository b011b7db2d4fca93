/- grooveref04.minors: the recursion. -/
import Derived.Test.YthpgeeaccmgbkaaGreatRMin
namespace Go.Proofs.YthpgeeaccmgbkaaGreat
open Go.RowKit

theorem own_row2 {w : World} {base : Nat} {e : TypeId} {size : Nat} {v : Value} {n : Nat} {xs : List Value} (h : w.ownsRow base e size v n xs) : Row w v n xs := own_row h
set_option maxRecDepth 100000 in
set_option maxHeartbeats 3200000 in
theorem minors_step (S p n f : Nat) (A : List (List Int)) (v tv : Value) (T : List Nat) (w : World) (hA : Tab w v A) (hS : Sq S p A) (hS1 : S ≤ 32) (hp : p ≤ 1000) (hTr : Row w tv T.length (ci (nz T))) (hT : ∀ t ∈ T, t < S) (hTl : T.length + (n + 1) ≤ 100) (hf : f ≤ S)
  (IH : ∀ (d : Nat) (tv' : Value) (w' : World), d < S - f → Tab w' v A → Row w' tv' (T.length + 1) (ci (nz (T ++ [f + d]))) → Calls Tryz.prog 96 #[v, .int .i64 ((f + d + 1 : Nat) : Int), .int .i64 (n : Int), tv'] w' (Ret w' (IntV (mnS A S n (f + d + 1) (T ++ [f + d]))))) :
  Calls Tryz.prog 96 #[v, .int .i64 (f : Int), .int .i64 ((n + 1 : Nat) : Int), tv] w (Ret w (IntV (mnS A S (n + 1) f T))) := by
 have hA0 := hA
 obtain ⟨rvs0, hr1, hr2, hr3⟩ := hA
 rw [hS.1] at hr1 hr2
 obtain ⟨va, vc, rfl, hle⟩ := hr2.slice
 obtain ⟨ta, tc, rfl, htle⟩ := hTr.slice
 have hsm := fun k (hk : k ≤ S - f) => (mnS_sm hS hS1 (n + 1) f T hf hT (by omega)).2 k n rfl hk
 have hsX := fun d (hd : d < S - f) => (mnS_sm hS hS1 n (f + d + 1) (T ++ [f + d]) (by omega) (fun t ht => by
  rcases List.mem_append.1 ht with h1 | h1
  ·
   exact hT t h1
  ·
   rw [List.mem_singleton.1 h1]; omega) (by simp; omega)).1
 have hsuc := mnP_succ A S n f T
 have hfull : mnP A S n f T (S - f) = mnS A S (n + 1) f T := rfl
 have hzero : mnP A S n f T 0 = 0 := rfl
 have hsn := fun d => nz_snoc T (f + d)
 obtain ⟨P, hP⟩ : ∃ P, P = mnP A S n f T := ⟨_, rfl⟩
 obtain ⟨X, hX⟩ : ∃ X : Nat → Int, X = fun d => mnS A S n (f + d + 1) (T ++ [f + d]) := ⟨_, rfl⟩
 have eX : ∀ d, mnS A S n (f + d + 1) (T ++ [f + d]) = X d := fun d => by rw [hX]
 simp only [eX] at hsX hsuc IH
 rw [← hP] at hsm hsuc hfull hzero
 rw [← hfull]
 obtain ⟨R, hR⟩ : ∃ R, R = P (S - f) := ⟨_, rfl⟩
 rw [← hR]
 obtain ⟨tl, htl⟩ : ∃ tl, tl = T.length := ⟨_, rfl⟩
 rw [← htl] at hTr htle hTl IH ⊢
 obtain ⟨TT, hTT⟩ : ∃ TT, TT = ci (nz T) := ⟨_, rfl⟩
 rw [← hTT] at hTr
 simp only [← hTT] at hsn
 have htt : TT.length = tl := by rw [hTT, htl]; simp [ci, nz]
 have hone : ∀ u ∈ TT, u.oneCell' = true := fun u hu => by
  rw [hTT] at hu
  obtain ⟨z, -, rfl⟩ := List.mem_map.1 hu
  rfl
 obtain ⟨m, hm⟩ : ∃ m : Int, m = ((n + 1 : Nat) : Int) := ⟨_, rfl⟩
 rw [← hm]
 have em : (m == 0) = false := by rw [hm]; simp; omega
 have em2 : IntKind.i64.wrap (m - 1) = (n : Int) := by rw [hm]; rw [show ((n + 1 : Nat) : Int) - 1 = (n : Int) by omega]; exact IntWalk.i64_in _ (by omega)
 have b0 := Blk.new w 28 [.bool false, .string ⟨#[]⟩]
 have s0 := (Below.refl w.heap.size w).alloc (Nat.le_refl _) (.cells #[.bool false, .string ⟨#[]⟩] 28)
 obtain ⟨w1, hw1⟩ : ∃ w1, w.alloc (.cells #[.bool false, .string ⟨#[]⟩] 28) = w1 := ⟨_, rfl⟩
 rw [hw1] at b0 s0
 have hz1w := b0.lt
 have bA := Blk.new w1 28 [.bool false, .string ⟨#[]⟩]
 have s2 := (Below.refl w1.heap.size w1).alloc (Nat.le_refl _) (.cells #[.bool false, .string ⟨#[]⟩] 28)
 obtain ⟨W0, hW0⟩ : ∃ W0, w1.alloc (.cells #[.bool false, .string ⟨#[]⟩] 28) = W0 := ⟨_, rfl⟩
 rw [hW0] at bA s2
 have y0 := bA.cell (j := 0) rfl
 have y1 := bA.cell (j := 1) rfl
 have y2 := bA.frozen 0
 have y3 := bA.frozen 1
 have bA2 := (bA.set 0 (.bool false)).set 1 (.string ⟨#[]⟩)
 have s3 := (s2.setCell (p := ⟨w1.heap.size, 0, none⟩) (Nat.le_refl _) (.bool false)).setCell (p := ⟨w1.heap.size, 1, none⟩) (Nat.le_refl _) (.string ⟨#[]⟩)
 have hT1 := hA0.below s0 (Nat.le_refl _)
 have hTr' := hTr.below s0 (Nat.le_refl _)
 have HT := Lib.hid hT1; clear hT1
 have HTR := Lib.hid hTr'; clear hTr'
 have HSM := Lib.hid hsm; clear hsm
 have HSX := Lib.hid hsX; clear hsX
 have HSUC := Lib.hid hsuc; clear hsuc
 have HZERO := Lib.hid hzero; clear hzero
 have HSN := Lib.hid hsn; clear hsn
 have HR := Lib.hid hR; clear hR
 have HTT := Lib.hid htt; clear htt
 have HONE := Lib.hid hone; clear hone
 have IHH := Lib.hid IH; clear IH
 have B0 := Lib.hid b0; clear b0
 have BA := Lib.hid bA2; clear bA2
 have S0 := Lib.hid s0; clear s0
 have S3 := Lib.hid s3; clear s3
 clear hr2 hr3 hr1 hA0 bA s2 hS hTr hT hP hX eX hfull htl hTT hm
 go_enter Tryz.func96, Tryz.ntmps96
 go_wp2_with fail
 clear hw1 hW0 y0 y1 y2 y3
 go_loopw [14, 15] (fun i _ wr => ∃ d : Nat, d ≤ S - f ∧ i = .int .i64 ((f + d : Nat) : Int) ∧ Below w1.heap.size w1 wr ∧ Blk wr w1.heap.size 28 [.bool (ineg (P d)), .string (imag (P d))]) (fun i _ _ => S - (intOf i).toNat)
 case atStart => exact ⟨0, Nat.zero_le _, rfl, S3.out, by rw [HZERO.out, ineg_zero, imag_zero]; exact BA.out⟩
 case round =>
  obtain ⟨d, hd, rfl, hbel, hblk⟩ := hrel
  obtain ⟨wo, rfl⟩ : ∃ wo : World, wo = wr := ⟨_, rfl⟩
  have hszo := hbel.size
  have hbl := hblk.lt
  obtain ⟨i, hi⟩ : ∃ i, i = f + d := ⟨_, rfl⟩
  rw [← hi]
  have hi1 : f + d ≤ i := by omega
  have hi2 : i ≤ f + d := by omega
  by_cases hds : d < S - f
  ·
   have tj : decide ((i : Int) < (S : Int)) = true := by simp; omega
   have hiS : i < S := by omega
   have hst := HSUC.out d
   have hMs := HSM.out d hd
   have hXs := HSX.out d hds
   have hsn := HSN.out d
   have hIH := fun tv' w' => IHH.out d tv' w' hds
   rw [← hi] at hsn hIH
   obtain ⟨M, hM⟩ : ∃ M, M = P d := ⟨_, rfl⟩
   obtain ⟨x, hx⟩ : ∃ x, x = X d := ⟨_, rfl⟩
   rw [← hM, ← hx] at hst
   rw [← hM] at hMs hblk
   rw [← hx] at hXs
   simp only [← hx] at hIH
   have hadd := fun w' => radd_any M x w' (Nat.le_trans hMs.size (by omega)) (Nat.le_trans hXs.size (by omega))
   have hst2 := hst.symm
   have hwi : IntKind.i64.wrap ((i : Int) + 1) = ((i + 1 : Nat) : Int) := by rw [show ((i + 1 : Nat) : Int) = (i : Int) + 1 by omega]; exact IntWalk.i64_in _ (by omega)
   have hmd := World.ownsRow_made wo (#[] : Array Value) 0 (base := wo.heap.size) (e := 3) (size := 1) (Nat.le_refl _) (Nat.zero_le _) rfl
   have s4 := (Below.refl wo.heap.size wo).alloc (Nat.le_refl _) (.cells #[] 3)
   have n4 := hblk.alloc (.cells #[] 3)
   have hTo := (HT.out.below hbel (Nat.le_refl _)).below s4 (Nat.le_refl _)
   have hTRo := (HTR.out.below hbel (Nat.le_refl _)).below s4 (Nat.le_refl _)
   obtain ⟨w4, hw4⟩ : ∃ w4, wo.alloc (.cells #[] 3) = w4 := ⟨_, rfl⟩
   rw [hw4] at hmd s4 n4 hTo hTRo
   have HST := Lib.hid hst2; clear hst2
   have HBEL := Lib.hid hbel; clear hbel
   have HTO := Lib.hid hTo; clear hTo
   have HTRO := Lib.hid hTRo; clear hTRo
   have HADD := Lib.hid hadd; clear hadd
   have HIH := Lib.hid hIH; clear hIH
   have HSND := Lib.hid hsn; clear hsn
   have HMD := Lib.hid hmd; clear hmd
   have S4 := Lib.hid s4; clear s4
   have N4 := Lib.hid n4; clear n4
   clear hst hM hMs hXs hx hblk hi
   go_wp2_with (at_builtin; refine wpList_append_row rfl (.tmp 62) (.tmp 63) 81 rfl wo.heap.size 3 _ 1 8 Tryz.underlying81 infoI64 rfl (by decide) _ _ _ (by rfl) HMD.out _ tl TT (by rfl) HTRO.out (by rw [HTT.out, Nat.mul_one]) HONE.out (by unfold maxLen; omega) (by omega) S4.out.size ?_; intro v5 w5 own5 hg5)
   have s5 : Below wo.heap.size wo w5 := S4.out.grown hg5 S4.out.size (fun jj hj => (HMD.out.lt jj hj).1)
   have n5 := N4.out.grown hg5 (fun e => by have h9 := (HMD.out.lt _ e).1; omega)
   have hTv := HTO.out
   obtain ⟨a5, c5, rfl⟩ := own_slice own5
   rw [Nat.zero_add, List.nil_append] at own5
   clear hg5
   have cN0 := n5.cell (j := 0) rfl
   have cN1 := n5.cell (j := 1) rfl
   have fr0 := n5.frozen 0
   have fr1 := n5.frozen 1
   have hsz5 := s5.size
   have sw := s5.drew
   have nb : Blk w5.drew w1.heap.size 28 [.bool (ineg M), .string (imag M)] := n5
   have oL : w5.drew.ownsRow wo.heap.size 3 1 (.slice a5 tl c5) tl TT := own5
   clear hTv
   have OWN5 := Lib.hid own5; clear own5
   have S5 := Lib.hid s5; clear s5
   go_wp2_with fail
   refine wp_region_held_drew (S := fun _ => True) (by kernel_rfl) trivial (fun hHeld => ?_)
   refine zT 1 (h := ?_)
   (try simp only [Act.put, zA, zB, zC])
   refine zT 2 (h := ?_)
   (try simp only [Act.put, zA, zB, zC])
   refine zT 3 (h := ?_)
   (try simp only [Act.put, zA, zB, zC])
   refine zT 4 (h := ?_)
   (try simp only [Act.put, zA, zB, zC])
   refine zT 5 (h := ?_)
   (try simp only [Act.put, zA, zB, zC])
   refine zT 6 (h := ?_)
   (try simp only [Act.put, zA, zB, zC])
   refine zT 7 (h := ?_)
   (try simp only [Act.put, zA, zB, zC])
   refine wpAnyH_ready (rs := [0, 8]) (by kernel_rfl) (by simp) ?_
   refine AllReadyH.cons rfl (fun K hK => ?_) (AllReadyH.cons rfl (fun K hK => ?_) (AllReadyH.nil))
   ·
    go_simp
    refine hK.out _ _ trivial (fun _ => ?_)
    clear hK K
    (try simp only [Act.put, zA, zB, zC])
    refine zR 8 (h := fun K hK => ?_)
    go_simp
    have sa1 : Below wo.heap.size wo ((w5.alloc (.cells #[.int .i64 (i : Int)] 3)).drew) := (S5.out.alloc S5.out.size (.cells #[.int .i64 (i : Int)] 3)).drew
    have na2 : Blk ((w5.alloc (.cells #[.int .i64 (i : Int)] 3)).drew) w1.heap.size 28 [.bool (ineg M), .string (imag M)] := n5.alloc (.cells #[.int .i64 (i : Int)] 3)
    have oa3 : ((w5.alloc (.cells #[.int .i64 (i : Int)] 3)).drew).ownsRow wo.heap.size 3 1 (.slice a5 tl c5) tl TT := OWN5.out.alloc (.cells #[.int .i64 (i : Int)] 3)
    have ra4 : Row ((w5.alloc (.cells #[.int .i64 (i : Int)] 3)).drew) (.slice (some ⟨w5.heap.size, 0, none⟩) 1 1) 1 [.int .i64 (i : Int)] := Row.ofBlk (Blk.new w5 3 [.int .i64 (i : Int)]) (m := 1) (cap := 1) (Nat.le_refl _) (by unfold maxLen; omega) 1
    refine hK.out _ _ trivial (fun _ => ?_)
    clear hK K
    (try simp only [Act.put, zA, zB, zC])
    obtain ⟨VA5, hVA6⟩ : ∃ V, ((w5.alloc (.cells #[.int .i64 (i : Int)] 3)).drew) = V := ⟨_, rfl⟩
    rw [hVA6] at sa1 na2 oa3 ra4
    (try rw [hVA6])
    clear hVA6
    have hla7 := sa1.size
    clear cN0 cN1 fr0 fr1
    have cN0 := na2.cell (j := 0) rfl
    have cN1 := na2.cell (j := 1) rfl
    have fr0 := na2.frozen 0
    have fr1 := na2.frozen 1
    refine zR 9 (h := fun K hK => ?_)
    refine step_append_row rfl _ _ 81 rfl wo.heap.size 3 _ 1 8 Tryz.underlying81 infoI64 rfl (by decide) _ tl _ (by rfl) oa3 _ 1 _ (by rfl) ra4 rfl (by simp [Value.oneCell']) (by unfold maxLen; omega) (by omega) sa1.size ?_
    intro v11 W10 own9 hg9
    have sa8 : Below wo.heap.size wo W10 := sa1.grown hg9 sa1.size (fun jj hj => (oa3.lt jj hj).1)
    have na9 := na2.grown hg9 (fun e => by have h9 := (oa3.lt _ e).1; omega)
    rw [← HSND.out] at own9
    have hR13 : Row W10 v11 (tl + 1) (ci (nz (T ++ [i]))) := own_row2 own9
    have hT12 := (HT.out.below HBEL.out (Nat.le_refl _)).below sa8 (Nat.le_refl _)
    refine hK.out _ _ trivial (fun _ => ?_)
    clear hK K hg9 own9
    (try simp only [Act.put, zA, zB, zC])
    have hlW10 := sa8.size
    clear cN0 cN1 fr0 fr1
    have cN0 := na9.cell (j := 0) rfl
    have cN1 := na9.cell (j := 1) rfl
    have fr0 := na9.frozen 0
    have fr1 := na9.frozen 1
    refine zR 10 (h := fun K hK => ?_)
    go_simp
    go_at_call 96
    refine (HIH.out _ _ hT12 hR13).mono ?_
    rintro e' wd14 ⟨hq, rfl⟩
    dsimp only
    refine hK.out _ _ trivial (fun _ => ?_)
    clear hK K
    (try simp only [Act.put, zA, zB, zC])
    have sa15 : Below wo.heap.size wo wd14 := sa8.trans (hq.mono sa8.size)
    have na16 := Blk.keep (w := W10) na9 hq
    clear hq
    have hlwd14 := sa15.size
    clear cN0 cN1 fr0 fr1
    have cN0 := na16.cell (j := 0) rfl
    have cN1 := na16.cell (j := 1) rfl
    have fr0 := na16.frozen 0
    have fr1 := na16.frozen 1
    refine zR 11 (h := fun K hK => ?_)
    go_simp
    go_at_call 40
    refine (HADD.out _).mono ?_
    rintro e' wd17 ⟨hq, rfl⟩
    dsimp only
    refine hK.out _ _ trivial (fun _ => ?_)
    clear hK K
    (try simp only [Act.put, zA, zB, zC])
    have sa18 : Below wo.heap.size wo wd17 := sa15.trans (hq.mono sa15.size)
    have na19 := Blk.keep (w := wd14) na16 hq
    clear hq
    have hlwd17 := sa18.size
    clear cN0 cN1 fr0 fr1
    have cN0 := na19.cell (j := 0) rfl
    have cN1 := na19.cell (j := 1) rfl
    have fr0 := na19.frozen 0
    have fr1 := na19.frozen 1
    refine zR 12 (h := fun K hK => ?_)
    go_simp
    refine hK.out _ _ trivial (fun _ => ?_)
    clear hK K
    (try simp only [Act.put, zA, zB, zC])
    have hfin := HBEL.out.trans (sa18.mono HBEL.out.size)
    have nfin := (na19.set 0 (.bool (ineg (M + x)))).set 1 (.string (imag (M + x)))
    have HFIN := Lib.hid hfin; clear hfin
    have NFIN := Lib.hid nfin; clear nfin
    refine wpAnyH_done (by kernel_rfl) ?_ _
    (try simp only [List.getElem_toArray, List.getElem_cons_zero, List.getElem_cons_succ, Act.put, zA, zB, zC])
    go_wp2_with fail
    go_roundw
    case rel => exact ⟨d + 1, by omega, by rw [show f + (d + 1) = i + 1 by omega]; go_num, (HFIN.out.setCell (p := ⟨w1.heap.size, 0, none⟩) (Nat.le_refl _) _).setCell (p := ⟨w1.heap.size, 1, none⟩) (Nat.le_refl _) _, by rw [← HST.out]; exact NFIN.out⟩
    case measure => simp [intOf]; omega
   ·
    go_simp
    have sa20 : Below wo.heap.size wo ((w5.alloc (.cells #[.int .i64 (i : Int)] 3)).drew) := (S5.out.alloc S5.out.size (.cells #[.int .i64 (i : Int)] 3)).drew
    have na21 : Blk ((w5.alloc (.cells #[.int .i64 (i : Int)] 3)).drew) w1.heap.size 28 [.bool (ineg M), .string (imag M)] := n5.alloc (.cells #[.int .i64 (i : Int)] 3)
    have oa22 : ((w5.alloc (.cells #[.int .i64 (i : Int)] 3)).drew).ownsRow wo.heap.size 3 1 (.slice a5 tl c5) tl TT := OWN5.out.alloc (.cells #[.int .i64 (i : Int)] 3)
    have ra23 : Row ((w5.alloc (.cells #[.int .i64 (i : Int)] 3)).drew) (.slice (some ⟨w5.heap.size, 0, none⟩) 1 1) 1 [.int .i64 (i : Int)] := Row.ofBlk (Blk.new w5 3 [.int .i64 (i : Int)]) (m := 1) (cap := 1) (Nat.le_refl _) (by unfold maxLen; omega) 1
    refine hK.out _ _ trivial (fun _ => ?_)
    clear hK K
    (try simp only [Act.put, zA, zB, zC])
    obtain ⟨VA24, hVA25⟩ : ∃ V, ((w5.alloc (.cells #[.int .i64 (i : Int)] 3)).drew) = V := ⟨_, rfl⟩
    rw [hVA25] at sa20 na21 oa22 ra23
    (try rw [hVA25])
    clear hVA25
    have hla26 := sa20.size
    clear cN0 cN1 fr0 fr1
    have cN0 := na21.cell (j := 0) rfl
    have cN1 := na21.cell (j := 1) rfl
    have fr0 := na21.frozen 0
    have fr1 := na21.frozen 1
    refine wpAnyH_ready (rs := [0, 9]) (by kernel_rfl) (by simp) ?_
    refine AllReadyH.cons rfl (fun K hK => ?_) (AllReadyH.cons rfl (fun K hK => ?_) (AllReadyH.nil))
    ·
     go_simp
     refine hK.out _ _ trivial (fun _ => ?_)
     clear hK K
     (try simp only [Act.put, zA, zB, zC])
     refine zR 9 (h := fun K hK => ?_)
     refine step_append_row rfl _ _ 81 rfl wo.heap.size 3 _ 1 8 Tryz.underlying81 infoI64 rfl (by decide) _ tl _ (by rfl) oa22 _ 1 _ (by rfl) ra23 rfl (by simp [Value.oneCell']) (by unfold maxLen; omega) (by omega) sa20.size ?_
     intro v30 W29 own9 hg9
     have sa27 : Below wo.heap.size wo W29 := sa20.grown hg9 sa20.size (fun jj hj => (oa22.lt jj hj).1)
     have na28 := na21.grown hg9 (fun e => by have h9 := (oa22.lt _ e).1; omega)
     rw [← HSND.out] at own9
     have hR32 : Row W29 v30 (tl + 1) (ci (nz (T ++ [i]))) := own_row2 own9
     have hT31 := (HT.out.below HBEL.out (Nat.le_refl _)).below sa27 (Nat.le_refl _)
     refine hK.out _ _ trivial (fun _ => ?_)
     clear hK K hg9 own9
     (try simp only [Act.put, zA, zB, zC])
     have hlW29 := sa27.size
     clear cN0 cN1 fr0 fr1
     have cN0 := na28.cell (j := 0) rfl
     have cN1 := na28.cell (j := 1) rfl
     have fr0 := na28.frozen 0
     have fr1 := na28.frozen 1
     refine zR 10 (h := fun K hK => ?_)
     go_simp
     go_at_call 96
     refine (HIH.out _ _ hT31 hR32).mono ?_
     rintro e' wd33 ⟨hq, rfl⟩
     dsimp only
     refine hK.out _ _ trivial (fun _ => ?_)
     clear hK K
     (try simp only [Act.put, zA, zB, zC])
     have sa34 : Below wo.heap.size wo wd33 := sa27.trans (hq.mono sa27.size)
     have na35 := Blk.keep (w := W29) na28 hq
     clear hq
     have hlwd33 := sa34.size
     clear cN0 cN1 fr0 fr1
     have cN0 := na35.cell (j := 0) rfl
     have cN1 := na35.cell (j := 1) rfl
     have fr0 := na35.frozen 0
     have fr1 := na35.frozen 1
     refine zR 11 (h := fun K hK => ?_)
     go_simp
     go_at_call 40
     refine (HADD.out _).mono ?_
     rintro e' wd36 ⟨hq, rfl⟩
     dsimp only
     refine hK.out _ _ trivial (fun _ => ?_)
     clear hK K
     (try simp only [Act.put, zA, zB, zC])
     have sa37 : Below wo.heap.size wo wd36 := sa34.trans (hq.mono sa34.size)
     have na38 := Blk.keep (w := wd33) na35 hq
     clear hq
     have hlwd36 := sa37.size
     clear cN0 cN1 fr0 fr1
     have cN0 := na38.cell (j := 0) rfl
     have cN1 := na38.cell (j := 1) rfl
     have fr0 := na38.frozen 0
     have fr1 := na38.frozen 1
     refine zR 12 (h := fun K hK => ?_)
     go_simp
     refine hK.out _ _ trivial (fun _ => ?_)
     clear hK K
     (try simp only [Act.put, zA, zB, zC])
     have hfin := HBEL.out.trans (sa37.mono HBEL.out.size)
     have nfin := (na38.set 0 (.bool (ineg (M + x)))).set 1 (.string (imag (M + x)))
     have HFIN := Lib.hid hfin; clear hfin
     have NFIN := Lib.hid nfin; clear nfin
     refine wpAnyH_done (by kernel_rfl) ?_ _
     (try simp only [List.getElem_toArray, List.getElem_cons_zero, List.getElem_cons_succ, Act.put, zA, zB, zC])
     go_wp2_with fail
     go_roundw
     case rel => exact ⟨d + 1, by omega, by rw [show f + (d + 1) = i + 1 by omega]; go_num, (HFIN.out.setCell (p := ⟨w1.heap.size, 0, none⟩) (Nat.le_refl _) _).setCell (p := ⟨w1.heap.size, 1, none⟩) (Nat.le_refl _) _, by rw [← HST.out]; exact NFIN.out⟩
     case measure => simp [intOf]; omega
    ·
     refine step_append_row rfl _ _ 81 rfl wo.heap.size 3 _ 1 8 Tryz.underlying81 infoI64 rfl (by decide) _ tl _ (by rfl) oa22 _ 1 _ (by rfl) ra23 rfl (by simp [Value.oneCell']) (by unfold maxLen; omega) (by omega) sa20.size ?_
     intro v42 W41 own9 hg9
     have sa39 : Below wo.heap.size wo W41 := sa20.grown hg9 sa20.size (fun jj hj => (oa22.lt jj hj).1)
     have na40 := na21.grown hg9 (fun e => by have h9 := (oa22.lt _ e).1; omega)
     rw [← HSND.out] at own9
     have hR44 : Row W41 v42 (tl + 1) (ci (nz (T ++ [i]))) := own_row2 own9
     have hT43 := (HT.out.below HBEL.out (Nat.le_refl _)).below sa39 (Nat.le_refl _)
     refine hK.out _ _ trivial (fun _ => ?_)
     clear hK K hg9 own9
     (try simp only [Act.put, zA, zB, zC])
     have hlW41 := sa39.size
     clear cN0 cN1 fr0 fr1
     have cN0 := na40.cell (j := 0) rfl
     have cN1 := na40.cell (j := 1) rfl
     have fr0 := na40.frozen 0
     have fr1 := na40.frozen 1
     refine wpAnyH_ready (rs := [0, 10]) (by kernel_rfl) (by simp) ?_
     refine AllReadyH.cons rfl (fun K hK => ?_) (AllReadyH.cons rfl (fun K hK => ?_) (AllReadyH.nil))
     ·
      go_simp
      refine hK.out _ _ trivial (fun _ => ?_)
      clear hK K
      (try simp only [Act.put, zA, zB, zC])
      refine zR 10 (h := fun K hK => ?_)
      go_simp
      go_at_call 96
      refine (HIH.out _ _ hT43 hR44).mono ?_
      rintro e' wd45 ⟨hq, rfl⟩
      dsimp only
      refine hK.out _ _ trivial (fun _ => ?_)
      clear hK K
      (try simp only [Act.put, zA, zB, zC])
      have sa46 : Below wo.heap.size wo wd45 := sa39.trans (hq.mono sa39.size)
      have na47 := Blk.keep (w := W41) na40 hq
      clear hq
      have hlwd45 := sa46.size
      clear cN0 cN1 fr0 fr1
      have cN0 := na47.cell (j := 0) rfl
      have cN1 := na47.cell (j := 1) rfl
      have fr0 := na47.frozen 0
      have fr1 := na47.frozen 1
      refine zR 11 (h := fun K hK => ?_)
      go_simp
      go_at_call 40
      refine (HADD.out _).mono ?_
      rintro e' wd48 ⟨hq, rfl⟩
      dsimp only
      refine hK.out _ _ trivial (fun _ => ?_)
      clear hK K
      (try simp only [Act.put, zA, zB, zC])
      have sa49 : Below wo.heap.size wo wd48 := sa46.trans (hq.mono sa46.size)
      have na50 := Blk.keep (w := wd45) na47 hq
      clear hq
      have hlwd48 := sa49.size
      clear cN0 cN1 fr0 fr1
      have cN0 := na50.cell (j := 0) rfl
      have cN1 := na50.cell (j := 1) rfl
      have fr0 := na50.frozen 0
      have fr1 := na50.frozen 1
      refine zR 12 (h := fun K hK => ?_)
      go_simp
      refine hK.out _ _ trivial (fun _ => ?_)
      clear hK K
      (try simp only [Act.put, zA, zB, zC])
      have hfin := HBEL.out.trans (sa49.mono HBEL.out.size)
      have nfin := (na50.set 0 (.bool (ineg (M + x)))).set 1 (.string (imag (M + x)))
      have HFIN := Lib.hid hfin; clear hfin
      have NFIN := Lib.hid nfin; clear nfin
      refine wpAnyH_done (by kernel_rfl) ?_ _
      (try simp only [List.getElem_toArray, List.getElem_cons_zero, List.getElem_cons_succ, Act.put, zA, zB, zC])
      go_wp2_with fail
      go_roundw
      case rel => exact ⟨d + 1, by omega, by rw [show f + (d + 1) = i + 1 by omega]; go_num, (HFIN.out.setCell (p := ⟨w1.heap.size, 0, none⟩) (Nat.le_refl _) _).setCell (p := ⟨w1.heap.size, 1, none⟩) (Nat.le_refl _) _, by rw [← HST.out]; exact NFIN.out⟩
      case measure => simp [intOf]; omega
     ·
      go_simp
      go_at_call 96
      refine (HIH.out _ _ hT43 hR44).mono ?_
      rintro e' wd51 ⟨hq, rfl⟩
      dsimp only
      refine hK.out _ _ trivial (fun _ => ?_)
      clear hK K
      (try simp only [Act.put, zA, zB, zC])
      have sa52 : Below wo.heap.size wo wd51 := sa39.trans (hq.mono sa39.size)
      have na53 := Blk.keep (w := W41) na40 hq
      clear hq
      have hlwd51 := sa52.size
      clear cN0 cN1 fr0 fr1
      have cN0 := na53.cell (j := 0) rfl
      have cN1 := na53.cell (j := 1) rfl
      have fr0 := na53.frozen 0
      have fr1 := na53.frozen 1
      refine zR 0 (h := fun K hK => ?_)
      go_simp
      refine hK.out _ _ trivial (fun _ => ?_)
      clear hK K
      (try simp only [Act.put, zA, zB, zC])
      refine zR 11 (h := fun K hK => ?_)
      go_simp
      go_at_call 40
      refine (HADD.out _).mono ?_
      rintro e' wd54 ⟨hq, rfl⟩
      dsimp only
      refine hK.out _ _ trivial (fun _ => ?_)
      clear hK K
      (try simp only [Act.put, zA, zB, zC])
      have sa55 : Below wo.heap.size wo wd54 := sa52.trans (hq.mono sa52.size)
      have na56 := Blk.keep (w := wd51) na53 hq
      clear hq
      have hlwd54 := sa55.size
      clear cN0 cN1 fr0 fr1
      have cN0 := na56.cell (j := 0) rfl
      have cN1 := na56.cell (j := 1) rfl
      have fr0 := na56.frozen 0
      have fr1 := na56.frozen 1
      refine zR 12 (h := fun K hK => ?_)
      go_simp
      refine hK.out _ _ trivial (fun _ => ?_)
      clear hK K
      (try simp only [Act.put, zA, zB, zC])
      have hfin := HBEL.out.trans (sa55.mono HBEL.out.size)
      have nfin := (na56.set 0 (.bool (ineg (M + x)))).set 1 (.string (imag (M + x)))
      have HFIN := Lib.hid hfin; clear hfin
      have NFIN := Lib.hid nfin; clear nfin
      refine wpAnyH_done (by kernel_rfl) ?_ _
      (try simp only [List.getElem_toArray, List.getElem_cons_zero, List.getElem_cons_succ, Act.put, zA, zB, zC])
      go_wp2_with fail
      go_roundw
      case rel => exact ⟨d + 1, by omega, by rw [show f + (d + 1) = i + 1 by omega]; go_num, (HFIN.out.setCell (p := ⟨w1.heap.size, 0, none⟩) (Nat.le_refl _) _).setCell (p := ⟨w1.heap.size, 1, none⟩) (Nat.le_refl _) _, by rw [← HST.out]; exact NFIN.out⟩
      case measure => simp [intOf]; omega
  ·
   have hds2 : d = S - f := by omega
   have tj : decide ((i : Int) < (S : Int)) = false := by simp; omega
   have hiS : ¬ i < S := by omega
   rw [hds2, ← HR.out] at hblk
   have c0 := hblk.cell (j := 0) rfl
   have c1 := hblk.cell (j := 1) rfl
   have r0 := B0.out.below hbel (by omega)
   have g0 := r0.cell (j := 0) rfl
   have g1 := r0.cell (j := 1) rfl
   have f0 := r0.frozen 0
   have f1 := r0.frozen 1
   have r2 := (r0.set 0 (.bool (ineg R))).set 1 (.string (imag R))
   have e0 := r2.cell (j := 0) rfl
   have e1 := r2.cell (j := 1) rfl
   have s4 := S0.out.trans (hbel.mono S0.out.size)
   have s6 := (s4.setCell (p := ⟨w.heap.size, 0, none⟩) (Nat.le_refl _) (.bool (ineg R))).setCell (p := ⟨w.heap.size, 1, none⟩) (Nat.le_refl _) (.string (imag R))
   have S6 := Lib.hid s6; clear s6
   clear hblk hbel r0 r2 hds2 s4 hi
   go_wp2_with fail
   refine bodyPost_ret (v := IntV R) (by simp [results, Tryz.results96, go_sem, e0, e1, IntV]) rfl ⟨S6.out, rfl⟩
end Go.Proofs.YthpgeeaccmgbkaaGreat


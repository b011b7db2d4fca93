/- Contracts and plain laws of several functions, one after the other: SerE, ExpO, ExpC, PairF, LFun. -/
import Derived.Test.YthpgeeaccmgbkaaGreatRSer
import Derived.Test.YthpgeeaccmgbkaaGreatPart18
import Derived.Test.YthpgeeaccmgbkaaGreatPart1
import Derived.Test.YthpgeeaccmgbkaaGreatRExpO
import Derived.Test.YthpgeeaccmgbkaaGreatRExpN
import Derived.Test.YthpgeeaccmgbkaaGreatRExpE
import Derived.Test.YthpgeeaccmgbkaaGreatExpR
import Derived.Test.YthpgeeaccmgbkaaGreatPart17
import Derived.Test.YthpgeeaccmgbkaaGreatPart6
import Derived.Test.YthpgeeaccmgbkaaGreatAwk22
import Derived.Test.YthpgeeaccmgbkaaGreatPart14
/- The refusals of counting.Series and grooveref22.Series. -/
namespace Go.Proofs.YthpgeeaccmgbkaaGreat
open Go.RowKit

set_option maxRecDepth 100000 in
set_option maxHeartbeats 3200000 in
theorem cser_e1 (L S : Int) (s : Int) (es : List E3) (v : Value) (w : World) (hr : Row w v es.length (ce es)) (hok : okEs es) (hne : chk L S es ≠ 0) :
  Calls Tryz.prog 20 #[.agg #[.int .i64 L, .int .i64 S, v], .int .i64 s] w (SerR [] [] 1 w) := by
 have s0 := (Below.refl w.heap.size w).alloc (Nat.le_refl _) (.cells #[.int .i64 L, .int .i64 S, v] 24)
 have b0 := Blk.new w 24 [.int .i64 L, .int .i64 S, v]
 have hck := check_any L S es v _ (hr.below s0 (Nat.le_refl _)) hok
 obtain ⟨c, hc⟩ : ∃ c, c = chk L S es := ⟨_, rfl⟩
 rw [← hc] at hck
 have x0 := b0.cell (j := 0) rfl
 have x1 := b0.cell (j := 1) rfl
 have x2 := b0.cell (j := 2) rfl
 rw [← hc] at hne
 have hn2 : (c != 0) = true := by simpa using hne
 clear hc hne
 have HCK := Lib.hid hck; clear hck
 have S0 := Lib.hid s0; clear s0
 have B0 := Lib.hid b0; clear b0
 clear hr
 go_enter Tryz.func20, Tryz.ntmps20
 go_wp2_with fail
 go_at_call 31
 refine HCK.out.mono ?_
 rintro e w1 ⟨hq, rfl⟩
 clear x0 x1 x2
 have k0 := B0.out.keep hq
 have y0 := k0.cell (j := 0) rfl
 have y1 := k0.cell (j := 1) rfl
 have y2 := k0.cell (j := 2) rfl
 have s1 := S0.out.trans (hq.mono S0.out.size)
 have S1 := Lib.hid s1; clear s1
 clear k0 hq
 go_wp2_with fail
 refine bodyPost_ret (v := .tuple #[.slice none 0 0, .slice none 0 0, .int .i64 1]) (by simp [results, Tryz.results20, go_sem]) rfl ⟨S1.out, _, _, rfl, Row.nil _, Row.nil _⟩
set_option maxRecDepth 100000 in
set_option maxHeartbeats 3200000 in
theorem cser_e2 (L S : Int) (s : Int) (es : List E3) (v : Value) (w : World) (hr : Row w v es.length (ce es)) (hok : okEs es) (hc0 : chk L S es = 0) (hb : s < 0 ∨ S ≤ s) :
  Calls Tryz.prog 20 #[.agg #[.int .i64 L, .int .i64 S, v], .int .i64 s] w (SerR [] [] 25 w) := by
 have s0 := (Below.refl w.heap.size w).alloc (Nat.le_refl _) (.cells #[.int .i64 L, .int .i64 S, v] 24)
 have b0 := Blk.new w 24 [.int .i64 L, .int .i64 S, v]
 have hck := check_any L S es v _ (hr.below s0 (Nat.le_refl _)) hok
 obtain ⟨c, hc⟩ : ∃ c, c = chk L S es := ⟨_, rfl⟩
 rw [← hc] at hck
 have x0 := b0.cell (j := 0) rfl
 have x1 := b0.cell (j := 1) rfl
 have x2 := b0.cell (j := 2) rfl
 rw [hc0] at hc
 subst hc
 clear hc0
 have hb2 : s < 0 ∨ (¬ s < 0 ∧ S ≤ s) := by omega
 clear hb
 have HCK := Lib.hid hck; clear hck
 have S0 := Lib.hid s0; clear s0
 have B0 := Lib.hid b0; clear b0
 clear hr
 go_enter Tryz.func20, Tryz.ntmps20
 go_wp2_with fail
 go_at_call 31
 refine HCK.out.mono ?_
 rintro e w1 ⟨hq, rfl⟩
 clear x0 x1 x2
 have k0 := B0.out.keep hq
 have y0 := k0.cell (j := 0) rfl
 have y1 := k0.cell (j := 1) rfl
 have y2 := k0.cell (j := 2) rfl
 have s1 := S0.out.trans (hq.mono S0.out.size)
 have S1 := Lib.hid s1; clear s1
 clear k0 hq
 rcases hb2 with hb | ⟨h1, hb⟩
 ·
  go_wp2_with fail
  refine bodyPost_ret (v := .tuple #[.slice none 0 0, .slice none 0 0, .int .i64 25]) (by simp [results, Tryz.results20, go_sem]) rfl ⟨S1.out, _, _, rfl, Row.nil _, Row.nil _⟩
 ·
  go_wp2_with fail
  refine bodyPost_ret (v := .tuple #[.slice none 0 0, .slice none 0 0, .int .i64 25]) (by simp [results, Tryz.results20, go_sem]) rfl ⟨S1.out, _, _, rfl, Row.nil _, Row.nil _⟩
set_option maxRecDepth 100000 in
set_option maxHeartbeats 3200000 in
theorem rser_e1 (L S : Int) (s : Int) (es : List E3) (v : Value) (w : World) (hr : Row w v es.length (ce es)) (hne : chk L S es ≠ 0) :
  Calls Tryz.prog 21 #[.agg #[.int .i64 L, .int .i64 S, v], .int .i64 s] w (SerR [] [] 1 w) := by
 have s0 := (Below.refl w.heap.size w).alloc (Nat.le_refl _) (.cells #[.int .i64 L, .int .i64 S, v] 24)
 have b0 := Blk.new w 24 [.int .i64 L, .int .i64 S, v]
 have hck := rcheck_any L S es v _ (hr.below s0 (Nat.le_refl _))
 obtain ⟨c, hc⟩ : ∃ c, c = chk L S es := ⟨_, rfl⟩
 rw [← hc] at hck
 have x0 := b0.cell (j := 0) rfl
 have x1 := b0.cell (j := 1) rfl
 have x2 := b0.cell (j := 2) rfl
 rw [← hc] at hne
 have hn2 : (c != 0) = true := by simpa using hne
 clear hc hne
 have HCK := Lib.hid hck; clear hck
 have S0 := Lib.hid s0; clear s0
 have B0 := Lib.hid b0; clear b0
 clear hr
 go_enter Tryz.func21, Tryz.ntmps21
 go_wp2_with fail
 go_at_call 35
 refine HCK.out.mono ?_
 rintro e w1 ⟨hq, rfl⟩
 clear x0 x1 x2
 have k0 := B0.out.keep hq
 have y0 := k0.cell (j := 0) rfl
 have y1 := k0.cell (j := 1) rfl
 have y2 := k0.cell (j := 2) rfl
 have s1 := S0.out.trans (hq.mono S0.out.size)
 have S1 := Lib.hid s1; clear s1
 clear k0 hq
 go_wp2_with fail
 refine bodyPost_ret (v := .tuple #[.slice (some ⟨w1.heap.size, 0, none⟩) 0 0, .slice (some ⟨w1.heap.size + 1, 0, none⟩) 0 0, .int .i64 1]) (by simp [results, Tryz.results21, go_sem]) rfl ⟨(S1.out.alloc S1.out.size _).alloc (by have := S1.out.size; simp; omega) _, _, _, rfl, Row.ofBlk ((Blk.new w1 28 []).alloc (.cells #[] 28)) (m := 0) (cap := 0) (Nat.le_refl _) (by unfold maxLen; omega) 0, ?_⟩
 have hb2 := Blk.new (w1.alloc (.cells #[] 28)) 28 []
 simp only [World.size_alloc] at hb2
 exact Row.ofBlk hb2 (m := 0) (cap := 0) (Nat.le_refl _) (by unfold maxLen; omega) 0
set_option maxRecDepth 100000 in
set_option maxHeartbeats 3200000 in
theorem rser_e2 (L S : Int) (s : Int) (es : List E3) (v : Value) (w : World) (hr : Row w v es.length (ce es)) (hc0 : chk L S es = 0) (hb : s < 0 ∨ S ≤ s) :
  Calls Tryz.prog 21 #[.agg #[.int .i64 L, .int .i64 S, v], .int .i64 s] w (SerR [] [] 25 w) := by
 have s0 := (Below.refl w.heap.size w).alloc (Nat.le_refl _) (.cells #[.int .i64 L, .int .i64 S, v] 24)
 have b0 := Blk.new w 24 [.int .i64 L, .int .i64 S, v]
 have hck := rcheck_any L S es v _ (hr.below s0 (Nat.le_refl _))
 obtain ⟨c, hc⟩ : ∃ c, c = chk L S es := ⟨_, rfl⟩
 rw [← hc] at hck
 have x0 := b0.cell (j := 0) rfl
 have x1 := b0.cell (j := 1) rfl
 have x2 := b0.cell (j := 2) rfl
 rw [hc0] at hc
 subst hc
 clear hc0
 have hb2 : s < 0 ∨ (¬ s < 0 ∧ S ≤ s) := by omega
 clear hb
 have HCK := Lib.hid hck; clear hck
 have S0 := Lib.hid s0; clear s0
 have B0 := Lib.hid b0; clear b0
 clear hr
 go_enter Tryz.func21, Tryz.ntmps21
 go_wp2_with fail
 go_at_call 35
 refine HCK.out.mono ?_
 rintro e w1 ⟨hq, rfl⟩
 clear x0 x1 x2
 have k0 := B0.out.keep hq
 have y0 := k0.cell (j := 0) rfl
 have y1 := k0.cell (j := 1) rfl
 have y2 := k0.cell (j := 2) rfl
 have s1 := S0.out.trans (hq.mono S0.out.size)
 have S1 := Lib.hid s1; clear s1
 clear k0 hq
 rcases hb2 with hb | ⟨h1, hb⟩
 ·
  go_wp2_with fail
  refine bodyPost_ret (v := .tuple #[.slice (some ⟨w1.heap.size, 0, none⟩) 0 0, .slice (some ⟨w1.heap.size + 1, 0, none⟩) 0 0, .int .i64 25]) (by simp [results, Tryz.results21, go_sem]) rfl ⟨(S1.out.alloc S1.out.size _).alloc (by have := S1.out.size; simp; omega) _, _, _, rfl, Row.ofBlk ((Blk.new w1 28 []).alloc (.cells #[] 28)) (m := 0) (cap := 0) (Nat.le_refl _) (by unfold maxLen; omega) 0, ?_⟩
  have hb2 := Blk.new (w1.alloc (.cells #[] 28)) 28 []
  simp only [World.size_alloc] at hb2
  exact Row.ofBlk hb2 (m := 0) (cap := 0) (Nat.le_refl _) (by unfold maxLen; omega) 0
 ·
  go_wp2_with fail
  refine bodyPost_ret (v := .tuple #[.slice (some ⟨w1.heap.size, 0, none⟩) 0 0, .slice (some ⟨w1.heap.size + 1, 0, none⟩) 0 0, .int .i64 25]) (by simp [results, Tryz.results21, go_sem]) rfl ⟨(S1.out.alloc S1.out.size _).alloc (by have := S1.out.size; simp; omega) _, _, _, rfl, Row.ofBlk ((Blk.new w1 28 []).alloc (.cells #[] 28)) (m := 0) (cap := 0) (Nat.le_refl _) (by unfold maxLen; omega) 0, ?_⟩
  have hb2 := Blk.new (w1.alloc (.cells #[] 28)) 28 []
  simp only [World.size_alloc] at hb2
  exact Row.ofBlk hb2 (m := 0) (cap := 0) (Nat.le_refl _) (by unfold maxLen; omega) 0
end Go.Proofs.YthpgeeaccmgbkaaGreat

/- counting.Expand, where it answers: den begins with 1 (printed by gen_expg.py). -/
namespace Go.Proofs.YthpgeeaccmgbkaaGreat
open Go.RowKit

set_option maxRecDepth 100000 in
set_option maxHeartbeats 8000000 in
theorem expand_one (p n : Nat) (N D : List Int) (v1 v2 : Value) (w : World) (hr1 : Row w v1 N.length (civ N)) (hr2 : Row w v2 D.length (civ D)) (hN : ∀ z ∈ N, sm p z) (hD : ∀ z ∈ D, sm p z) (hp : p ≤ 1000000) (hl1 : N.length ≤ 65) (hl2 : D.length ≤ 65)
  (h0 : D[0]? = some (1)) (hn : n ≤ 4096) :
  Calls Tryz.prog 22 #[v1, v2, .int .i64 (n : Int)] w (ExpRet n (exL N D n) w) := by
 have hone : one2 (D.getD 0 0) := by rw [List.getD_eq_getElem?_getD, h0]; simp [one2]
 have hD0 : D.getD 0 0 = 1 := by rw [List.getD_eq_getElem?_getD, h0]; rfl
 have hlp : 0 < D.length := by
  rcases D with _ | ⟨x, t⟩
  ·
   cases h0
  ·
   simp
 have hc1 := fun w' h => cfG_civ N v1 w' h (fun z hz => (hN z hz).small hp)
 have hc2 := fun w' h => cfG_civ D v2 w' h (fun z hz => (hD z hz).small hp)
 obtain ⟨va, vc, rfl, hle1⟩ := hr1.slice
 obtain ⟨vb, vd, rfl, hle2⟩ := hr2.slice
 have hxs := exL_sm hN hD hl2 hone
 have hes := fun (k j : Nat) (hj : j ≤ 255) => ecc_sm hN hD (hxs k) k hj
 have hex : ∀ k, exL N D (k + 1) = exL N D k ++ [ecc N D (exL N D k) k (exT D k) * (1)] := fun k => by rw [exL, hD0]
 have hxl := exL_length N D
 have heT : ∀ k, exT D k = min (D.length - 1) k := fun k => rfl
 have hDg : ∀ j, j < D.length → ∃ z, D[j]? = some z ∧ D.getD j 0 = z ∧ sm p z := fun j hj => ⟨D[j], List.getElem?_eq_getElem hj, by rw [List.getD_eq_getElem?_getD, List.getElem?_eq_getElem hj]; rfl, hD _ (List.getElem_mem hj)⟩
 have hNg : ∀ k, (k < N.length → ∃ z, N[k]? = some z ∧ ecc N D (exL N D k) k 0 = z) ∧ (¬ k < N.length → ecc N D (exL N D k) k 0 = 0) := fun k => by
  rw [ecc_zero, List.getD_eq_getElem?_getD]
  refine ⟨fun hk => ⟨N[k], List.getElem?_eq_getElem hk, by rw [List.getElem?_eq_getElem hk]; rfl⟩, fun hk => by rw [List.getElem?_eq_none (by omega)]; rfl⟩
 have hog : ∀ k d, d < k → ∃ z, (exL N D k)[d]? = some z ∧ (exL N D k).getD d 0 = z ∧ sm ((p + 2) * k) z := fun k d hd => by
  have hd2 : d < (exL N D k).length := by rw [exL_length]; exact hd
  exact ⟨(exL N D k)[d], List.getElem?_eq_getElem hd2, by rw [List.getD_eq_getElem?_getD, List.getElem?_eq_getElem hd2]; rfl, hxs k _ (List.getElem_mem hd2)⟩
 have hsu := fun (k j : Nat) => ecc_succ N D (exL N D k) k j
 obtain ⟨m1, hm1⟩ : ∃ m, m = N.length := ⟨_, rfl⟩
 obtain ⟨m2, hm2⟩ : ∃ m, m = D.length := ⟨_, rfl⟩
 rw [← hm1] at hr1 hc1 hl1 ⊢
 rw [← hm2] at hr2 hc2 hl2 hlp ⊢
 simp only [← hm1] at hNg
 simp only [← hm2] at heT hDg
 have t1 : decide (65 < (m1 : Int)) = false := by simp; omega
 have t2 : decide (65 < (m2 : Int)) = false := by simp; omega
 have t3 : ((m2 : Int) == 0) = false := by simp; omega
 have t4 : decide ((n : Int) < 0) = false := by simp
 have t5 : decide (4096 < (n : Int)) = false := by simp; omega
 have hof1 := fun w' => iof_any 1 w' (by decide) (by decide)
 have hof2 := fun w' => iof_any (-1) w' (by decide) (by decide)
 have hc1w := hc1 w hr1
 obtain ⟨b, off, rfl, hbw, hce⟩ := hr2.at_ (by omega)
 have HCE := Lib.hid hce; clear hce
 have hn1 : ∀ w', (binOp .neq 28 (.agg #[.bool (ineg 1), .string (imag 1)]) (.agg #[.bool (ineg 1), .string (imag 1)])).run Tryz.prog w' = .ok (.bool false) w' := fun w' => (neq_int 1 1 w').trans rfl
 have HC1 := Lib.hid hc1w; clear hc1w
 have HC2 := Lib.hid hc2; clear hc2
 have HR1 := Lib.hid hr1; clear hr1
 have HR2 := Lib.hid hr2; clear hr2
 have HXS := Lib.hid hxs; clear hxs
 have HES := Lib.hid hes; clear hes
 have HEX := Lib.hid hex; clear hex
 have HXL := Lib.hid hxl; clear hxl
 have HET := Lib.hid heT; clear heT
 have HDG := Lib.hid hDg; clear hDg
 have HNG := Lib.hid hNg; clear hNg
 have HOG := Lib.hid hog; clear hog
 have HSU := Lib.hid hsu; clear hsu
 have H0 := Lib.hid h0; clear h0
 have HOF1 := Lib.hid hof1; clear hof1
 have HOF2 := Lib.hid hof2; clear hof2
 clear hN hD hc1 hone hD0 hm1 hm2
 go_enter Tryz.func22, Tryz.ntmps22
 go_wp2_with fail
 go_at_call 60
 refine HC1.out.mono ?_
 rintro e w1 ⟨hq, rfl⟩
 have h2 := HC2.out w1 (HR2.out.below hq (Nat.le_refl _))
 have HQ := Lib.hid hq; clear hq
 have H2 := Lib.hid h2; clear h2
 go_wp2_with fail
 go_at_call 60
 refine H2.out.mono ?_
 rintro e w2 ⟨hq, rfl⟩
 have s2 := HQ.out.trans (hq.mono HQ.out.size)
 obtain ⟨c0, c1⟩ := int_cells HCE.out s2 hbw H0.out
 rw [Nat.zero_mul, Nat.add_zero] at c0
 rw [Nat.zero_mul] at c1
 have hbw2 : b < w2.heap.size := by have := s2.size; omega
 have sW := (Below.refl w2.heap.size w2).drew
 have S2 := Lib.hid s2; clear s2
 clear hq
 go_wp2_with fail
 refine wp_region_held_drew (S := fun w' => w'.cell? ⟨b, off, none⟩ = some (.bool (ineg (1))) ∧ w'.cell? ⟨b, off + (0 + 1), none⟩ = some (.string (imag (1)))) (by kernel_rfl) ?_ (fun hHeld => ?_)
 ·
  go_keep
 refine zT 0 (h := ?_)
 (try simp only [Act.put, zA, zB, zC])
 refine zT 1 (h := ?_)
 (try simp only [Act.put, zA, zB, zC])
 refine zT 2 (h := ?_)
 (try simp only [Act.put, zA, zB, zC])
 refine zT 3 (h := ?_)
 (try simp only [Act.put, zA, zB, zC])
 refine zT 4 (h := ?_)
 (try simp only [Act.put, zA, zB, zC])
 refine zT 5 (h := ?_)
 (try simp only [Act.put, zA, zB, zC])
 refine zT 6 (h := ?_)
 (try simp only [Act.put, zA, zB, zC])
 refine zR 7 (h := fun K hK => ?_)
 rw [if_pos (by kernel_rfl)]
 go_simp
 go_at_call 28
 refine (HOF1.out _).mono ?_
 rintro e' wa21 ⟨hq, rfl⟩
 dsimp only
 have z0 := (hq.cell (p := ⟨b, off, none⟩) (show b < w2.heap.size by omega)).trans hHeld.1
 have z1 := (hq.cell (p := ⟨b, off + (0 + 1), none⟩) (show b < w2.heap.size by omega)).trans hHeld.2
 refine hK.out _ _ ⟨z0, z1⟩ (fun hH22 => ?_)
 clear hK K z0  z1
 (try simp only [Act.put, zA, zB, zC])
 have sa23 : Below w2.heap.size w2 wa21 := sW.trans (hq.mono sW.size)
 clear hq
 have hlwa21 : w2.heap.size ≤ wa21.heap.size := sa23.size
 refine zT 8 (h := ?_)
 (try simp only [Act.put, zA, zB, zC])
 refine zT 9 (h := ?_)
 (try simp only [Act.put, zA, zB, zC])
 refine wpAnyH_take (i := 10) (v := undef) rfl (by kernel_rfl) (by kernel_rfl) (by kernel_rfl) (fun _ _ _ h => h) (Or.inr ⟨by kernel_rfl, rfl⟩) (by assumption) ?_
 (try simp only [Act.put, zA, zB, zC])
 refine wpAnyH_take (i := 11) (v := undef) rfl (by kernel_rfl) (by kernel_rfl) (by kernel_rfl) (fun _ _ _ h => h) (Or.inr ⟨by kernel_rfl, rfl⟩) (by assumption) ?_
 (try simp only [Act.put, zA, zB, zC])
 refine wpAnyH_take (i := 12) (v := undef) rfl (by kernel_rfl) (by kernel_rfl) (by kernel_rfl) (fun _ _ _ h => h) (Or.inr ⟨by kernel_rfl, rfl⟩) (by assumption) ?_
 (try simp only [Act.put, zA, zB, zC])
 refine wpAnyH_take (i := 13) (v := undef) rfl (by kernel_rfl) (by kernel_rfl) (by kernel_rfl) (fun _ _ _ h => h) (Or.inr ⟨by kernel_rfl, rfl⟩) (by assumption) ?_
 (try simp only [Act.put, zA, zB, zC])
 refine wpAnyH_take (i := 14) (v := undef) rfl (by kernel_rfl) (by kernel_rfl) (by kernel_rfl) (fun _ _ _ h => h) (Or.inr ⟨by kernel_rfl, rfl⟩) (by assumption) ?_
 (try simp only [Act.put, zA, zB, zC])
 refine zT 15 (h := ?_)
 (try simp only [Act.put, zA, zB, zC])
 refine zT 16 (h := ?_)
 (try simp only [Act.put, zA, zB, zC])
 refine zT 17 (h := ?_)
 (try simp only [Act.put, zA, zB, zC])
 refine wpAnyH_done (by kernel_rfl) ?_ _
 (try simp only [List.getElem_toArray, List.getElem_cons_zero, List.getElem_cons_succ, Act.put, zA, zB, zC])
 have s3 := S2.out.trans (sa23.mono S2.out.size)
 obtain ⟨w3, hw3⟩ : ∃ w3, w3 = wa21 := ⟨_, rfl⟩
 rw [← hw3] at s3
 (try rw [← hw3])
 have S3 := Lib.hid s3; clear s3
 clear hw3 c0 c1 hbw2
 go_wp2_with fail
 go_loopw [9, 57] (fun u i wr => ∃ k : Nat, k ≤ n ∧ i = .int .i64 k ∧ wr.ownsRow w.heap.size 28 2 u k (civ (exL N D k)) ∧ Below w.heap.size w wr) (fun _ i _ => n - (intOf i).toNat)
 case atStart => exact ⟨0, Nat.zero_le _, rfl, World.ownsRow_nil _ _ _ _, S3.out⟩
 case round =>
  obtain ⟨k, hk, rfl, hown, hbel⟩ := hrel
  obtain ⟨wo, rfl⟩ : ∃ wo : World, wo = wr := ⟨_, rfl⟩
  obtain ⟨ua, ucap, rfl⟩ := own_slice hown
  by_cases hkn : k < n
  ·
   have tk : decide ((k : Int) < (n : Int)) = true := by simp; omega
   obtain ⟨hN1, hN2⟩ := HNG.out k
   have hix1 : (0 : Int) ≤ (k : Int) := by omega
   -- the box, and its first value
   obtain ⟨x0, hx0⟩ : ∃ x, x = ecc N D (exL N D k) k 0 := ⟨_, rfl⟩
   have hszo : w.heap.size ≤ wo.heap.size := hbel.size
   have bx := Blk.new wo 28 [.bool false, .string ⟨#[]⟩]
   have sx := (Below.refl wo.heap.size wo).alloc (Nat.le_refl _) (.cells #[.bool false, .string ⟨#[]⟩] 28)
   have hrow := own_row hown
   have HOWN := Lib.hid hown; clear hown
   have HBEL := Lib.hid hbel; clear hbel
   have HROW := Lib.hid hrow; clear hrow
   by_cases hkl : k < m1
   case' pos =>
    have tl : decide ((k : Int) < (m1 : Int)) = true := by simp; omega
    have hix2 : (k : Int) < (m1 : Int) := by omega
    obtain ⟨z, hz1, hz2⟩ := hN1 hkl
    rw [← hx0] at hz2
    obtain ⟨b1, o1, rfl, hb1o, hbc1⟩ := HR1.out.at_ (by omega)
    obtain ⟨q0, q1⟩ := int_cells hbc1 (HBEL.out.trans (sx.mono hszo)) hb1o hz1
    rw [← hz2] at q0 q1
    have bw := Blk.new wo 28 [.bool (ineg x0), .string (imag x0)]
    have sw := (Below.refl wo.heap.size wo).alloc (Nat.le_refl _) (.cells #[.bool (ineg x0), .string (imag x0)] 28)
    have f0 := bx.frozen 0
    have f1 := bx.frozen 1
    have g0 := bx.cell (j := 0) rfl
    have g1 := bx.cell (j := 1) rfl
    rw [hx0] at bw sw
    have BW := Lib.hid bw; clear bw
    have SW0 := Lib.hid sw; clear sw
    clear hN1 hN2 hz1 hz2 hbc1 sx bx
    go_wp2_with fail
   case' neg =>
    have tl : decide ((k : Int) < (m1 : Int)) = false := by simp; omega
    have hz2 := hN2 hkl
    have bw : Blk (wo.alloc (.cells #[.bool false, .string ⟨#[]⟩] 28)) wo.heap.size 28 [.bool (ineg (ecc N D (exL N D k) k 0)), .string (imag (ecc N D (exL N D k) k 0))] := by
     rw [hz2, ineg_zero, imag_zero]; exact bx
    have sw := sx
    have BW := Lib.hid bw; clear bw
    have SW0 := Lib.hid sw; clear sw
    clear hN1 hN2 sx bx hz2
    go_wp2_with fail
   all_goals
    go_loopw [12] (fun i wv => ∃ t : Nat, 1 ≤ t ∧ t ≤ exT D k + 1 ∧ i = .int .i64 (t : Int) ∧ Below wo.heap.size wo wv ∧ Blk wv wo.heap.size 28 [.bool (ineg (ecc N D (exL N D k) k (t - 1))), .string (imag (ecc N D (exL N D k) k (t - 1)))]) (fun i _ => exT D k + 2 - (intOf i).toNat)
    case atStart => exact ⟨1, Nat.le_refl _, by omega, rfl, SW0.out, BW.out⟩
    case round =>
     obtain ⟨t, ht1, htT, rfl, hbe, hblk⟩ := hrel
     obtain ⟨wv, rfl⟩ : ∃ wv : World, wv = wr := ⟨_, rfl⟩
     have hTT := HET.out k
     have hvs := hbe.size
     have hbl := hblk.lt
     by_cases hjT : t ≤ exT D k
     ·
      have tj1 : decide ((t : Int) < (m2 : Int)) = true := by simp; omega
      have tj2 : decide ((t : Int) ≤ (k : Int)) = true := by simp; omega
      obtain ⟨j, hj⟩ : ∃ j, t = j + 1 := ⟨t - 1, by omega⟩
      obtain ⟨d, hd⟩ : ∃ d, d + t = k := ⟨k - t, by omega⟩
      obtain ⟨y, hy1, hy2, hy3⟩ := HDG.out t (by omega)
      obtain ⟨z, hz1, hz2, hz3⟩ := HOG.out k d (by omega)
      have hsu := HSU.out k j
      rw [← hj, hy2, show k - t = d by omega, hz2] at hsu
      rw [show t - 1 = j by omega] at hblk
      have hMs := HES.out k j (by omega)
      obtain ⟨M, hM⟩ : ∃ M, M = ecc N D (exL N D k) k j := ⟨_, rfl⟩
      rw [← hM] at hsu hMs hblk
      have hMS := hsu.symm
      have hk4 : (p + 2) * k ≤ 1000002 * 4096 := Nat.mul_le_mul (by omega) (by omega)
      have hmul := fun w' => imulV y z w' (Nat.le_trans hy3.size (by omega)) (Nat.le_trans hz3.size (by omega))
      have hyz := hy3.mul hz3
      have hsub := fun w' => isub_any (ineg M) (ineg (y * z)) (imag M) (imag (y * z)) w' (Nat.le_trans hMs.size (by omega)) (Nat.le_trans hyz.size (by omega))
      simp only [ival_canon] at hsub
      obtain ⟨q2, q3⟩ := int_cells HCE.out (HBEL.out.trans (hbe.mono hszo)) hbw hy1
      obtain ⟨b3, o3, rfl, hb3o, hbc3⟩ := HROW.out.at_ (by omega)
      obtain ⟨q4, q5⟩ := int_cells hbc3 hbe hb3o hz1
      have hb1v : b < wv.heap.size := by omega
      have hb3v : b3 < wv.heap.size := by omega
      have n1 : ¬ wo.heap.size = b := by omega
      have n2 : ¬ b = wo.heap.size := by omega
      have n3 : ¬ wo.heap.size = b3 := by omega
      have n4 : ¬ b3 = wo.heap.size := by omega
      have hi1 : (0 : Int) ≤ (t : Int) := by omega
      have hi2 : (t : Int) < (m2 : Int) := by omega
      have hi3 : (0 : Int) ≤ (d : Int) := by omega
      have hi4 : (d : Int) < (k : Int) := by omega
      have hdd : (k : Int) - (t : Int) = (d : Int) := by omega
      have hwd : IntKind.i64.wrap (d : Int) = (d : Int) := IntWalk.i64_in _ (by omega)
      have cN0 := hblk.cell (j := 0) rfl
      have cN1 := hblk.cell (j := 1) rfl
      have fr0 := hblk.frozen 0
      have fr1 := hblk.frozen 1
      have nV := hblk.drew
      have sV := (Below.refl wv.heap.size wv).drew
      have HJ := Lib.hid hj; clear hj
      have HD := Lib.hid hd; clear hd
      have HBE := Lib.hid hbe; clear hbe
      have HMS := Lib.hid hMS; clear hMS
      have HMUL := Lib.hid hmul; clear hmul
      have HSUB := Lib.hid hsub; clear hsub
      clear hsu hMs hM hyz hy1 hy2 hy3 hz1 hz2 hz3 hbc3 hblk hk4 hTT
      go_wp2_with fail
      refine wp_region_held_drew (S := fun w' => w'.cell? ⟨b, off + t * 2, none⟩ = some (.bool (ineg y)) ∧ w'.cell? ⟨b, off + t * 2 + 1, none⟩ = some (.string (imag y)) ∧ w'.cell? ⟨b3, o3 + d * 2, none⟩ = some (.bool (ineg z)) ∧ w'.cell? ⟨b3, o3 + d * 2 + 1, none⟩ = some (.string (imag z))) (by kernel_rfl) ?_ (fun hHeld => ?_)
      ·
       go_keep
      refine zT 1 (h := ?_)
      (try simp only [Act.put, zA, zB, zC])
      refine zT 2 (h := ?_)
      (try simp only [Act.put, zA, zB, zC])
      refine zT 3 (h := ?_)
      (try simp only [Act.put, zA, zB, zC])
      refine zT 4 (h := ?_)
      (try simp only [Act.put, zA, zB, zC])
      refine zT 5 (h := ?_)
      (try simp only [Act.put, zA, zB, zC])
      refine zT 6 (h := ?_)
      (try simp only [Act.put, zA, zB, zC])
      refine zT 7 (h := ?_)
      (try simp only [Act.put, zA, zB, zC])
      refine zT 8 (h := ?_)
      (try simp only [Act.put, zA, zB, zC])
      refine zT 9 (h := ?_)
      (try simp only [Act.put, zA, zB, zC])
      refine zT 10 (h := ?_)
      (try simp only [Act.put, zA, zB, zC])
      refine wpAnyH_ready (rs := [0, 11]) (by kernel_rfl) (by simp) ?_
      refine AllReadyH.cons rfl (fun K hK => ?_) (AllReadyH.cons rfl (fun K hK => ?_) (AllReadyH.nil))
      ·
       go_simp
       refine hK.out _ _ ?_ (fun hH1 => ?_)
       ·
        ((try dsimp only); go_keep)
       clear hK K
       (try simp only [Act.put, zA, zB, zC])
       refine zR 11 (h := fun K hK => ?_)
       go_simp
       go_at_call 45
       refine (HMUL.out _).mono ?_
       rintro e' wa2 ⟨hq, rfl⟩
       dsimp only
       have z0 := (hq.cell (p := ⟨b, off + t * 2, none⟩) (show b < wv.heap.size by omega)).trans hH1.1
       have z1 := (hq.cell (p := ⟨b, off + t * 2 + 1, none⟩) (show b < wv.heap.size by omega)).trans hH1.2.1
       have z2 := (hq.cell (p := ⟨b3, o3 + d * 2, none⟩) (show b3 < wv.heap.size by omega)).trans hH1.2.2.1
       have z3 := (hq.cell (p := ⟨b3, o3 + d * 2 + 1, none⟩) (show b3 < wv.heap.size by omega)).trans hH1.2.2.2
       refine hK.out _ _ ⟨z0, z1, z2, z3⟩ (fun hH3 => ?_)
       clear hK K z0  z1  z2  z3
       (try simp only [Act.put, zA, zB, zC])
       have sa4 : Below wv.heap.size wv wa2 := sV.trans (hq.mono sV.size)
       have na5 := Blk.keep (w := wv.drew) nV hq
       clear hq
       have hlwa2 : wv.heap.size ≤ wa2.heap.size := sa4.size
       clear cN0 cN1
       have cN0 := na5.cell (j := 0) rfl
       have cN1 := na5.cell (j := 1) rfl
       have fr0 := na5.frozen 0
       have fr1 := na5.frozen 1
       refine zR 12 (h := fun K hK => ?_)
       go_simp
       go_at_call 61
       refine (HSUB.out _).mono ?_
       rintro e' wa6 ⟨hq, rfl⟩
       dsimp only
       have z0 := (hq.cell (p := ⟨b, off + t * 2, none⟩) (show b < wa2.heap.size by omega)).trans hH3.1
       have z1 := (hq.cell (p := ⟨b, off + t * 2 + 1, none⟩) (show b < wa2.heap.size by omega)).trans hH3.2.1
       have z2 := (hq.cell (p := ⟨b3, o3 + d * 2, none⟩) (show b3 < wa2.heap.size by omega)).trans hH3.2.2.1
       have z3 := (hq.cell (p := ⟨b3, o3 + d * 2 + 1, none⟩) (show b3 < wa2.heap.size by omega)).trans hH3.2.2.2
       refine hK.out _ _ ⟨z0, z1, z2, z3⟩ (fun hH7 => ?_)
       clear hK K z0  z1  z2  z3
       (try simp only [Act.put, zA, zB, zC])
       have sa8 : Below wv.heap.size wv wa6 := sa4.trans (hq.mono sa4.size)
       have na9 := Blk.keep (w := wa2) na5 hq
       clear hq
       have hlwa6 : wv.heap.size ≤ wa6.heap.size := sa8.size
       clear cN0 cN1
       have cN0 := na9.cell (j := 0) rfl
       have cN1 := na9.cell (j := 1) rfl
       have fr0 := na9.frozen 0
       have fr1 := na9.frozen 1
       refine zR 13 (h := fun K hK => ?_)
       go_simp
       refine hK.out _ _ ?_ (fun hH10 => ?_)
       ·
        ((try dsimp only); go_keep)
       clear hK K
       (try simp only [Act.put, zA, zB, zC])
       refine wpAnyH_done (by kernel_rfl) ?_ _
       (try simp only [List.getElem_toArray, List.getElem_cons_zero, List.getElem_cons_succ, Act.put, zA, zB, zC])
       go_wp2_with fail
       go_roundw
       case rel => exact ⟨t + 1, by omega, by omega, by go_num, ((HBE.out.trans (sa8.mono HBE.out.size)).setCell (p := ⟨wo.heap.size, 0, none⟩) (Nat.le_refl _) _).setCell (p := ⟨wo.heap.size, 1, none⟩) (Nat.le_refl _) _, by rw [show t + 1 - 1 = t by omega, ← HMS.out]; exact (na9.set 0 _).set 1 _⟩
       case measure => simp [intOf]; omega
      ·
       go_simp
       go_at_call 45
       refine (HMUL.out _).mono ?_
       rintro e' wa11 ⟨hq, rfl⟩
       dsimp only
       have z0 := (hq.cell (p := ⟨b, off + t * 2, none⟩) (show b < wv.heap.size by omega)).trans hHeld.1
       have z1 := (hq.cell (p := ⟨b, off + t * 2 + 1, none⟩) (show b < wv.heap.size by omega)).trans hHeld.2.1
       have z2 := (hq.cell (p := ⟨b3, o3 + d * 2, none⟩) (show b3 < wv.heap.size by omega)).trans hHeld.2.2.1
       have z3 := (hq.cell (p := ⟨b3, o3 + d * 2 + 1, none⟩) (show b3 < wv.heap.size by omega)).trans hHeld.2.2.2
       refine hK.out _ _ ⟨z0, z1, z2, z3⟩ (fun hH12 => ?_)
       clear hK K z0  z1  z2  z3
       (try simp only [Act.put, zA, zB, zC])
       have sa13 : Below wv.heap.size wv wa11 := sV.trans (hq.mono sV.size)
       have na14 := Blk.keep (w := wv.drew) nV hq
       clear hq
       have hlwa11 : wv.heap.size ≤ wa11.heap.size := sa13.size
       clear cN0 cN1
       have cN0 := na14.cell (j := 0) rfl
       have cN1 := na14.cell (j := 1) rfl
       have fr0 := na14.frozen 0
       have fr1 := na14.frozen 1
       refine zR 0 (h := fun K hK => ?_)
       go_simp
       refine hK.out _ _ ?_ (fun hH15 => ?_)
       ·
        ((try dsimp only); go_keep)
       clear hK K
       (try simp only [Act.put, zA, zB, zC])
       refine zR 12 (h := fun K hK => ?_)
       go_simp
       go_at_call 61
       refine (HSUB.out _).mono ?_
       rintro e' wa16 ⟨hq, rfl⟩
       dsimp only
       have z0 := (hq.cell (p := ⟨b, off + t * 2, none⟩) (show b < wa11.heap.size by omega)).trans hH15.1
       have z1 := (hq.cell (p := ⟨b, off + t * 2 + 1, none⟩) (show b < wa11.heap.size by omega)).trans hH15.2.1
       have z2 := (hq.cell (p := ⟨b3, o3 + d * 2, none⟩) (show b3 < wa11.heap.size by omega)).trans hH15.2.2.1
       have z3 := (hq.cell (p := ⟨b3, o3 + d * 2 + 1, none⟩) (show b3 < wa11.heap.size by omega)).trans hH15.2.2.2
       refine hK.out _ _ ⟨z0, z1, z2, z3⟩ (fun hH17 => ?_)
       clear hK K z0  z1  z2  z3
       (try simp only [Act.put, zA, zB, zC])
       have sa18 : Below wv.heap.size wv wa16 := sa13.trans (hq.mono sa13.size)
       have na19 := Blk.keep (w := wa11) na14 hq
       clear hq
       have hlwa16 : wv.heap.size ≤ wa16.heap.size := sa18.size
       clear cN0 cN1
       have cN0 := na19.cell (j := 0) rfl
       have cN1 := na19.cell (j := 1) rfl
       have fr0 := na19.frozen 0
       have fr1 := na19.frozen 1
       refine zR 13 (h := fun K hK => ?_)
       go_simp
       refine hK.out _ _ ?_ (fun hH20 => ?_)
       ·
        ((try dsimp only); go_keep)
       clear hK K
       (try simp only [Act.put, zA, zB, zC])
       refine wpAnyH_done (by kernel_rfl) ?_ _
       (try simp only [List.getElem_toArray, List.getElem_cons_zero, List.getElem_cons_succ, Act.put, zA, zB, zC])
       go_wp2_with fail
       go_roundw
       case rel => exact ⟨t + 1, by omega, by omega, by go_num, ((HBE.out.trans (sa18.mono HBE.out.size)).setCell (p := ⟨wo.heap.size, 0, none⟩) (Nat.le_refl _) _).setCell (p := ⟨wo.heap.size, 1, none⟩) (Nat.le_refl _) _, by rw [show t + 1 - 1 = t by omega, ← HMS.out]; exact (na19.set 0 _).set 1 _⟩
       case measure => simp [intOf]; omega
     ·
      have htE : t = exT D k + 1 := by omega
      have hMs := HES.out k (exT D k) (by omega)
      have hex := HEX.out k
      rw [show t - 1 = exT D k by omega] at hblk
      obtain ⟨M, hM⟩ : ∃ M, M = ecc N D (exL N D k) k (exT D k) := ⟨_, rfl⟩
      rw [← hM] at hMs hblk hex
      have hk4 : (p + 2) * k ≤ 1000002 * 4096 := Nat.mul_le_mul (by omega) (by omega)
      have hmul := fun w' => imulV M (1) w' (Nat.le_trans hMs.size (by omega)) (Nat.le_trans (show sm 1 (1) by unfold sm; decide).size (by decide))
      obtain ⟨X, hX⟩ : ∃ X, X = M * (1) := ⟨_, rfl⟩
      simp only [← hX] at hmul
      rw [← hX] at hex
      have hciv : civ (exL N D (k + 1)) = civ (exL N D k) ++ [.bool (ineg X), .string (imag X)] := by rw [hex]; exact civ_snoc _ _
      have hnb := hblk
      have HNB := Lib.hid hnb; clear hnb
      obtain ⟨q2, q3⟩ := int_cells HCE.out (HBEL.out.trans (hbe.mono hszo)) hbw H0.out
      rw [Nat.zero_mul, Nat.add_zero] at q2
      rw [Nat.zero_mul] at q3
      have hoV := (own_below HOWN.out hbe).drew
      have hi5 : (0 : Int) < (m2 : Int) := by omega
      have hb1v : b < wv.heap.size := by omega
      have q0 := hblk.cell (j := 0) rfl
      have q1 := hblk.cell (j := 1) rfl
      have hbV := HBEL.out.trans (hbe.mono hszo)
      have sV := (Below.refl wv.heap.size wv).drew
      have HOV := Lib.hid hoV; clear hoV
      have HMUL := Lib.hid hmul; clear hmul
      have HCIV := Lib.hid hciv; clear hciv
      have HBV := Lib.hid hbV; clear hbV
      have HBE := Lib.hid hbe; clear hbe
      clear hMs hM hex hblk hk4 htE hX
      by_cases htm : t < m2
      case' pos =>
       have tj1 : decide ((t : Int) < (m2 : Int)) = true := by simp; omega
       have tj2 : decide ((t : Int) ≤ (k : Int)) = false := by simp; omega
       have tj3 : ¬ (t : Int) ≤ (k : Int) := by omega
       have tj4 : (k : Int) < (t : Int) := by omega
       have tj5 : (t : Int) < (m2 : Int) := by omega
       clear hTT
       go_wp2_with fail
      case' neg =>
       have tj1 : decide ((t : Int) < (m2 : Int)) = false := by simp; omega
       have tj3 : ¬ (t : Int) < (m2 : Int) := by omega
       have tj4 : (m2 : Int) ≤ (t : Int) := by omega
       clear hTT
       go_wp2_with fail
      all_goals
       refine wp_region_held_drew (S := fun w' => w'.cell? ⟨wo.heap.size, 0, none⟩ = some (.bool (ineg M)) ∧ w'.cell? ⟨wo.heap.size, 1, none⟩ = some (.string (imag M)) ∧ w'.cell? ⟨b, off, none⟩ = some (.bool (ineg (1))) ∧ w'.cell? ⟨b, off + (0 + 1), none⟩ = some (.string (imag (1)))) (by kernel_rfl) ?_ (fun hHeld => ?_)
       ·
        go_keep
       refine zT 0 (h := ?_)
       (try simp only [Act.put, zA, zB, zC])
       refine zT 1 (h := ?_)
       (try simp only [Act.put, zA, zB, zC])
       refine zT 2 (h := ?_)
       (try simp only [Act.put, zA, zB, zC])
       refine zT 3 (h := ?_)
       (try simp only [Act.put, zA, zB, zC])
       refine zT 4 (h := ?_)
       (try simp only [Act.put, zA, zB, zC])
       refine zR 5 (h := fun K hK => ?_)
       go_simp
       go_at_call 45
       refine (HMUL.out _).mono ?_
       rintro e' wM ⟨hq, rfl⟩
       dsimp only
       have z0 := (hq.cell (p := ⟨wo.heap.size, 0, none⟩) (show wo.heap.size < wv.heap.size by omega)).trans hHeld.1
       have z1 := (hq.cell (p := ⟨wo.heap.size, 1, none⟩) (show wo.heap.size < wv.heap.size by omega)).trans hHeld.2.1
       have z2 := (hq.cell (p := ⟨b, off, none⟩) (show b < wv.heap.size by omega)).trans hHeld.2.2.1
       have z3 := (hq.cell (p := ⟨b, off + (0 + 1), none⟩) (show b < wv.heap.size by omega)).trans hHeld.2.2.2
       refine hK.out _ _ ⟨z0, z1, z2, z3⟩ (fun hHd => ?_)
       clear hK K z0 z1 z2 z3 q0 q1 q2 q3
       (try simp only [Act.put, zA, zB, zC])
       have oM := own_below HOV.out hq
       have sM : Below wv.heap.size wv wM := sV.trans hq
       have bM := HBV.out.trans (sM.mono HBV.out.size)
       have nM := HNB.out.keep sM
       have hMl := sM.size
       have hMw := bM.size
       clear hq
       have oA := oM.alloc (.cells #[.bool (ineg X), .string (imag X)] 28)
       have bA := bM.alloc bM.size (.cells #[.bool (ineg X), .string (imag X)] 28)
       have nA := nM.alloc (.cells #[.bool (ineg X), .string (imag X)] 28)
       have rA : Row (wM.alloc (.cells #[.bool (ineg X), .string (imag X)] 28)) (.slice (some ⟨wM.heap.size, 0, none⟩) 1 1) 1 [.bool (ineg X), .string (imag X)] := Row.ofBlk (Blk.new wM 28 [.bool (ineg X), .string (imag X)]) (m := 1) (cap := 1) (Nat.le_refl _) (by unfold maxLen; omega) 2
       refine zR 6 (h := fun K hK => ?_)
       go_simp
       refine hK.out _ _ ?_ (fun hHe => ?_)
       ·
        ((try dsimp only); go_keep)
       clear hK K
       (try simp only [Act.put, zA, zB, zC])
       refine zR 7 (h := fun K hK => ?_)
       refine step_append_row rfl _ _ 32 rfl w.heap.size 28 _ 2 24 Tryz.underlying32 infoZ rfl (by decide) _ k _ (by rfl) oA _ 1 _ (by rfl) rA rfl (by simp [Value.oneCell']) (by unfold maxLen; omega) (by omega) bA.size ?_
       intro v9 W9 own9 hg9
       have s9 : Below w.heap.size w W9 := bA.grown hg9 bA.size (fun j hj => (oA.lt j hj).1)
       have n9 := nA.grown hg9 (fun e => by have h9 := HOWN.out.lt _ e; omega)
       obtain ⟨p2, p3⟩ := int_cells HCE.out s9 hbw H0.out
       rw [Nat.zero_mul, Nat.add_zero] at p2
       rw [Nat.zero_mul] at p3
       refine hK.out _ _ ⟨n9.cell (j := 0) rfl, n9.cell (j := 1) rfl, p2, p3⟩ (fun hHf => ?_)
       clear hK K oA bA nA rA oM bM nM sM p2 p3 hHe hHd hHeld
       (try simp only [Act.put, zA, zB, zC])
       obtain ⟨a9, c9, rfl⟩ := own_slice own9
       have OWN9 := Lib.hid own9; clear own9
       have S9 := Lib.hid s9; clear s9
       clear n9 hg9
       refine zT 8 (h := ?_)
       (try simp only [Act.put, zA, zB, zC])
       refine wpAnyH_done (by kernel_rfl) ?_ _
       (try simp only [List.getElem_toArray, List.getElem_cons_zero, List.getElem_cons_succ, Act.put, zA, zB, zC])
       go_wp2_with fail
       go_roundw
       case rel => exact ⟨k + 1, by omega, by go_num, by rw [HCIV.out]; exact OWN9.out, S9.out⟩
       case measure => simp [intOf]; omega
  ·
   have tk : decide ((k : Int) < (n : Int)) = false := by simp; omega
   obtain rfl : k = n := by omega
   have HOWN := Lib.hid hown; clear hown
   have HBEL := Lib.hid hbel; clear hbel
   go_wp2_with fail
   go_ret2
   exact ⟨HBEL.out, _, rfl, HOWN.out⟩
end Go.Proofs.YthpgeeaccmgbkaaGreat

/- counting.Expand at lists that are not too great: it refuses, or it answers. -/
namespace Go.Proofs.YthpgeeaccmgbkaaGreat
open Go.RowKit

theorem sm_size {z : Int} {p : Nat} (h : (imag z).size ≤ p) : sm p z := by
 have h1 := lt_pow_bb z.natAbs
 rw [← imag_size] at h1
 unfold sm
 exact Nat.lt_of_lt_of_le h1 (Nat.pow_le_pow_right (by decide) h)
theorem even_ints {l : List (Bool × ByteArray)} (h : oddB l = false) : l = (l.map fun x => ival x.1 x.2).map fun z => (ineg z, imag z) := by
 rw [List.map_map]
 induction l with
 | nil => rfl
 | cons x l ih =>
  have e : oddB (x :: l) = (!cnB x.1 x.2 || oddB l) := rfl
  rw [e, Bool.or_eq_false_iff] at h
  have hc : cnB x.1 x.2 = true := by simpa using h.1
  have h2 := (cnB_iff _ _).1 hc
  rw [List.map_cons, ← ih h.2]
  show x :: l = (ineg (ival x.1 x.2), imag (ival x.1 x.2)) :: l
  rw [h2.1, h2.2]
end Go.Proofs.YthpgeeaccmgbkaaGreat

/- The program's Series and Expand and the reference's answer the same, at small graphs and lists. -/
namespace Go.Proofs.YthpgeeaccmgbkaaGreat
open Go.RowKit

theorem pair_series (L S s n : Int) (es : List E3) (v : Value) (hok : okEs es) (hS : SmallP S es.length n) :
  ∃ (N D : List Int) (c : Int), (∀ w, Row w v es.length (ce es) → Calls Tryz.prog 20 #[.agg #[.int .i64 L, .int .i64 S, v], .int .i64 s] w (SerR N D c w)) ∧
   (∀ w, Row w v es.length (ce es) → Calls Tryz.prog 21 #[.agg #[.int .i64 L, .int .i64 S, v], .int .i64 s] w (SerR N D c w)) := by
 by_cases hc : chk L S es = 0
 ·
  have hca := chk_all hc
  obtain ⟨g, rfl⟩ : ∃ g : Nat, S = g := ⟨S.toNat, by omega⟩
  have hg : g ≤ 8 := by unfold SmallP at hS; omega
  by_cases hb : s < 0 ∨ (g : Int) ≤ s
  ·
   exact ⟨[], [], 25, fun w hr => cser_e2 L g s es v w hr hok hc hb, fun w hr => rser_e2 L g s es v w hr hc hb⟩
  ·
   obtain ⟨a, rfl⟩ : ∃ a : Nat, s = a := ⟨s.toNat, by omega⟩
   exact ⟨_, _, 0, fun w hr => series_q L g a es v w hr hok hc (by omega) (by omega), fun w hr => rseries_ok L g a es v w hr hc (by omega) (by omega)⟩
 ·
  exact ⟨[], [], 1, fun w hr => cser_e1 L S s es v w hr hok hc, fun w hr => rser_e1 L S s es v w hr hc⟩
theorem lst_nil {f : FuncId} {args : Array Value} {w : World} {c : Int} (h : Calls Tryz.prog f args w (Ret w (.tuple #[.slice none 0 0, .int .i64 c]))) : Calls Tryz.prog f args w (LstRet [] c w) := h.mono (by
 rintro e w' ⟨hq, rfl⟩
 exact ⟨hq, _, rfl, Row.nil _⟩)
theorem lst_exp {f : FuncId} {args : Array Value} {w : World} {n : Nat} {l : List Int} (hl : l.length = n) (h : Calls Tryz.prog f args w (ExpRet n l w)) : Calls Tryz.prog f args w (LstRet l 0 w) := h.mono (by
 rintro e w' ⟨hq, u, rfl, ho⟩
 exact ⟨hq, _, rfl, by rw [hl]; exact own_row ho⟩)
theorem pair_expand (l1 l2 : List (Bool × ByteArray)) (h1 : GLP l1) (h2 : GLP l2) (n : Int) (hn : ¬ (40 < n ∧ n ≤ 4096)) :
  ∃ (l : List Int) (c : Int), (∀ v1 v2 w, Row w v1 l1.length (cnv l1) → Row w v2 l2.length (cnv l2) → Calls Tryz.prog 22 #[v1, v2, .int .i64 n] w (LstRet l c w)) ∧
   (∀ v1 v2 w, Row w v1 l1.length (cnv l1) → Row w v2 l2.length (cnv l2) → Calls Tryz.prog 23 #[v1, v2, .int .i64 n] w (LstRet l c w)) := by
 have hs1 : ∀ x ∈ l1, x.2.size ≤ 1099511627775 := fun x hx => Nat.le_trans (h1.1 x hx) (by decide)
 have hs2 : ∀ x ∈ l2, x.2.size ≤ 1099511627775 := fun x hx => Nat.le_trans (h2.1 x hx) (by decide)
 by_cases ho : (oddB l1 || oddB l2) = true
 ·
  exact ⟨[], 1, fun v1 v2 w r1 r2 => lst_nil (expE_odd l1 l2 v1 v2 n w r1 r2 hs1 hs2 ho), fun v1 v2 w r1 r2 => rexpE_odd l1 l2 v1 v2 n w r1 r2 hs1 hs2 ho⟩
 ·
  have ho' : oddB l1 = false ∧ oddB l2 = false := by simpa using ho
  obtain ⟨ho1, ho2⟩ := ho'
  have e1 := even_ints ho1
  have e2 := even_ints ho2
  obtain ⟨N, hN⟩ : ∃ N, N = l1.map fun x => ival x.1 x.2 := ⟨_, rfl⟩
  obtain ⟨D, hD⟩ : ∃ D, D = l2.map fun x => ival x.1 x.2 := ⟨_, rfl⟩
  have hlN : N.length = l1.length := by rw [hN]; simp
  have hlD : D.length = l2.length := by rw [hD]; simp
  rw [← hN] at e1
  rw [← hD] at e2
  have sN : ∀ z ∈ N, sm 6 z := fun z hz => sm_size (h1.1 (ineg z, imag z) (by rw [e1]; exact List.mem_map.2 ⟨z, hz, rfl⟩))
  have sD : ∀ z ∈ D, sm 6 z := fun z hz => sm_size (h2.1 (ineg z, imag z) (by rw [e2]; exact List.mem_map.2 ⟨z, hz, rfl⟩))
  have c1 : ∀ {v : Value} {w : World}, Row w v l1.length (cnv l1) → Row w v N.length (civ N) := fun h => by rw [hlN, civ_cnv, ← e1]; exact h
  have c2 : ∀ {v : Value} {w : World}, Row w v l2.length (cnv l2) → Row w v D.length (civ D) := fun h => by rw [hlD, civ_cnv, ← e2]; exact h
  by_cases hl : 65 < l1.length ∨ 65 < l2.length
  ·
   refine ⟨[], 4, fun v1 v2 w r1 r2 => lst_nil (expE_len l1 l2 v1 v2 n w r1 r2 hs1 hs2 ho1 ho2 hl), fun v1 v2 w r1 r2 => ?_⟩
   by_cases ha : 65 < N.length
   ·
    exact rexpE_lena 6 n N D v1 v2 w (c1 r1) (c2 r2) sN sD (by decide) ha
   ·
    exact rexpE_lenb 6 n N D v1 v2 w (c1 r1) (c2 r2) sN sD (by decide) ⟨ha, by omega⟩
  ·
   by_cases h0 : l2.length = 0
   ·
    exact ⟨[], 9, fun v1 v2 w r1 r2 => lst_nil (expE_none l1 l2 v1 v2 n w r1 r2 hs1 hs2 ho1 ho2 (by omega) h0), fun v1 v2 w r1 r2 => rexpE_none 6 n N D v1 v2 w (c1 r1) (c2 r2) sN sD (by decide) (by omega) (by omega)⟩
   ·
    obtain ⟨d, t, hdt⟩ : ∃ d t, D = d :: t := by
     rcases D with _ | ⟨d, t⟩
     ·
      exact absurd (by rw [← hlD]; rfl) h0
     ·
      exact ⟨d, t, rfl⟩
    have hD0 : D[0]? = some d := by rw [hdt]; rfl
    have h20 : l2[0]? = some (ineg d, imag d) := by rw [e2, hdt]; rfl
    by_cases hd1 : d = 1
    ·
     subst hd1
     by_cases hn1 : n < 0
     ·
      exact ⟨[], 2, fun v1 v2 w r1 r2 => lst_nil (expE_rng_one 6 n N D v1 v2 w (c1 r1) (c2 r2) sN sD (by decide) (by omega) (by omega) hD0 (.inl hn1)), fun v1 v2 w r1 r2 => rexpE_rng_one 6 n N D v1 v2 w (c1 r1) (c2 r2) sN sD (by decide) (by omega) (by omega) hD0 (.inl hn1)⟩
     ·
      by_cases hn2 : 4096 < n
      ·
       exact ⟨[], 2, fun v1 v2 w r1 r2 => lst_nil (expE_rng_one 6 n N D v1 v2 w (c1 r1) (c2 r2) sN sD (by decide) (by omega) (by omega) hD0 (.inr hn2)), fun v1 v2 w r1 r2 => rexpE_rng_one 6 n N D v1 v2 w (c1 r1) (c2 r2) sN sD (by decide) (by omega) (by omega) hD0 (.inr hn2)⟩
      ·
       obtain ⟨k, rfl⟩ : ∃ k : Nat, n = k := ⟨n.toNat, by omega⟩
       exact ⟨exL N D k, 0, fun v1 v2 w r1 r2 => lst_exp (exL_length N D k) (expand_one 6 k N D v1 v2 w (c1 r1) (c2 r2) sN sD (by decide) (by omega) (by omega) hD0 (by omega)), fun v1 v2 w r1 r2 => lst_exp (exL_length N D k) (rexpand_one 6 k N D v1 v2 w (c1 r1) (c2 r2) sN sD (by decide) (by omega) (by omega) hD0 (by omega))⟩
    ·
     by_cases hd2 : d = -1
     ·
      subst hd2
      by_cases hn1 : n < 0
      ·
       exact ⟨[], 2, fun v1 v2 w r1 r2 => lst_nil (expE_rng_neg 6 n N D v1 v2 w (c1 r1) (c2 r2) sN sD (by decide) (by omega) (by omega) hD0 (.inl hn1)), fun v1 v2 w r1 r2 => rexpE_rng_neg 6 n N D v1 v2 w (c1 r1) (c2 r2) sN sD (by decide) (by omega) (by omega) hD0 (.inl hn1)⟩
      ·
       by_cases hn2 : 4096 < n
       ·
        exact ⟨[], 2, fun v1 v2 w r1 r2 => lst_nil (expE_rng_neg 6 n N D v1 v2 w (c1 r1) (c2 r2) sN sD (by decide) (by omega) (by omega) hD0 (.inr hn2)), fun v1 v2 w r1 r2 => rexpE_rng_neg 6 n N D v1 v2 w (c1 r1) (c2 r2) sN sD (by decide) (by omega) (by omega) hD0 (.inr hn2)⟩
       ·
        obtain ⟨k, rfl⟩ : ∃ k : Nat, n = k := ⟨n.toNat, by omega⟩
        exact ⟨exL N D k, 0, fun v1 v2 w r1 r2 => lst_exp (exL_length N D k) (expand_neg 6 k N D v1 v2 w (c1 r1) (c2 r2) sN sD (by decide) (by omega) (by omega) hD0 (by omega)), fun v1 v2 w r1 r2 => lst_exp (exL_length N D k) (rexpand_neg 6 k N D v1 v2 w (c1 r1) (c2 r2) sN sD (by decide) (by omega) (by omega) hD0 (by omega))⟩
     ·
      exact ⟨[], 9, fun v1 v2 w r1 r2 => lst_nil (expE_den l1 l2 v1 v2 n w r1 r2 hs1 hs2 d ho1 ho2 (by omega) (by omega) h20 hd1 hd2), fun v1 v2 w r1 r2 => rexpE_den 6 n N D v1 v2 w (c1 r1) (c2 r2) sN sD (by decide) (by omega) (by omega) d hD0 hd1 hd2⟩
end Go.Proofs.YthpgeeaccmgbkaaGreat

/- The law CountingFunctions. -/
namespace Go.Proofs.YthpgeeaccmgbkaaGreat
open Go.RowKit

set_option maxRecDepth 100000 in
set_option maxHeartbeats 6400000 in
theorem lfun_all (L S : Int) (es : List E3) (v : Value) (s : Int) (l1 l2 : List (Bool × ByteArray)) (v1 v2 : Value) (n : Int) (w : World) (hr : Row w v es.length (ce es)) (hok : okEs es) (hr1 : Row w v1 l1.length (cnv l1)) (hr2 : Row w v2 l2.length (cnv l2)) :
  Calls Tryz.prog 4 #[.agg #[.int .i64 L, .int .i64 S, v], .int .i64 s, v1, v2, .int .i64 n] w (Ret w (.bool true)) := by
 obtain ⟨va, vc, rfl, hle⟩ := hr.slice
 obtain ⟨ua, uc, rfl, hle1⟩ := hr1.slice
 obtain ⟨ub, ud, rfl, hle2⟩ := hr2.slice
 obtain ⟨mm, hmm⟩ : ∃ mm, mm = es.length := ⟨_, rfl⟩
 have s0 := (Below.refl w.heap.size w).alloc (Nat.le_refl _) (.cells #[.int .i64 L, .int .i64 S, .slice va es.length vc] 24)
 have b0 := Blk.new w 24 [.int .i64 L, .int .i64 S, .slice va es.length vc]
 have hr0 := hr.below s0 (Nat.le_refl _)
 have haw := awake22_true
 have hgr := fun w' => great22_any L S n va es.length vc w'
 have hg1 := fun w' h => greatL_any l1 (.slice ua l1.length uc) w' h
 have hg2 := fun w' h => greatL_any l2 (.slice ub l2.length ud) w' h
 have hps := pair_series L S s n es (.slice va es.length vc) hok
 have hpe := fun h1 h2 hn => pair_expand l1 l2 h1 h2 n hn
 have hr1' := hr1.below s0 (Nat.le_refl _)
 have hr2' := hr2.below s0 (Nat.le_refl _)
 rw [← hmm] at s0 b0 hr0 hgr hps hle hr1' hr2'
 obtain ⟨m1, hm1⟩ : ∃ m1, m1 = l1.length := ⟨_, rfl⟩
 obtain ⟨m2, hm2⟩ : ∃ m2, m2 = l2.length := ⟨_, rfl⟩
 rw [← hm1] at hg1 hr1' hpe hle1
 rw [← hm2] at hg2 hr2' hpe hle2
 rw [← hmm, ← hm1, ← hm2]
 have HAW := Lib.hid haw; clear haw
 have HGR := Lib.hid hgr; clear hgr
 have HG1 := Lib.hid hg1; clear hg1
 have HG2 := Lib.hid hg2; clear hg2
 have HPS := Lib.hid hps; clear hps
 have HPE := Lib.hid hpe; clear hpe
 have S0 := Lib.hid s0; clear s0
 have B0 := Lib.hid b0; clear b0
 have HR0 := Lib.hid hr0; clear hr0
 have HX0 := Lib.hid hr1'; clear hr1'
 have HY0 := Lib.hid hr2'; clear hr2'
 clear hr hr1 hr2 hmm hm1 hm2
 go_enter Tryz.func4, Tryz.ntmps4
 go_wp2_with fail
 go_at_call 6
 refine (HGR.out _).mono ?_
 rintro e w1 ⟨hq, b, rfl, hb⟩
 have s1 := S0.out.trans (hq.mono S0.out.size)
 have hr1 := HR0.out.below hq (Nat.le_refl _)
 have hx1 := HX0.out.below hq (Nat.le_refl _)
 have hy1 := HY0.out.below hq (Nat.le_refl _)
 have tk := B0.out.keep hq; have x0 := tk.cell (j := 0) rfl; have x1 := tk.cell (j := 1) rfl; have x2 := tk.cell (j := 2) rfl; have C0 := Lib.hid tk; clear tk
 have S1 := Lib.hid s1; clear s1
 have HR1 := Lib.hid hr1; clear hr1
 have HX1 := Lib.hid hx1; clear hx1
 have HY1 := Lib.hid hy1; clear hy1
 clear hq
 cases b with
 | true =>
  go_wp2_with fail
  go_at_call 7
  refine (HAW.out _).mono ?_
  rintro e wz ⟨hq, rfl⟩
  have HQ := Lib.hid hq; clear hq
  go_wp2_with fail
  go_ret
  exact ⟨S1.out.trans (HQ.out.mono S1.out.size), rfl⟩
 | false =>
  have hS := hb rfl
  have hn : ¬ (40 < n ∧ n ≤ 4096) := by unfold SmallP at hS; exact hS.2.2
  have HNN := Lib.hid hn; clear hn
  clear hb
  go_wp2_with fail
  go_at_call 19
  refine (HG1.out _ HX1.out).mono ?_
  rintro e w2 ⟨hq, b, rfl, hb⟩
  have s2 := S1.out.trans (hq.mono S1.out.size)
  have hr2 := HR1.out.below hq (Nat.le_refl _)
  have hx2 := HX1.out.below hq (Nat.le_refl _)
  have hy2 := HY1.out.below hq (Nat.le_refl _)
  clear x0 x1 x2
  have tk := C0.out.keep hq; have x0 := tk.cell (j := 0) rfl; have x1 := tk.cell (j := 1) rfl; have x2 := tk.cell (j := 2) rfl; have C2 := Lib.hid tk; clear tk
  have S2 := Lib.hid s2; clear s2
  have HR2 := Lib.hid hr2; clear hr2
  have HX2 := Lib.hid hx2; clear hx2
  have HY2 := Lib.hid hy2; clear hy2
  clear hq
  cases b with
  | true =>
   go_wp2_with fail
   go_at_call 7
   refine (HAW.out _).mono ?_
   rintro e wz ⟨hq, rfl⟩
   have HQ := Lib.hid hq; clear hq
   go_wp2_with fail
   go_ret
   exact ⟨S2.out.trans (HQ.out.mono S2.out.size), rfl⟩
  | false =>
   have hl1 := hb rfl
   have HL1 := Lib.hid hl1; clear hl1
   clear hb
   go_wp2_with fail
   go_at_call 19
   refine (HG2.out _ HY2.out).mono ?_
   rintro e w3 ⟨hq, b, rfl, hb⟩
   have s3 := S2.out.trans (hq.mono S2.out.size)
   have hr3 := HR2.out.below hq (Nat.le_refl _)
   have hx3 := HX2.out.below hq (Nat.le_refl _)
   have hy3 := HY2.out.below hq (Nat.le_refl _)
   clear x0 x1 x2
   have tk := C2.out.keep hq; have x0 := tk.cell (j := 0) rfl; have x1 := tk.cell (j := 1) rfl; have x2 := tk.cell (j := 2) rfl; have C3 := Lib.hid tk; clear tk
   have S3 := Lib.hid s3; clear s3
   have HR3 := Lib.hid hr3; clear hr3
   have HX3 := Lib.hid hx3; clear hx3
   have HY3 := Lib.hid hy3; clear hy3
   clear hq
   cases b with
   | true =>
    go_wp2_with fail
    go_at_call 7
    refine (HAW.out _).mono ?_
    rintro e wz ⟨hq, rfl⟩
    have HQ := Lib.hid hq; clear hq
    go_wp2_with fail
    go_ret
    exact ⟨S3.out.trans (HQ.out.mono S3.out.size), rfl⟩
   | false =>
    have hl2 := hb rfl
    obtain ⟨l, c2, g2, r2⟩ := HPE.out HL1.out hl2 HNN.out
    obtain ⟨N, D, c1, g1, r1⟩ := HPS.out hS
    have heN := fun va vb w' => equalI_yes N va vb w'
    have heD := fun va vb w' => equalI_yes D va vb w'
    have heL := fun va vb w' => equalI_yes l va vb w'
    have G1 := Lib.hid g1; clear g1
    have R1 := Lib.hid r1; clear r1
    have G2 := Lib.hid g2; clear g2
    have R2 := Lib.hid r2; clear r2
    have HEN := Lib.hid heN; clear heN
    have HED := Lib.hid heD; clear heD
    have HEL := Lib.hid heL; clear heL
    clear hb hl2 hS
    go_wp2_with fail
    -- the series
    go_at_call 20
    refine (G1.out _ HR3.out).mono ?_
    rintro e w4 ⟨hq, a1, b1, rfl, ra1, rb1⟩
    have s4 := S3.out.trans (hq.mono S3.out.size)
    have hr4 := HR3.out.below hq (Nat.le_refl _)
    have hx4 := HX3.out.below hq (Nat.le_refl _)
    have hy4 := HY3.out.below hq (Nat.le_refl _)
    clear x0 x1 x2
    have tk := C3.out.keep hq; have x0 := tk.cell (j := 0) rfl; have x1 := tk.cell (j := 1) rfl; have x2 := tk.cell (j := 2) rfl; have C4 := Lib.hid tk; clear tk
    have S4 := Lib.hid s4; clear s4
    have HR4 := Lib.hid hr4; clear hr4
    have HX4 := Lib.hid hx4; clear hx4
    have HY4 := Lib.hid hy4; clear hy4
    have RA1 := Lib.hid ra1; clear ra1
    have RB1 := Lib.hid rb1; clear rb1
    clear hq
    go_wp2_with fail
    go_at_call 21
    refine (R1.out _ HR4.out).mono ?_
    rintro e w5 ⟨hq, a2, b2, rfl, ra2, rb2⟩
    have s5 := S4.out.trans (hq.mono S4.out.size)
    have hx5 := HX4.out.below hq (Nat.le_refl _)
    have hy5 := HY4.out.below hq (Nat.le_refl _)
    have ra1 := RA1.out.below hq (Nat.le_refl _)
    have rb1 := RB1.out.below hq (Nat.le_refl _)
    have S5 := Lib.hid s5; clear s5
    have HX5 := Lib.hid hx5; clear hx5
    have HY5 := Lib.hid hy5; clear hy5
    have RA15 := Lib.hid ra1; clear ra1
    have RB15 := Lib.hid rb1; clear rb1
    have RA25 := Lib.hid ra2; clear ra2
    have RB25 := Lib.hid rb2; clear rb2
    clear hq x0 x1 x2
    go_wp2_with fail
    go_at_call 22
    refine (G2.out _ _ _ HX5.out HY5.out).mono ?_
    rintro e w6 ⟨hq, u1, rfl, ru1⟩
    have s6 := S5.out.trans (hq.mono S5.out.size)
    have hx6 := HX5.out.below hq (Nat.le_refl _)
    have hy6 := HY5.out.below hq (Nat.le_refl _)
    have ra1 := RA15.out.below hq (Nat.le_refl _)
    have rb1 := RB15.out.below hq (Nat.le_refl _)
    have ra2 := RA25.out.below hq (Nat.le_refl _)
    have rb2 := RB25.out.below hq (Nat.le_refl _)
    have S6 := Lib.hid s6; clear s6
    have HX6 := Lib.hid hx6; clear hx6
    have HY6 := Lib.hid hy6; clear hy6
    have RA16 := Lib.hid ra1; clear ra1
    have RB16 := Lib.hid rb1; clear rb1
    have RA26 := Lib.hid ra2; clear ra2
    have RB26 := Lib.hid rb2; clear rb2
    have RU16 := Lib.hid ru1; clear ru1
    clear hq
    go_wp2_with fail
    go_at_call 23
    refine (R2.out _ _ _ HX6.out HY6.out).mono ?_
    rintro e w7 ⟨hq, u2, rfl, ru2⟩
    have s7 := S6.out.trans (hq.mono S6.out.size)
    have ra1 := RA16.out.below hq (Nat.le_refl _)
    have rb1 := RB16.out.below hq (Nat.le_refl _)
    have ra2 := RA26.out.below hq (Nat.le_refl _)
    have rb2 := RB26.out.below hq (Nat.le_refl _)
    have ru1 := RU16.out.below hq (Nat.le_refl _)
    have S7 := Lib.hid s7; clear s7
    have RA17 := Lib.hid ra1; clear ra1
    have RB17 := Lib.hid rb1; clear rb1
    have RA27 := Lib.hid ra2; clear ra2
    have RB27 := Lib.hid rb2; clear rb2
    have RU17 := Lib.hid ru1; clear ru1
    have RU27 := Lib.hid ru2; clear ru2
    clear hq
    go_wp2_with fail
    go_at_call 18
    refine (HEN.out _ _ _ RA17.out RA27.out).mono ?_
    rintro e w8 ⟨hq, rfl⟩
    have s8 := S7.out.trans (hq.mono S7.out.size)
    have rb1 := RB17.out.below hq (Nat.le_refl _)
    have rb2 := RB27.out.below hq (Nat.le_refl _)
    have ru1 := RU17.out.below hq (Nat.le_refl _)
    have ru2 := RU27.out.below hq (Nat.le_refl _)
    have S8 := Lib.hid s8; clear s8
    have RB18 := Lib.hid rb1; clear rb1
    have RB28 := Lib.hid rb2; clear rb2
    have RU18 := Lib.hid ru1; clear ru1
    have RU28 := Lib.hid ru2; clear ru2
    clear hq
    go_wp2_with fail
    go_at_call 18
    refine (HED.out _ _ _ RB18.out RB28.out).mono ?_
    rintro e w9 ⟨hq, rfl⟩
    have s9 := S8.out.trans (hq.mono S8.out.size)
    have ru1 := RU18.out.below hq (Nat.le_refl _)
    have ru2 := RU28.out.below hq (Nat.le_refl _)
    have S9 := Lib.hid s9; clear s9
    have RU19 := Lib.hid ru1; clear ru1
    have RU29 := Lib.hid ru2; clear ru2
    clear hq
    go_wp2_with fail
    go_at_call 18
    refine (HEL.out _ _ _ RU19.out RU29.out).mono ?_
    rintro e w10 ⟨hq, rfl⟩
    have s10 := S9.out.trans (hq.mono S9.out.size)
    have S10 := Lib.hid s10; clear s10
    clear hq
    go_wp2_with fail
    go_at_call 7
    refine (HAW.out _).mono ?_
    rintro e wz ⟨hq, rfl⟩
    have HQ := Lib.hid hq; clear hq
    go_wp2_with fail
    go_ret
    exact ⟨S10.out.trans (HQ.out.mono S10.out.size), rfl⟩
end Go.Proofs.YthpgeeaccmgbkaaGreat


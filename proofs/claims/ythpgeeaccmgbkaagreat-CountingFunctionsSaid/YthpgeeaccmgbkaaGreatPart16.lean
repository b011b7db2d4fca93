/- Contracts and plain laws of several functions, one after the other: Trace, Char, CharC, PsC. -/
import Derived.Test.YthpgeeaccmgbkaaGreatPart10
import Derived.Test.YthpgeeaccmgbkaaGreatMSum
import Derived.Test.YthpgeeaccmgbkaaGreatPart12
import Derived.Test.YthpgeeaccmgbkaaGreatPart13
import Derived.Test.YthpgeeaccmgbkaaGreatPart14
import Derived.Test.YthpgeeaccmgbkaaGreatPart6
/- matrix.trace. -/
namespace Go.Proofs.YthpgeeaccmgbkaaGreat
open Go.RowKit

def trM (M : List (List Int)) (j : Nat) : Int := ((List.range j).map fun s => ent M s s).sum
theorem trM_succ (M : List (List Int)) (j : Nat) : trM M (j + 1) = trM M j + ent M j j := by
 unfold trM; rw [List.range_succ, List.map_append]; exact sum_snoc _ _
theorem trM_sm {M : List (List Int)} {n m p : Nat} (h : MatOk M n m p) (j : Nat) (hj : j ≤ 255) : sm (p + 1) (trM M j) := by
 refine sm_sum' (fun z hz => ?_) (by simpa using hj)
 obtain ⟨s, -, rfl⟩ := List.mem_map.1 hz
 exact h.ent s s
set_option maxRecDepth 100000 in
set_option maxHeartbeats 6400000 in
theorem trace_any (n p : Nat) (M : List (List Int)) (v : Value) (w : World) (hT : Tab w v M) (okM : MatOk M n n p) (hn : n ≤ 100) (hp : p ≤ 1000000) :
  Calls Tryz.prog 115 #[v] w (Ret w (IntV (trM M n))) := by
 have hT' := hT
 obtain ⟨rvs, h1, h2, h3⟩ := hT'
 obtain ⟨va, vc, rfl, hle⟩ := h2.slice
 rw [okM.len] at hT hle ⊢
 clear h1 h2 h3 rvs
 have br := (Blk.new w 28 [.bool false, .string ⟨#[]⟩]).alloc (.cells #[.bool false, .string ⟨#[]⟩] 28)
 have bs := Blk.new (w.alloc (.cells #[.bool false, .string ⟨#[]⟩] 28)) 28 [.bool false, .string ⟨#[]⟩]
 have s0 := ((Below.refl w.heap.size w).alloc (Nat.le_refl _) (.cells #[.bool false, .string ⟨#[]⟩] 28)).alloc (by simp) (.cells #[.bool false, .string ⟨#[]⟩] 28)
 simp only [World.size_alloc] at bs
 have hT0 := hT
 have HPT := Lib.hid hT0; clear hT0
 have BR := Lib.hid br; clear br
 have BS := Lib.hid bs; clear bs
 have S0 := Lib.hid s0; clear s0
 clear hT
 go_enter Tryz.func115, Tryz.ntmps115
 go_wp2_with fail
 go_loopw [8] (fun i wx => ∃ j : Nat, j ≤ n ∧ i = .int .i64 (j : Int) ∧ Below w.heap.size w wx ∧ Blk wx w.heap.size 28 [.bool false, .string ⟨#[]⟩] ∧ Blk wx (w.heap.size + 1) 28 [.bool (ineg (trM M j)), .string (imag (trM M j))]) (fun i _ => n - (intOf i).toNat)
 case atStart =>
  have h0 : trM M 0 = 0 := rfl
  exact ⟨0, Nat.zero_le _, rfl, S0.out, BR.out, by rw [h0, ineg_zero, imag_zero]; exact BS.out⟩
 case round =>
  obtain ⟨j, hj, rfl, hbx, hbr, hbs⟩ := hrel
  obtain ⟨wx, rfl⟩ : ∃ wx : World, wx = wr := ⟨_, rfl⟩
  by_cases hlt : j < n
  ·
   obtain ⟨rvs, h1, h2, h3⟩ := HPT.out
   rw [okM.len] at h2
   obtain ⟨b6, o6, he6, hb6, hc6⟩ := h2.at_ (by omega)
   obtain ⟨rfl, -⟩ : va = some ⟨b6, o6, none⟩ ∧ True := ⟨he6, trivial⟩
   have hmj : M[j]? = some (M[j]'(by rw [okM.len]; exact hlt)) := List.getElem?_eq_getElem _
   obtain ⟨r, hrd⟩ : ∃ r, r = M[j]'(by rw [okM.len]; exact hlt) := ⟨_, rfl⟩
   rw [← hrd] at hmj
   have hrl := okM.row r (List.mem_of_getElem? hmj)
   obtain ⟨rv, g1, g2⟩ := h3 j _ hmj
   obtain ⟨ra, rc, rfl, -⟩ := g2.slice
   rw [hrl] at g2 g1
   obtain ⟨rb, ro, rfl, hrb, hcr⟩ := g2.at_ (by omega)
   have hjr : j < r.length := by rw [hrl]; exact hlt
   have hz0 : r[j]? = some (r[j]'hjr) := List.getElem?_eq_getElem _
   have hz : r[j]? = some (ent M j j) := by rw [ent_get hmj hz0]; exact hz0
   have c0 := (hbx.cell (p := ⟨b6, o6 + j, none⟩) hb6).trans (hc6 j _ g1)
   obtain ⟨z0, z1⟩ := int_cells hcr hbx hrb hz
   obtain ⟨X, hX⟩ : ∃ X, X = ent M j j := ⟨_, rfl⟩
   obtain ⟨T, hT⟩ : ∃ T, T = trM M j := ⟨_, rfl⟩
   have hsu := trM_succ M j
   have sX : sm p X := by rw [hX]; exact okM.ent j j
   have sT : sm (p + 1) T := by rw [hT]; exact trM_sm okM j (by omega)
   rw [← hX] at z0 z1
   rw [← hX, ← hT] at hsu
   rw [← hT] at hbs
   have hadd := fun w' => iadd_any (ineg T) (ineg X) (imag T) (imag X) w' (Nat.le_trans sT.size (by omega)) (Nat.le_trans sX.size (by omega))
   simp only [ival_canon] at hadd
   have cN0 := hbs.cell (j := 0) rfl
   have cN1 := hbs.cell (j := 1) rfl
   have hix1 : (0 : Int) ≤ (j : Int) := by omega
   have hix2 : (j : Int) < (n : Int) := by omega
   have hbsl := hbs.lt
   have hne1 : ¬ rb = (w.heap.size + 1) := by omega
   have hne2 : ¬ (w.heap.size + 1) = rb := by omega
   clear h1 h2 h3 hc6 hcr g1 g2 hz hz0 hX hT sX sT hmj hrd hrl hjr
   have HSU := Lib.hid hsu; clear hsu
   have HADD := Lib.hid hadd; clear hadd
   have HBX := Lib.hid hbx; clear hbx
   have HBS := Lib.hid hbs; clear hbs
   have HBR := Lib.hid hbr; clear hbr
   clear okM
   go_wp2_with fail
   refine wp_region_held_drew (S := fun w' => w'.cell? ⟨rb, ro + j * 2, none⟩ = some (.bool (ineg X)) ∧ w'.cell? ⟨rb, ro + j * 2 + 1, none⟩ = some (.string (imag X))) (by kernel_rfl) ?_ (fun hHeld => ?_)
   ·
    go_keep
   refine zT 1 (h := ?_)
   (try simp only [Act.put, zA, zB, zC])
   refine zT 2 (h := ?_)
   (try simp only [Act.put, zA, zB, zC])
   refine zT 3 (h := ?_)
   (try simp only [Act.put, zA, zB, zC])
   refine zT 4 (h := ?_)
   (try simp only [Act.put, zA, zB, zC])
   refine zR 0 (h := fun K hK => ?_)
   go_simp
   refine hK.out _ _ ?_ (fun hHeld => ?_)
   ·
    ((try dsimp only); go_keep)
   clear hK K
   (try simp only [Act.put, zA, zB, zC])
   refine zR 5 (h := fun K hK => ?_)
   go_simp
   go_at_call 44
   refine (HADD.out _).mono ?_
   rintro e w5 ⟨hq, rfl⟩
   dsimp only
   have y0 := (hq.cell (p := ⟨rb, ro + j * 2, none⟩) (show rb < wx.heap.size by omega)).trans hHeld.1
   have y1 := (hq.cell (p := ⟨rb, ro + j * 2 + 1, none⟩) (show rb < wx.heap.size by omega)).trans hHeld.2
   refine hK.out _ _ ⟨y0, y1⟩ (fun hHeld2 => ?_)
   clear hK K y0 y1
   (try simp only [Act.put, zA, zB, zC])
   have n5 := Blk.keep (w := wx.drew) HBS.out hq
   have r5 := Blk.keep (w := wx.drew) HBR.out hq
   have r6 := (r5.setOther (a := ⟨w.heap.size + 1, 0, none⟩) (by show w.heap.size + 1 ≠ w.heap.size; omega) (.bool (ineg (T + X)))).setOther (a := ⟨w.heap.size + 1, 1, none⟩) (by show w.heap.size + 1 ≠ w.heap.size; omega) (.string (imag (T + X)))
   have HR6 := Lib.hid r6; clear r6
   clear r5
   have hb5 := HBX.out.drew.trans (hq.mono HBX.out.size)
   have f0 := n5.frozen 0
   have f1 := n5.frozen 1
   have d0 := n5.cell (j := 0) rfl
   have d1 := n5.cell (j := 1) rfl
   have hst := (n5.set 0 (.bool (ineg (T + X)))).set 1 (.string (imag (T + X)))
   have HST := Lib.hid hst; clear hst
   have HB5 := Lib.hid hb5; clear hb5
   clear hq cN0 cN1 n5
   refine zR 6 (h := fun K hK => ?_)
   go_simp
   refine hK.out _ _ ?_ (fun hHeld => ?_)
   ·
    ((try dsimp only); go_keep)
   clear hK K
   (try simp only [Act.put, zA, zB, zC])
   refine wpAnyH_done (by kernel_rfl) ?_ _
   (try simp only [List.getElem_toArray, List.getElem_cons_zero, List.getElem_cons_succ, Act.put, zA, zB, zC])
   clear hHeld hHeld2
   go_wp2_with fail
   go_roundw
   case rel => exact ⟨j + 1, by omega, by go_num, (HB5.out.setCell (p := ⟨w.heap.size + 1, 0, none⟩) (Nat.le_succ _) _).setCell (p := ⟨w.heap.size + 1, 1, none⟩) (Nat.le_succ _) _, HR6.out, by rw [HSU.out]; exact HST.out⟩
   case measure => simp [intOf]; omega
  ·
   obtain rfl : j = n := by omega
   obtain ⟨Z, hZ⟩ : ∃ Z, Z = trM M j := ⟨_, rfl⟩
   rw [← hZ] at hbs
   have z0 := hbs.cell (j := 0) rfl
   have z1 := hbs.cell (j := 1) rfl
   have f0 := hbr.frozen 0
   have f1 := hbr.frozen 1
   have d0 := hbr.cell (j := 0) rfl
   have d1 := hbr.cell (j := 1) rfl
   have HBR := Lib.hid hbr; clear hbr
   have S5 := Lib.hid hbx; clear hbx
   have HZ := Lib.hid hZ; clear hZ
   clear hbs okM
   go_wp2_with fail
   rw [← HZ.out]
   have e0 := ((HBR.out.set 0 (.bool (ineg Z))).set 1 (.string (imag Z))).cell (j := 0) rfl
   have e1 := ((HBR.out.set 0 (.bool (ineg Z))).set 1 (.string (imag Z))).cell (j := 1) rfl
   have s6 := (S5.out.setCell (p := ⟨w.heap.size, 0, none⟩) (Nat.le_refl _) (.bool (ineg Z))).setCell (p := ⟨w.heap.size, 1, none⟩) (Nat.le_refl _) (.string (imag Z))
   exact bodyPost_ret (v := IntV Z) (by simp [results, Tryz.results115, go_sem, e0, e1]) rfl ⟨s6, rfl⟩
end Go.Proofs.YthpgeeaccmgbkaaGreat

/- matrix.characteristic, square, Characteristic: given the quotients. -/
namespace Go.Proofs.YthpgeeaccmgbkaaGreat
open Go.RowKit

/-- The matrices that lead to the polynomial, with the quotients c. -/
def chM (A : List (List Int)) (n : Nat) (c : Nat → Int) : Nat → List (List Int)
 | 0 => matF n n (diagF 1)
 | k + 1 => matF n n (addF (matF n n (mulF A (chM A n c k))) (matF n n (diagF (c (k + 1)))))
def nxM (A : List (List Int)) (n : Nat) (c : Nat → Int) (k : Nat) : List (List Int) := matF n n (mulF A (chM A n c k))
/-- The coefficients of which j - 1 are done. -/
def pL (c : Nat → Int) (n j : Nat) : List Int := (List.range (n + 1)).map fun q => if q = n then 1 else if n - q < j then c (n - q) else 0
theorem pL_length (c : Nat → Int) (n j : Nat) : (pL c n j).length = n + 1 := by simp [pL]
theorem pL_one (c : Nat → Int) (n : Nat) : (List.replicate (n + 1) (0 : Int)).set n 1 = pL c n 1 := by
 apply List.ext_getElem
 ·
  simp [pL]
 ·
  intro i h1 h2
  have hi : i < n + 1 := by simpa using h1
  rw [List.getElem_set]
  simp only [pL, List.getElem_map, List.getElem_range, List.getElem_replicate]
  by_cases e : n = i
  ·
   subst e; simp
  ·
   rw [if_neg e, if_neg (by omega), if_neg (by omega)]
theorem pL_step (c : Nat → Int) {n j : Nat} (h1 : 1 ≤ j) (hj : j ≤ n) : (pL c n j).set (n - j) (c j) = pL c n (j + 1) := by
 apply List.ext_getElem
 ·
  simp [pL]
 ·
  intro i h1 h2
  have hi : i < n + 1 := by simpa [pL] using h2
  rw [List.getElem_set]
  simp only [pL, List.getElem_map, List.getElem_range]
  by_cases e : n - j = i
  ·
   rw [if_pos e, if_neg (by omega), if_pos (by omega)]
   congr 1; omega
  ·
   rw [if_neg e]
   by_cases e2 : i = n
   ·
    rw [if_pos e2, if_pos e2]
   ·
    rw [if_neg e2, if_neg e2]
    by_cases h : n - i < j
    ·
     rw [if_pos h, if_pos (by omega)]
    ·
     rw [if_neg h, if_neg (by omega)]
theorem diag_ok {z : Int} {p : Nat} (n : Nat) (h : sm p z) : MatOk (matF n n (diagF z)) n n p := matF_ok (fun i k => by
 unfold diagF
 split
 ·
  exact h
 ·
  unfold sm; exact Nat.pow_pos (by decide))
theorem MatB.other {B : Nat} {w : World} {b0 m : Nat} {rows : List (List Int)} (h : MatB B w b0 m rows) {d : Nat} (hd : d < B) (j : Nat) (u : Value) : MatB B (w.setCell ⟨d, j, none⟩ u) b0 m rows := by
 obtain ⟨bs, h1, h2, h3, h4, h5⟩ := h
 exact ⟨bs, h1, h2, h3, h4.setOther (by show d ≠ b0; omega) _, fun i r hr => by obtain ⟨g0, b, g1, g2, g3⟩ := h5 i r hr; exact ⟨g0, b, g1, g2, g3.setOther (by show d ≠ b; omega) _⟩⟩
def ChRet (A : List (List Int)) (n : Nat) (c : Nat → Int) (w : World) (e : Ending) (w' : World) : Prop :=
 Below w.heap.size w w' ∧ ∃ pb bm, e = .returned (.tuple #[.slice (some ⟨pb, 0, none⟩) (n + 1) (n + 1), .slice (some ⟨bm, 0, none⟩) n n]) ∧ Blk w' pb 28 (civ (pL c n (n + 1))) ∧ w.heap.size ≤ pb
set_option maxRecDepth 100000 in
set_option maxHeartbeats 8000000 in
theorem char_any (n P : Nat) (A : List (List Int)) (v : Value) (c r : Nat → Int) (w : World) (hT : Tab w v A) (okA : MatOk A n n P) (hn0 : 0 < n) (hn : n ≤ 32) (hP : P ≤ 40000) (hP1 : 1 ≤ P)
  (hch : ∀ j, j < n → MatOk (chM A n c j) n n P) (hc : ∀ j, j ≤ n → sm P (c j))
  (hdiv : ∀ j, j < n → ∀ w', Calls Tryz.prog 46 #[IntV (-(trM (nxM A n c j) n)), IntV ((j : Int) + 1)] w' (Ret w' (.tuple #[IntV (c (j + 1)), IntV (r j), .int .i64 0]))) :
  Calls Tryz.prog 93 #[v] w (ChRet A n c w) := by
 obtain ⟨rvs, h1, h2, -⟩ := id hT
 obtain ⟨aa, ca, rfl, hla⟩ := h2.slice
 rw [okA.len] at hT hla ⊢
 clear h1 h2 rvs
 have hof1 := fun w' => iof_any 1 w' (by decide) (by decide)
 have hofk := fun (j : Nat) (hj : j ≤ 32) w' => iof_any ((j : Int) + 1) w' (by omega) (by omega)
 have hsc := fun z w' => scalar_any n z w' (by omega)
 have hpr := fun (j : Nat) (hj : j < n) (bm : Nat) (w' : World) (hb : Below w.heap.size w w') (hM : MatB 0 w' bm n (chM A n c j)) =>
  product_any n n n P A (chM A n c j) (.slice aa n ca) (.slice (some ⟨bm, 0, none⟩) n n) w' (hT.below hb (Nat.le_refl _))
   (by have := (hM.tabB (by rw [(hch j hj).len]; omega) (by omega)).tab; rwa [(hch j hj).len] at this) okA (hch j hj) (by omega) hn0 (by omega) (by omega) (by omega)
 have hnx : ∀ j, j < n → MatOk (nxM A n c j) n n (P + P + 1) := fun j hj => mmul_ok okA (hch j hj) (by omega)
 have htr := fun (j : Nat) (hj : j < n) (bm : Nat) (w' : World) (hM : MatB 0 w' bm n (nxM A n c j)) =>
  trace_any n (P + P + 1) (nxM A n c j) (.slice (some ⟨bm, 0, none⟩) n n) w' (by have := (hM.tabB (by rw [(hnx j hj).len]; omega) (by omega)).tab; rwa [(hnx j hj).len] at this) (hnx j hj) (by omega) (by omega)
 have htz : ∀ j, j < n → sm (P + P + 2) (trM (nxM A n c j) n) := fun j hj => trM_sm (hnx j hj) n (by omega)
 have hsu := fun (j : Nat) (hj : j < n) (z : Int) (hz : sm P z) (ba bb : Nat) (w' : World) (hM : MatB 0 w' ba n (nxM A n c j)) (hD : MatB 0 w' bb n (matF n n (diagF z))) =>
  msum_any n n (P + P + 1) (nxM A n c j) (matF n n (diagF z)) (.slice (some ⟨ba, 0, none⟩) n n) (.slice (some ⟨bb, 0, none⟩) n n) w' (by have := (hM.tabB (by rw [(hnx j hj).len]; omega) (by omega)).tab; rwa [(hnx j hj).len] at this)
   (by have := (hD.tabB (by rw [matF_length]; omega) (by omega)).tab; rwa [matF_length] at this) (hnx j hj) (diag_ok n (hz.mono (by omega))) hn0 (by omega) hn0 (by omega) (by omega)
 have hneg := fun (z : Int) (w' : World) (hz : sm (P + P + 2) z) => neg_any (ineg z) (imag z) w' (Nat.le_trans hz.size (by omega))
 simp only [ival_canon] at hneg
 have hmk := mkI (n + 1) (by omega) ((n : Int) + 1) (by omega)
 have s0 := (Below.refl w.heap.size w).alloc (Nat.le_refl _) (.cells (zarr (.agg #[.bool false, .string ⟨#[]⟩]) (n + 1)) 28)
 have bp := blk_mkI w (n + 1)
 have hx1 : (0 : Int) ≤ (n : Int) := by omega
 have hx2 : (n : Int) < (n : Int) + 1 := by omega
 have hx3 : n < n + 1 := by omega
 have hp0 : (List.replicate (n + 1) (0 : Int))[n]? = some 0 := by simp
 have HOF1 := Lib.hid hof1; clear hof1
 have HOFK := Lib.hid hofk; clear hofk
 have HSC := Lib.hid hsc; clear hsc
 have HPR := Lib.hid hpr; clear hpr
 have HTR := Lib.hid htr; clear htr
 have HTZ := Lib.hid htz; clear htz
 have HNEG := Lib.hid hneg; clear hneg
 have HDIV := Lib.hid hdiv; clear hdiv
 have HSUM := Lib.hid hsu; clear hsu
 have S0 := Lib.hid s0; clear s0
 have BP := Lib.hid bp; clear bp
 have HC := Lib.hid hc; clear hc
 clear hT
 go_enter Tryz.func93, Tryz.ntmps93
 go_wp2_with fail
 go_at_call 28
 refine (HOF1.out _).mono ?_
 rintro e w1 ⟨hq, rfl⟩
 have s1 := S0.out.trans (hq.mono S0.out.size)
 have bp1 := BP.out.keep hq
 have f0 := bp1.frozen (n * 2)
 have f1 := bp1.frozen (n * 2 + 1)
 have d0 := bp1.cell (civ_get hp0).1
 have d1 := bp1.cell (civ_get hp0).2
 have bp2 := (bp1.set (n * 2) (.bool (ineg 1))).set (n * 2 + 1) (.string (imag 1))
 rw [civ_set, pL_one c n] at bp2
 have s2 := (s1.setCell (p := ⟨w.heap.size, n * 2, none⟩) (Nat.le_refl _) (.bool (ineg 1))).setCell (p := ⟨w.heap.size, n * 2 + 1, none⟩) (Nat.le_refl _) (.string (imag 1))
 have hg1 : (pL c n 1)[n]? = some 1 := by simp [pL]
 have BP2 := Lib.hid bp2; clear bp2
 have S2 := Lib.hid s2; clear s2
 clear hq bp1 s1
 have g0 := BP2.out.cell (civ_get hg1).1
 have g1 := BP2.out.cell (civ_get hg1).2
 go_wp2_with fail
 go_at_call 109
 refine (HSC.out _ _).mono ?_
 rintro e w3 ⟨hq, b3, rfl, hm3⟩
 obtain ⟨w2, hw2⟩ : ∃ w2, (w1.setCell ⟨w.heap.size, n * 2, none⟩ (.bool (ineg 1))).setCell ⟨w.heap.size, n * 2 + 1, none⟩ (.string (imag 1)) = w2 := ⟨_, rfl⟩
 rw [hw2] at hq hm3 BP2 S2
 have s3 := S2.out.trans (hq.mono S2.out.size)
 have bp3 := BP2.out.keep hq
 have hM3 := hm3.mono (Nat.zero_le _)
 have S3 := Lib.hid s3; clear s3
 have BP3 := Lib.hid bp3; clear bp3
 have HM3 := Lib.hid hM3; clear hM3
 clear hq hm3 hw2 f0 f1 d0 d1 g0 g1 hmk
 go_wp2_with fail
 go_loopw [6, 7] (fun m k wr => ∃ (j bm : Nat), j < n ∧ k = .int .i64 ((j : Int) + 1) ∧ m = .slice (some ⟨bm, 0, none⟩) n n ∧ Below w.heap.size w wr ∧ MatB 0 wr bm n (chM A n c j) ∧ Blk wr w.heap.size 28 (civ (pL c n (j + 1)))) (fun _ k _ => n + 1 - (intOf k).toNat)
 case atStart => exact ⟨0, b3, hn0, rfl, rfl, S3.out, HM3.out, BP3.out⟩
 case round =>
  obtain ⟨j, bm, hj, rfl, rfl, hbel, hM, hbp⟩ := hrel
  obtain ⟨wo, rfl⟩ : ∃ wo : World, wo = wr := ⟨_, rfl⟩
  have hpj := HPR.out j hj bm wo hbel hM
  have HPJ := Lib.hid hpj; clear hpj
  have HBEL := Lib.hid hbel; clear hbel
  have HBP := Lib.hid hbp; clear hbp
  go_wp2_with fail
  go_at_call 111
  refine HPJ.out.mono ?_
  rintro e w4 ⟨hq, b4, rfl, hm4⟩
  have s4 := HBEL.out.trans (hq.mono HBEL.out.size)
  have bp4 := HBP.out.keep hq
  have hN4 := hm4.mono (show w.heap.size + 1 ≤ wo.heap.size from HBP.out.lt)
  have S4 := Lib.hid s4; clear s4
  have BP4 := Lib.hid bp4; clear bp4
  have HN4 := Lib.hid hN4; clear hN4
  clear hq hm4
  obtain ⟨q, hqq⟩ : ∃ q : Nat, (n : Int) - ((j : Int) + 1) = (q : Int) := ⟨n - (j + 1), by omega⟩
  have hqn : q < n + 1 := by omega
  have hqe : q = n - (j + 1) := by omega
  have htj := HTR.out j hj b4 w4 (HN4.out.mono (Nat.zero_le _))
  have htzj := HTZ.out j hj
  have hdj := HDIV.out j hj
  have hofj := HOFK.out j (by omega)
  have hcj := HC.out (j + 1) (by omega)
  obtain ⟨T, hT⟩ : ∃ T, T = trM (nxM A n c j) n := ⟨_, rfl⟩
  rw [← hT] at htj htzj hdj
  have hnj := fun w' => HNEG.out T w' htzj
  obtain ⟨C, hC⟩ : ∃ C, C = c (j + 1) := ⟨_, rfl⟩
  rw [← hC] at hdj hcj
  have hpq : (pL c n (j + 1))[q]? = some ((pL c n (j + 1))[q]'(by rw [pL_length]; exact hqn)) := List.getElem?_eq_getElem _
  have hst := pL_step c (n := n) (j := j + 1) (by omega) (by omega)
  rw [← hqe, ← hC] at hst
  have hsj := HSUM.out j hj C hcj
  have hx4 : (0 : Int) ≤ (q : Int) := by omega
  have hx5 : (q : Int) < (n : Int) + 1 := by omega
  have hlast : ((j : Int) + 1 == (n : Int)) = decide (j + 1 = n) := by
   by_cases h : j + 1 = n
   ·
    rw [← h]; simp
   ·
    have : ¬ (j : Int) + 1 = (n : Int) := by omega
    simp [h, this]
  have HLAST := Lib.hid hlast; clear hlast
  have HST := Lib.hid hst; clear hst
  have HTJ := Lib.hid htj; clear htj
  have HNJ := Lib.hid hnj; clear hnj
  have HDJ := Lib.hid hdj; clear hdj
  have HOFJ := Lib.hid hofj; clear hofj
  have HSJ := Lib.hid hsj; clear hsj
  have HPQ := Lib.hid hpq; clear hpq
  have HCC := Lib.hid hC; clear hC
  clear hT htzj hcj hqe
  go_wp2_with fail
  go_at_call 115
  refine HTJ.out.mono ?_
  rintro e w5 ⟨hq, rfl⟩
  have s5 := S4.out.trans (hq.mono S4.out.size)
  have bp5 := BP4.out.keep hq
  have hN5 := HN4.out.keep hq
  have hM5 := Lib.hid hM
  have S5 := Lib.hid s5; clear s5
  have BP5 := Lib.hid bp5; clear bp5
  have HN5 := Lib.hid hN5; clear hN5
  clear hq
  go_wp2_with fail
  go_at_call 99
  refine (HNJ.out _).mono ?_
  rintro e w6 ⟨hq, rfl⟩
  have s6 := S5.out.trans (hq.mono S5.out.size)
  have bp6 := BP5.out.keep hq
  have hN6 := HN5.out.keep hq
  have S6 := Lib.hid s6; clear s6
  have BP6 := Lib.hid bp6; clear bp6
  have HN6 := Lib.hid hN6; clear hN6
  clear hq
  go_wp2_with fail
  go_at_call 28
  refine (HOFJ.out _).mono ?_
  rintro e w7 ⟨hq, rfl⟩
  have s7 := S6.out.trans (hq.mono S6.out.size)
  have bp7 := BP6.out.keep hq
  have hN7 := HN6.out.keep hq
  have S7 := Lib.hid s7; clear s7
  have BP7 := Lib.hid bp7; clear bp7
  have HN7 := Lib.hid hN7; clear hN7
  clear hq
  go_wp2_with fail
  go_at_call 46
  refine (HDJ.out _).mono ?_
  rintro e w8 ⟨hq, rfl⟩
  have s8 := S7.out.trans (hq.mono S7.out.size)
  have bp8 := BP7.out.keep hq
  have hN8 := HN7.out.keep hq
  have f0 := bp8.frozen (q * 2)
  have f1 := bp8.frozen (q * 2 + 1)
  have d0 := bp8.cell (civ_get HPQ.out).1
  have d1 := bp8.cell (civ_get HPQ.out).2
  have S8 := Lib.hid s8; clear s8
  have BP8 := Lib.hid bp8; clear bp8
  have HN8 := Lib.hid hN8; clear hN8
  clear hq
  have bp9 := (BP8.out.set (q * 2) (.bool (ineg C))).set (q * 2 + 1) (.string (imag C))
  rw [civ_set, HST.out] at bp9
  have s9 := (S8.out.setCell (p := ⟨w.heap.size, q * 2, none⟩) (Nat.le_refl _) (.bool (ineg C))).setCell (p := ⟨w.heap.size, q * 2 + 1, none⟩) (Nat.le_refl _) (.string (imag C))
  have hbl8 := BP8.out.lt
  have BP9 := Lib.hid bp9; clear bp9
  have S9 := Lib.hid s9; clear s9
  by_cases hend : j + 1 = n
  ·
   have t0 : ((j : Int) + 1 == (n : Int)) = true := by rw [HLAST.out]; simp [hend]
   clear hend
   go_wp2_with fail
   go_ret2
   have hjn : j + 1 + 1 = n + 1 := by
    have h := HLAST.out
    rw [t0] at h
    have h2 := of_decide_eq_true h.symm
    omega
   have bp10 := BP9.out
   rw [hjn] at bp10
   exact ⟨S9.out, w.heap.size, bm, rfl, bp10, Nat.le_refl _⟩
  ·
   have t0 : ((j : Int) + 1 == (n : Int)) = false := by rw [HLAST.out]; simp [hend]
   have hjn : j + 1 < n := by omega
   have hg9 : (pL c n (j + 1 + 1))[q]? = some C := by
    rw [← HST.out]
    rw [List.getElem?_set_self (by rw [pL_length]; exact hqn)]
   have hN9 : MatB 0 ((w8.setCell ⟨w.heap.size, q * 2, none⟩ (.bool (ineg C))).setCell ⟨w.heap.size, q * 2 + 1, none⟩ (.string (imag C))) b4 n (nxM A n c j) := ((HN8.out.other (Nat.lt_succ_self _) _ _).other (Nat.lt_succ_self _) _ _).mono (Nat.zero_le _)
   have HN9 := Lib.hid hN9; clear hN9
   have g0 := BP9.out.cell (civ_get hg9).1
   have g1 := BP9.out.cell (civ_get hg9).2
   clear hend
   go_wp2_with fail
   go_at_call 109
   refine (HSC.out _ _).mono ?_
   rintro e w10 ⟨hq, b10, rfl, hm10⟩
   have s10 := S9.out.trans (hq.mono S9.out.size)
   have bp10 := BP9.out.keep hq
   have hN10 := HN9.out.keep hq
   have hsj := HSJ.out b4 b10 w10 hN10 (hm10.mono (Nat.zero_le _))
   have S10 := Lib.hid s10; clear s10
   have BP10 := Lib.hid bp10; clear bp10
   have HSJ10 := Lib.hid hsj; clear hsj
   clear hq hm10 g0 g1 f0 f1 d0 d1 hN10
   go_wp2_with fail
   go_at_call 116
   refine HSJ10.out.mono ?_
   rintro e w11 ⟨hq, b11, rfl, hm11⟩
   have s11 := S10.out.trans (hq.mono S10.out.size)
   have bp11 := BP10.out.keep hq
   have hM11 := hm11.mono (Nat.zero_le _)
   have hM12 : MatB 0 w11 b11 n (chM A n c (j + 1)) := by
    rw [chM, ← HCC.out]; exact hM11
   have S11 := Lib.hid s11; clear s11
   have BP11 := Lib.hid bp11; clear bp11
   have HM12 := Lib.hid hM12; clear hM12
   clear hq hm11 hM11
   go_wp2_with fail
   go_roundw
   case rel => exact ⟨j + 1, b11, hjn, by go_num, rfl, S11.out, HM12.out, BP11.out⟩
   case measure => simp [intOf]; omega
end Go.Proofs.YthpgeeaccmgbkaaGreat

/- matrix.square, Characteristic. -/
namespace Go.Proofs.YthpgeeaccmgbkaaGreat
open Go.RowKit

set_option maxRecDepth 100000 in
set_option maxHeartbeats 3200000 in
theorem square_any (n p : Nat) (A : List (List Int)) (v : Value) (w : World) (hA : Tab w v A) (okA : MatOk A n n p) (hn0 : 0 < n) (hn : n ≤ 32) (hp : p ≤ 1000000) :
  Calls Tryz.prog 92 #[v] w (Ret w (.int .i64 0)) := by
 obtain ⟨ba, oa, ca, a', c', rfl, hba, hca⟩ := tab_first hA okA hn0
 have hAl := okA.len
 rw [hAl] at hA ⊢
 have bs := Blk.new w 70 [.slice (some ⟨ba, oa, none⟩) n ca]
 have s0 := (Below.refl w.heap.size w).alloc (Nat.le_refl _) (.cells #[.slice (some ⟨ba, oa, none⟩) n ca] 70)
 obtain ⟨w1, hw1⟩ : ∃ w1, w.alloc (.cells #[.slice (some ⟨ba, oa, none⟩) n ca] 70) = w1 := ⟨_, rfl⟩
 rw [hw1] at bs s0
 have hA1 := hA.below s0 (Nat.le_refl _)
 have hbad := bad_any [(some ⟨ba, oa, none⟩, n, ca)] (.slice (some ⟨w.heap.size, 0, none⟩) 1 1) w1
  (Row.ofBlk bs (m := 1) (cap := 1) (Nat.le_refl _) (by decide) 1)
  (fun x hx => by
   simp only [List.mem_cons, List.not_mem_nil, or_false] at hx
   subst hx
   exact ⟨n, n, p, A, hA1, okA, hn0, hn, hn0, hn, by omega⟩)
 have t0 : ((n : Int) == (n : Int)) = true := by simp
 have hn1 : (0 : Int) < (n : Int) := by omega
 have g0 := (s0.cell (p := ⟨ba, oa, none⟩) hba).trans hca
 have hs1 := s0.size
 have hba1 : ba < w1.heap.size := by omega
 have HBAD := Lib.hid hbad; clear hbad
 have S0 := Lib.hid s0; clear s0
 clear bs hA hA1 hca hAl okA
 go_enter Tryz.func92, Tryz.ntmps92
 go_wp2_with fail
 go_at_call 110
 refine HBAD.out.mono ?_
 rintro e w2 ⟨hq, rfl⟩
 have s2 := S0.out.trans (hq.mono S0.out.size)
 have g1 := (hq.cell (p := ⟨ba, oa, none⟩) hba1).trans g0
 have S2 := Lib.hid s2; clear s2
 clear hq g0
 go_wp2_with fail
 go_ret
 exact ⟨S2.out, rfl⟩
def ChRet1 (n : Nat) (c : Nat → Int) (w : World) (e : Ending) (w' : World) : Prop :=
 Below w.heap.size w w' ∧ ∃ pb, e = .returned (.tuple #[.slice (some ⟨pb, 0, none⟩) (n + 1) (n + 1), .int .i64 0]) ∧ Blk w' pb 28 (civ (pL c n (n + 1))) ∧ w.heap.size ≤ pb
set_option maxRecDepth 100000 in
set_option maxHeartbeats 3200000 in
theorem Char_any (n P : Nat) (A : List (List Int)) (v : Value) (c r : Nat → Int) (w : World) (hT : Tab w v A) (okA : MatOk A n n P) (hn0 : 0 < n) (hn : n ≤ 32) (hP : P ≤ 40000) (hP1 : 1 ≤ P)
  (hch : ∀ j, j < n → MatOk (chM A n c j) n n P) (hc : ∀ j, j ≤ n → sm P (c j))
  (hdiv : ∀ j, j < n → ∀ w', Calls Tryz.prog 46 #[IntV (-(trM (nxM A n c j) n)), IntV ((j : Int) + 1)] w' (Ret w' (.tuple #[IntV (c (j + 1)), IntV (r j), .int .i64 0]))) :
  Calls Tryz.prog 51 #[v] w (ChRet1 n c w) := by
 have hsq := square_any n P A v w hT okA hn0 hn (by omega)
 have hcc := fun w' h => char_any n P A v c r w' h okA hn0 hn hP hP1 hch hc hdiv
 obtain ⟨rvs, h1, h2, -⟩ := id hT
 obtain ⟨aa, ca, rfl, hla⟩ := h2.slice
 clear h1 h2 hdiv
 have HSQ := Lib.hid hsq; clear hsq
 have HCC := Lib.hid hcc; clear hcc
 have HT := Lib.hid hT; clear hT
 go_enter Tryz.func51, Tryz.ntmps51
 go_wp2_with fail
 go_at_call 92
 refine HSQ.out.mono ?_
 rintro e w1 ⟨hq, rfl⟩
 have hT1 := HT.out.below hq (Nat.le_refl _)
 have S1 := Lib.hid hq; clear hq
 have HT1 := Lib.hid hT1; clear hT1
 go_wp2_with fail
 go_at_call 93
 refine (HCC.out _ HT1.out).mono ?_
 rintro e w2 ⟨hq, pb, bm, rfl, hb, hle⟩
 have s2 := S1.out.trans (hq.mono S1.out.size)
 have hle2 : w.heap.size ≤ pb := Nat.le_trans S1.out.size hle
 have S2 := Lib.hid s2; clear s2
 have HB := Lib.hid hb; clear hb
 clear hq
 go_wp2_with fail
 go_ret2
 exact ⟨S2.out, pb, rfl, HB.out, hle2⟩
end Go.Proofs.YthpgeeaccmgbkaaGreat

/- The characteristic polynomial that matrix.Characteristic computes, at a graph's matrix: the divisions leave no rest; plain. -/
namespace Go.Proofs.YthpgeeaccmgbkaaGreat

/-- The coefficients. -/
def chC (es : List E3) (S : Nat) : Nat → Int := DD (adjF es) (List.range S)
theorem chC_zero (es : List E3) (S : Nat) : chC es S 0 = 1 := DD_zero _ _
theorem ent_ch (es : List E3) {S : Nat} : ∀ (k i l : Nat), i < S → l < S → ent (chM (matF S S (adjF es)) S (chC es S) k) i l = pm (chC es S) (GW (adjF es) (List.range S) i l) k
 | 0, i, l, hi, hl =>
  by
  show ent (matF S S (diagF 1)) i l = chC es S 0 * (if i = l then 1 else 0)
  rw [ent_matF hi hl, chC_zero, Int.one_mul]; rfl
 | k + 1, i, l, hi, hl =>
  by
  show ent (matF S S (addF (matF S S (mulF (matF S S (adjF es)) (chM (matF S S (adjF es)) S (chC es S) k))) (matF S S (diagF (chC es S (k + 1)))))) i l = _
  rw [ent_matF hi hl]
  unfold addF
  rw [ent_matF hi hl, ent_matF hi hl]
  have hlen : (chM (matF S S (adjF es)) S (chC es S) k).length = S := by cases k <;> exact matF_length _ _ _
  unfold mulF
  rw [hlen, pm_right, sum_congr (g := fun j => adjF es i j * pm (chC es S) (GW (adjF es) (List.range S) j l) k) (fun j hj => by
   have hj' := List.mem_range.1 hj
   rw [ent_matF hi hj', ent_ch es k j l hj' hl])]
  have e : tlS (GW (adjF es) (List.range S) i l) = fun n => ((List.range S).map fun j => adjF es i j * GW (adjF es) (List.range S) j l n).sum := rfl
  rw [e, pm_sumr]
  have e2 : ((List.range S).map fun j => pm (chC es S) (fun n => adjF es i j * GW (adjF es) (List.range S) j l n) k).sum = ((List.range S).map fun j => adjF es i j * pm (chC es S) (GW (adjF es) (List.range S) j l) k).sum := sum_congr fun j _ => pm_smulr _ _ _ _
  rw [e2]
  have e3 : diagF (chC es S (k + 1)) i l = chC es S (k + 1) * GW (adjF es) (List.range S) i l 0 := by
   show (if i = l then _ else (0 : Int)) = _ * (if i = l then 1 else 0)
   split <;> simp
  rw [e3]
theorem ent_nx (es : List E3) {S : Nat} (k : Nat) {i l : Nat} (hi : i < S) (hl : l < S) : ent (nxM (matF S S (adjF es)) S (chC es S) k) i l = pm (chC es S) (tlS (GW (adjF es) (List.range S) i l)) k := by
 unfold nxM
 rw [ent_matF hi hl]
 have hlen : (chM (matF S S (adjF es)) S (chC es S) k).length = S := by cases k <;> exact matF_length _ _ _
 unfold mulF
 rw [hlen, sum_congr (g := fun j => adjF es i j * pm (chC es S) (GW (adjF es) (List.range S) j l) k) (fun j hj => by
  have hj' := List.mem_range.1 hj
  rw [ent_matF hi hj', ent_ch es k j l hj' hl])]
 have e : tlS (GW (adjF es) (List.range S) i l) = fun n => ((List.range S).map fun j => adjF es i j * GW (adjF es) (List.range S) j l n).sum := rfl
 rw [e, pm_sumr]
 exact sum_congr fun j _ => (pm_smulr _ _ _ _).symm
/-- Newton's identity as the program uses it. -/
theorem tr_nx (es : List E3) (S k : Nat) : -(trM (nxM (matF S S (adjF es)) S (chC es S) k) S) = ((k : Int) + 1) * chC es S (k + 1) := by
 have h := newton (adjF es) (List.nodup_range (n := S)) (k + 1)
 have e1 : trM (nxM (matF S S (adjF es)) S (chC es S) k) S = pm (chC es S) (tlS (Ts (adjF es) (List.range S))) k := by
  unfold trM
  rw [sum_congr (fun i hi => ent_nx es k (List.mem_range.1 hi) (List.mem_range.1 hi)), ← pm_sumr]
  rfl
 have e2 : pm (Ts (adjF es) (List.range S)) (DD (adjF es) (List.range S)) (k + 1) = pm (chC es S) (tlS (Ts (adjF es) (List.range S))) k := by
  rw [pm_comm, pm_right]
  show _ + DD (adjF es) (List.range S) (k + 1) * 0 = _
  rw [Int.mul_zero, Int.add_zero]; rfl
 rw [e2] at h
 rw [e1, ← h]
 show ((k + 1 : Nat) : Int) * chC es S (k + 1) = _
 rw [show ((k + 1 : Nat) : Int) = (k : Int) + 1 by omega]
/-- The sizes. -/
theorem matF_ok' {n m p : Nat} {f : Nat → Nat → Int} (h : ∀ i k, i < n → k < m → sm p (f i k)) : MatOk (matF n m f) n m p where
 len := matF_length _ _ _
 row := fun r hr => by
  obtain ⟨i, hi, rfl⟩ := List.mem_map.1 hr
  simp
 sm := fun r hr z hz => by
  obtain ⟨i, hi, rfl⟩ := List.mem_map.1 hr
  obtain ⟨k, hk, rfl⟩ := List.mem_map.1 hz
  exact h i k (List.mem_range.1 hi) (List.mem_range.1 hk)
theorem add_sm' {p : Nat} {a b : Int} (h : sm p a) (k : sm p b) : sm (p + 1) (a + b) := by
 unfold sm at h k ⊢
 have : (256 : Nat) ^ (p + 1) = 256 ^ p * 256 := Nat.pow_succ ..
 omega
theorem ch_sm {es : List E3} (hl : es.length ≤ 1024) {S : Nat} (hS : S ≤ 32) : ∀ k, (∀ i l, i < S → l < S → sm (5 * k + 1) (ent (chM (matF S S (adjF es)) S (chC es S) k) i l)) ∧ sm (5 * k + 1) (chC es S k)
 | 0 =>
  by
  refine ⟨fun i l hi hl2 => ?_, by rw [chC_zero]; unfold sm; decide⟩
  show sm 1 (ent (matF S S (diagF 1)) i l)
  rw [ent_matF hi hl2]
  unfold diagF sm
  split <;> decide
 | k + 1 =>
  by
  obtain ⟨ih1, ih2⟩ := ch_sm hl hS k
  have hnx : ∀ i l, i < S → l < S → sm (5 * k + 4) (ent (nxM (matF S S (adjF es)) S (chC es S) k) i l) := fun i l hi hl2 => by
   unfold nxM
   rw [ent_matF hi hl2]
   have hlen : (chM (matF S S (adjF es)) S (chC es S) k).length = S := by cases k <;> exact matF_length _ _ _
   unfold mulF
   rw [hlen]
   refine (sm_sum' (p := 2 + (5 * k + 1)) (fun z hz => ?_) (by simp; omega)).mono (by omega)
   obtain ⟨j, hj, rfl⟩ := List.mem_map.1 hz
   have hj' := List.mem_range.1 hj
   rw [ent_matF hi hj']
   exact (adjF_sm hl i j).mul (ih1 j l hj' hl2)
  have htr : sm (5 * k + 5) (trM (nxM (matF S S (adjF es)) S (chC es S) k) S) := by
   unfold trM
   refine (sm_sum' (p := 5 * k + 4) (fun z hz => ?_) (by simp; omega)).mono (by omega)
   obtain ⟨j, hj, rfl⟩ := List.mem_map.1 hz
   have hj' := List.mem_range.1 hj
   exact hnx j j hj' hj'
  have hc : sm (5 * k + 5) (chC es S (k + 1)) := by
   have e := tr_nx es S k
   unfold sm at htr ⊢
   have e2 : (trM (nxM (matF S S (adjF es)) S (chC es S) k) S).natAbs = (k + 1) * (chC es S (k + 1)).natAbs := by
    rw [← Int.natAbs_neg, e, Int.natAbs_mul]; congr 1
   rw [e2] at htr
   exact Nat.lt_of_le_of_lt (Nat.le_mul_of_pos_left _ (by omega)) htr
  refine ⟨fun i l hi hl2 => ?_, hc.mono (by omega)⟩
  show sm _ (ent (matF S S (addF (matF S S (mulF (matF S S (adjF es)) (chM (matF S S (adjF es)) S (chC es S) k))) (matF S S (diagF (chC es S (k + 1)))))) i l)
  rw [ent_matF hi hl2]
  unfold addF
  have e : 5 * (k + 1) + 1 = (5 * k + 5) + 1 := by omega
  rw [e]
  refine add_sm' ((hnx i l hi hl2).mono (by omega)) ?_
  rw [ent_matF hi hl2]
  unfold diagF
  split
  ·
   exact hc
  ·
   unfold sm; exact Nat.pow_pos (by decide)
theorem ch_ok {es : List E3} (hl : es.length ≤ 1024) {S : Nat} (hS : S ≤ 32) (k : Nat) (hk : k < S) : MatOk (chM (matF S S (adjF es)) S (chC es S) k) S S (5 * S + 1) := by
 have h := (ch_sm hl hS k).1
 cases k with
 | zero =>
  exact matF_ok' fun i l hi hl2 => by
       have := h i l hi hl2
       rw [show chM (matF S S (adjF es)) S (chC es S) 0 = matF S S (diagF 1) from rfl, ent_matF hi hl2] at this
       exact this.mono (by omega)
 | succ k =>
  exact matF_ok' fun i l hi hl2 => by
        have := h i l hi hl2
        rw [show chM (matF S S (adjF es)) S (chC es S) (k + 1) = matF S S (addF (matF S S (mulF (matF S S (adjF es)) (chM (matF S S (adjF es)) S (chC es S) k))) (matF S S (diagF (chC es S (k + 1))))) from rfl, ent_matF hi hl2] at this
        exact this.mono (by omega)
theorem ch_deg {es : List E3} {S : Nat} {k : Nat} (hk : S < k) : chC es S k = 0 := (deg_all (adjF es) S (List.range S) List.nodup_range (by simp)).1 k hk
end Go.Proofs.YthpgeeaccmgbkaaGreat


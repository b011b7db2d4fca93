/- matrix.sum. -/
import Derived.Test.YthpgeeaccmgbkaaGreatPart10
namespace Go.Proofs.YthpgeeaccmgbkaaGreat
open Go.RowKit

def addF (A B : List (List Int)) (i k : Nat) : Int := ent A i k + ent B i k
/-- An entry's cells. -/
theorem tab_cell {w : World} {a : Option Addr} {c : Nat} {M : List (List Int)} {n m p : Nat} (h : Tab w (.slice a n c) M) (ok : MatOk M n m p) {i k : Nat} (hi : i < n) (hk : k < m) :
  ∃ b0 o0 b1 o1 r, a = some ⟨b0, o0, none⟩ ∧ b0 < w.heap.size ∧ b1 < w.heap.size ∧ w.cell? ⟨b0, o0 + i, none⟩ = some (.slice (some ⟨b1, o1, none⟩) m r) ∧ w.cell? ⟨b1, o1 + k * 2, none⟩ = some (.bool (ineg (ent M i k))) ∧ w.cell? ⟨b1, o1 + k * 2 + 1, none⟩ = some (.string (imag (ent M i k))) := by
 obtain ⟨rvs, h1, h2, h3⟩ := h
 rw [ok.len] at h2
 obtain ⟨b0, o0, rfl, hb0, hc0⟩ := h2.at_ (by omega)
 have hm : M[i]? = some (M[i]'(by rw [ok.len]; exact hi)) := List.getElem?_eq_getElem _
 obtain ⟨r, hr⟩ : ∃ r, r = M[i]'(by rw [ok.len]; exact hi) := ⟨_, rfl⟩
 rw [← hr] at hm
 have hrl := ok.row r (List.mem_of_getElem? hm)
 obtain ⟨rv, g1, g2⟩ := h3 i r hm
 obtain ⟨ra, rc, rfl, -⟩ := g2.slice
 rw [hrl] at g1 g2
 obtain ⟨b1, o1, rfl, hb1, hc1⟩ := g2.at_ (by omega)
 have hkr : k < r.length := by rw [hrl]; exact hk
 have hz : r[k]? = some (r[k]'hkr) := List.getElem?_eq_getElem _
 have he := ent_get hm hz
 rw [← he] at hz
 obtain ⟨z0, z1⟩ := int_cells hc1 (Below.refl w.heap.size w) hb1 hz
 exact ⟨b0, o0, b1, o1, rc, rfl, hb0, hb1, hc0 i _ g1, z0, z1⟩
set_option maxRecDepth 100000 in
set_option maxHeartbeats 3200000 in
theorem sum1_any (i k n m p Ba Bb ca cb : Nat) (A B : List (List Int)) (aa ab : Option Addr) (w0 w : World) (hA : Tab w0 (.slice aa n ca) A) (hB : Tab w0 (.slice ab n cb) B) (okA : MatOk A n m p) (okB : MatOk B n m p) (hi : i < n) (hk : k < m) (hp : p ≤ 1000000) (h0w : Below w0.heap.size w0 w)
  (hBa : Blk w Ba 70 [.slice aa n ca]) (hBb : Blk w Bb 70 [.slice ab n cb]) :
  Calls Tryz.prog 134 #[.int .i64 (i : Int), .int .i64 (k : Int), .pointer (some ⟨Ba, 0, none⟩), .pointer (some ⟨Bb, 0, none⟩)] w (Ret w (IntV (addF A B i k))) := by
 obtain ⟨b0, o0, b1, o1, ra, rfl, hb0, hb1, u1, u2, u3⟩ := tab_cell hA okA hi hk
 obtain ⟨c0, q0, c1, q1, rb, rfl, hc0, hc1, u5, u6, u7⟩ := tab_cell hB okB hi hk
 have sX := okA.ent i k
 have sY := okB.ent i k
 obtain ⟨X, hX⟩ : ∃ X, X = ent A i k := ⟨_, rfl⟩
 obtain ⟨Y, hY⟩ : ∃ Y, Y = ent B i k := ⟨_, rfl⟩
 unfold addF
 rw [← hX] at u2 u3 sX ⊢
 rw [← hY] at u6 u7 sY ⊢
 have hadd := fun w' => iadd_any (ineg X) (ineg Y) (imag X) (imag Y) w' (Nat.le_trans sX.size (by omega)) (Nat.le_trans sY.size (by omega))
 simp only [ival_canon] at hadd
 have br := Blk.new w 28 [.bool false, .string ⟨#[]⟩]
 have s0 := (Below.refl w.heap.size w).alloc (Nat.le_refl _) (.cells #[.bool false, .string ⟨#[]⟩] 28)
 obtain ⟨w1, hw1⟩ : ∃ w1, w.alloc (.cells #[.bool false, .string ⟨#[]⟩] 28) = w1 := ⟨_, rfl⟩
 rw [hw1] at br s0
 have h01 : Below w0.heap.size w0 w1 := h0w.trans (s0.mono h0w.size)
 have hl1 := s0.size
 have hl0 := h0w.size
 have hBal := hBa.lt
 have hBbl := hBb.lt
 have e0 := (s0.cell (p := ⟨Ba, 0, none⟩) hBal).trans (hBa.cell (j := 0) rfl)
 have e1 := (h01.cell (p := ⟨b0, o0 + i, none⟩) hb0).trans u1
 have e2 := (h01.cell (p := ⟨b1, o1 + k * 2, none⟩) hb1).trans u2
 have e3 := (h01.cell (p := ⟨b1, o1 + k * 2 + 1, none⟩) hb1).trans u3
 have e4 := (s0.cell (p := ⟨Bb, 0, none⟩) hBbl).trans (hBb.cell (j := 0) rfl)
 have e5 := (h01.cell (p := ⟨c0, q0 + i, none⟩) hc0).trans u5
 have e6 := (h01.cell (p := ⟨c1, q1 + k * 2, none⟩) hc1).trans u6
 have e7 := (h01.cell (p := ⟨c1, q1 + k * 2 + 1, none⟩) hc1).trans u7
 have n1 : ¬ Ba = w.heap.size := by omega
 have n2 : ¬ b0 = w.heap.size := by omega
 have n3 : ¬ b1 = w.heap.size := by omega
 have n4 : ¬ Bb = w.heap.size := by omega
 have n5 : ¬ c0 = w.heap.size := by omega
 have n6 : ¬ c1 = w.heap.size := by omega
 have m1 : ¬ w.heap.size = Ba := by omega
 have m2 : ¬ w.heap.size = b0 := by omega
 have m3 : ¬ w.heap.size = b1 := by omega
 have m4 : ¬ w.heap.size = Bb := by omega
 have m5 : ¬ w.heap.size = c0 := by omega
 have m6 : ¬ w.heap.size = c1 := by omega
 have x1 : (0 : Int) ≤ (i : Int) := by omega
 have x2 : (i : Int) < (n : Int) := by omega
 have x3 : (0 : Int) ≤ (k : Int) := by omega
 have x4 : (k : Int) < (m : Int) := by omega
 have HADD := Lib.hid hadd; clear hadd
 have BR := Lib.hid br; clear br
 have S0 := Lib.hid s0; clear s0
 clear hX hY sX sY u1 u2 u3 u5 u6 u7 hA hB okA okB hBa hBb
 go_enter Tryz.func134, Tryz.ntmps134
 go_wp2_with fail
 refine wp_region_held_drew (S := fun w' => w'.cell? ⟨Ba, 0, none⟩ = some (.slice (some ⟨b0, o0, none⟩) n ca) ∧ w'.cell? ⟨b0, o0 + i, none⟩ = some (.slice (some ⟨b1, o1, none⟩) m ra) ∧ w'.cell? ⟨b1, o1 + k * 2, none⟩ = some (.bool (ineg X)) ∧ w'.cell? ⟨b1, o1 + k * 2 + 1, none⟩ = some (.string (imag X)) ∧ w'.cell? ⟨Bb, 0, none⟩ = some (.slice (some ⟨c0, q0, none⟩) n cb) ∧ w'.cell? ⟨c0, q0 + i, none⟩ = some (.slice (some ⟨c1, q1, none⟩) m rb) ∧ w'.cell? ⟨c1, q1 + k * 2, none⟩ = some (.bool (ineg Y)) ∧ w'.cell? ⟨c1, q1 + k * 2 + 1, none⟩ = some (.string (imag Y))) (by kernel_rfl) ?_ (fun hHeld => ?_)
 ·
  go_keep
 refine zT 0 (h := ?_)
 (try simp only [Act.put, zA, zB, zC])
 refine zT 1 (h := ?_)
 (try simp only [Act.put, zA, zB, zC])
 refine zT 2 (h := ?_)
 (try simp only [Act.put, zA, zB, zC])
 refine zT 3 (h := ?_)
 (try simp only [Act.put, zA, zB, zC])
 refine zT 4 (h := ?_)
 (try simp only [Act.put, zA, zB, zC])
 refine zT 5 (h := ?_)
 (try simp only [Act.put, zA, zB, zC])
 refine zT 6 (h := ?_)
 (try simp only [Act.put, zA, zB, zC])
 refine zT 7 (h := ?_)
 (try simp only [Act.put, zA, zB, zC])
 refine zT 8 (h := ?_)
 (try simp only [Act.put, zA, zB, zC])
 refine zT 9 (h := ?_)
 (try simp only [Act.put, zA, zB, zC])
 refine zT 10 (h := ?_)
 (try simp only [Act.put, zA, zB, zC])
 refine zT 11 (h := ?_)
 (try simp only [Act.put, zA, zB, zC])
 refine zT 12 (h := ?_)
 (try simp only [Act.put, zA, zB, zC])
 refine zT 13 (h := ?_)
 (try simp only [Act.put, zA, zB, zC])
 refine zR 14 (h := fun K hK => ?_)
 go_simp
 go_at_call 44
 refine (HADD.out _).mono ?_
 rintro e w2 ⟨hq, rfl⟩
 dsimp only
 have z0 := (hq.cell (p := ⟨Ba, 0, none⟩) (show Ba < w1.heap.size by omega)).trans hHeld.1
 have z1 := (hq.cell (p := ⟨b0, o0 + i, none⟩) (show b0 < w1.heap.size by omega)).trans hHeld.2.1
 have z2 := (hq.cell (p := ⟨b1, o1 + k * 2, none⟩) (show b1 < w1.heap.size by omega)).trans hHeld.2.2.1
 have z3 := (hq.cell (p := ⟨b1, o1 + k * 2 + 1, none⟩) (show b1 < w1.heap.size by omega)).trans hHeld.2.2.2.1
 have z4 := (hq.cell (p := ⟨Bb, 0, none⟩) (show Bb < w1.heap.size by omega)).trans hHeld.2.2.2.2.1
 have z5 := (hq.cell (p := ⟨c0, q0 + i, none⟩) (show c0 < w1.heap.size by omega)).trans hHeld.2.2.2.2.2.1
 have z6 := (hq.cell (p := ⟨c1, q1 + k * 2, none⟩) (show c1 < w1.heap.size by omega)).trans hHeld.2.2.2.2.2.2.1
 have z7 := (hq.cell (p := ⟨c1, q1 + k * 2 + 1, none⟩) (show c1 < w1.heap.size by omega)).trans hHeld.2.2.2.2.2.2.2
 refine hK.out _ _ ⟨z0, z1, z2, z3, z4, z5, z6, z7⟩ (fun hHeld2 => ?_)
 clear hK K z0 z1 z2 z3 z4 z5 z6 z7
 (try simp only [Act.put, zA, zB, zC])
 have r2 := Blk.keep (w := w1.drew) BR.out hq
 have s2 := S0.out.drew.trans (hq.mono S0.out.size)
 have f0 := r2.frozen 0
 have f1 := r2.frozen 1
 have d0 := r2.cell (j := 0) rfl
 have d1 := r2.cell (j := 1) rfl
 have R2 := Lib.hid r2; clear r2
 have S2 := Lib.hid s2; clear s2
 clear hq
 refine zR 15 (h := fun K hK => ?_)
 go_simp
 refine hK.out _ _ ?_ (fun hHeld => ?_)
 ·
  ((try dsimp only); go_keep)
 clear hK K
 (try simp only [Act.put, zA, zB, zC])
 refine wpAnyH_done (by kernel_rfl) ?_ _
 (try simp only [List.getElem_toArray, List.getElem_cons_zero, List.getElem_cons_succ, Act.put, zA, zB, zC])
 clear hHeld hHeld2
 go_wp2_with fail
 have g0 := ((R2.out.set 0 (.bool (ineg (X + Y)))).set 1 (.string (imag (X + Y)))).cell (j := 0) rfl
 have g1 := ((R2.out.set 0 (.bool (ineg (X + Y)))).set 1 (.string (imag (X + Y)))).cell (j := 1) rfl
 have s6 := (S2.out.setCell (p := ⟨w.heap.size, 0, none⟩) (Nat.le_refl _) (.bool (ineg (X + Y)))).setCell (p := ⟨w.heap.size, 1, none⟩) (Nat.le_refl _) (.string (imag (X + Y)))
 exact bodyPost_ret (v := IntV (X + Y)) (by simp [results, Tryz.results134, go_sem, g0, g1]) rfl ⟨s6, rfl⟩
set_option maxRecDepth 100000 in
set_option maxHeartbeats 3200000 in
theorem msum_any (n m p : Nat) (A B : List (List Int)) (va vb : Value) (w : World) (hA : Tab w va A) (hB : Tab w vb B) (okA : MatOk A n m p) (okB : MatOk B n m p) (hn0 : 0 < n) (hn : n ≤ 100) (hm0 : 0 < m) (hm : m ≤ 100) (hp : p ≤ 1000000) :
  Calls Tryz.prog 116 #[va, vb] w (MatRet n m (matF n m (addF A B)) w) := by
 have hA1 := hA
 obtain ⟨bb, ob, ca, a', c', rfl, hbb, hcell⟩ := tab_first hA1 okA hn0
 obtain ⟨rvs, h1, h2, -⟩ := id hB
 obtain ⟨ab, cb, rfl, hla⟩ := h2.slice
 have s1 := ((Below.refl w.heap.size w).alloc (Nat.le_refl _) (.cells #[.slice (some ⟨bb, ob, none⟩) A.length ca] 70)).alloc (by simp) (.cells #[.slice ab B.length cb] 70)
 have b0 := (Blk.new w 70 [.slice (some ⟨bb, ob, none⟩) A.length ca]).alloc (.cells #[.slice ab B.length cb] 70)
 have b1 := Blk.new (w.alloc (.cells #[.slice (some ⟨bb, ob, none⟩) A.length ca] 70)) 70 [.slice ab B.length cb]
 simp only [World.size_alloc] at b1
 obtain ⟨w1, hw1⟩ : ∃ w1, (w.alloc (.cells #[.slice (some ⟨bb, ob, none⟩) A.length ca] 70)).alloc (.cells #[.slice ab B.length cb] 70) = w1 := ⟨_, rfl⟩
 rw [hw1] at s1 b0 b1
 have hA' := hA
 have hB' := hB
 rw [okA.len] at hA'
 rw [okB.len] at hB'
 have htab := table_mat n m 134 #[.pointer (some ⟨w.heap.size, 0, none⟩), .pointer (some ⟨w.heap.size + 1, 0, none⟩)] (addF A B) w1.drew (by omega) (by omega) (enters_of Tryz.func134 (by kernel_rfl) rfl)
  (fun i k w' hi hk hb => (sum1_any i k n m p w.heap.size (w.heap.size + 1) ca cb A B _ _ w w' hA' hB' okA okB hi hk hp (s1.drew.trans (hb.mono s1.size)) (by have := Blk.keep (w := w1.drew) b0 hb; rwa [okA.len] at this) (by have := Blk.keep (w := w1.drew) b1 hb; rwa [okB.len] at this)))
 have g0 := b0.cell (j := 0) rfl
 have g1 := b1.cell (j := 0) rfl
 have g2 := (s1.cell (p := ⟨bb, ob, none⟩) hbb).trans hcell
 have hAl := okA.len
 have hBl := okB.len
 have hl0 := b0.lt
 have hl1 := b1.lt
 have hm1 : (0 : Int) < (n : Int) := by omega
 rw [hAl] at g0 hw1 ⊢
 rw [hBl] at g1 hw1 hla ⊢
 have HTAB := Lib.hid htab; clear htab
 have S1 := Lib.hid s1; clear s1
 clear b0 b1 hA hB hA1 hA' hB' h1 h2 hcell hAl hBl
 go_enter Tryz.func116, Tryz.ntmps116
 go_wp2_with fail
 refine wp_region_held_drew (S := fun w' => w'.cell? ⟨w.heap.size, 0, none⟩ = some (.slice (some ⟨bb, ob, none⟩) n ca) ∧ w'.cell? ⟨w.heap.size + 1, 0, none⟩ = some (.slice ab n cb) ∧ w'.cell? ⟨bb, ob, none⟩ = some (.slice a' m c')) (by kernel_rfl) ?_ (fun hHeld => ?_)
 ·
  go_keep
 refine zT 0 (h := ?_)
 (try simp only [Act.put, zA, zB, zC])
 refine zT 1 (h := ?_)
 (try simp only [Act.put, zA, zB, zC])
 refine zT 2 (h := ?_)
 (try simp only [Act.put, zA, zB, zC])
 refine zT 3 (h := ?_)
 (try simp only [Act.put, zA, zB, zC])
 refine zT 4 (h := ?_)
 (try simp only [Act.put, zA, zB, zC])
 refine zT 5 (h := ?_)
 (try simp only [Act.put, zA, zB, zC])
 refine zR 6 (h := fun K hK => ?_)
 go_simp
 refine hK.out _ _ ?_ (fun hHeld => ?_)
 ·
  ((try dsimp only); go_keep)
 clear hK K
 (try simp only [Act.put, zA, zB, zC])
 refine zR 7 (h := fun K hK => ?_)
 go_simp
 refine HTAB.out.mono ?_
 rintro e w2 ⟨hq, b, rfl, hm2⟩
 dsimp only
 have z0 := (hq.cell (p := ⟨w.heap.size, 0, none⟩) (show w.heap.size < w1.heap.size from hl0)).trans hHeld.1
 have z1 := (hq.cell (p := ⟨w.heap.size + 1, 0, none⟩) (show w.heap.size + 1 < w1.heap.size from hl1)).trans hHeld.2.1
 have z2 := (hq.cell (p := ⟨bb, ob, none⟩) (show bb < w1.heap.size by omega)).trans hHeld.2.2
 refine hK.out _ _ ⟨z0, z1, z2⟩ (fun hHeld => ?_)
 clear hK K
 (try simp only [Act.put, zA, zB, zC])
 have s2 := S1.out.drew.trans (hq.mono S1.out.size)
 have hm3 := hm2.mono (show w.heap.size ≤ w1.drew.heap.size from S1.out.size)
 have S2 := Lib.hid s2; clear s2
 have HM3 := Lib.hid hm3; clear hm3
 clear hq hm2 z0 z1 z2
 refine zT 8 (h := ?_)
 (try simp only [Act.put, zA, zB, zC])
 refine wpAnyH_done (by kernel_rfl) ?_ _
 (try simp only [List.getElem_toArray, List.getElem_cons_zero, List.getElem_cons_succ, Act.put, zA, zB, zC])
 go_wp2_with fail
 go_ret
 exact ⟨S2.out, b, rfl, HM3.out⟩
end Go.Proofs.YthpgeeaccmgbkaaGreat

/- Contracts and plain laws of several functions, one after the other: NeckB, NeckC, ProdM, PlainMx. -/
import Derived.Test.YthpgeeaccmgbkaaGreatPart14
import Derived.Test.YthpgeeaccmgbkaaGreatProd
import Derived.Test.YthpgeeaccmgbkaaGreatPart11
import Derived.Test.YthpgeeaccmgbkaaGreatAdj
/- Closed words under rotation: those of length n are those of least period d, for each divisor d of n; plain. -/
namespace Go.Proofs.YthpgeeaccmgbkaaGreat
open Go.RowKit

section
variable {R : Nat → Nat → Bool} {m n d : Nat}
end
end Go.Proofs.YthpgeeaccmgbkaaGreat

/- The closed paths of a graph, counted by least periods; plain. -/
namespace Go.Proofs.YthpgeeaccmgbkaaGreat
open Go.RowKit

/-- The paths of n edges from s to t, as the edges' places. -/
def wk (es : List E3) (t : Int) : Nat → Int → List (List Nat)
 | 0, s => if s = t then [[]] else []
 | n + 1, s => (es.zipIdx.filter fun x => x.1.f == s).flatMap fun x => (wk es t n x.1.t).map (x.2 :: ·)
/-- Their number. -/
def clN (es : List E3) (S n : Nat) : Int := ((List.range S).map fun (s : Nat) => cw es (ind (s : Int)) n (s : Int)).sum
end Go.Proofs.YthpgeeaccmgbkaaGreat

/- matrix.product, whole. -/
namespace Go.Proofs.YthpgeeaccmgbkaaGreat
open Go.RowKit Go.Shelf

theorem mulF_sm {A B : List (List Int)} {n m c p : Nat} (hA : MatOk A n m p) (hB : MatOk B m c p) (hm : m ≤ 255) (i k : Nat) : sm (p + p + 1) (mulF A B i k) := by
 unfold mulF
 refine sm_sum' (fun z hz => ?_) (by simp [hB.len]; omega)
 obtain ⟨j, -, rfl⟩ := List.mem_map.1 hz
 exact (hA.ent i j).mul (hB.ent j k)
theorem matF_ok {n m p : Nat} {f : Nat → Nat → Int} (h : ∀ i k, sm p (f i k)) : MatOk (matF n m f) n m p where
 len := matF_length n m f
 row := fun r hr => by obtain ⟨i, -, rfl⟩ := List.mem_map.1 hr; simp
 sm := fun r hr z hz => by
  obtain ⟨i, -, rfl⟩ := List.mem_map.1 hr
  obtain ⟨k, -, rfl⟩ := List.mem_map.1 hz
  exact h i k
theorem mmul_ok {A B : List (List Int)} {n m c p : Nat} (hA : MatOk A n m p) (hB : MatOk B m c p) (hm : m ≤ 255) : MatOk (matF n c (mulF A B)) n c (p + p + 1) := matF_ok (mulF_sm hA hB hm)
theorem tab_first {w : World} {v : Value} {M : List (List Int)} {n m p : Nat} (h : Tab w v M) (ok : MatOk M n m p) (hn : 0 < n) : ∃ b off c a' c', v = .slice (some ⟨b, off, none⟩) M.length c ∧ b < w.heap.size ∧ w.cell? ⟨b, off, none⟩ = some (.slice a' m c') := by
 obtain ⟨rvs, h1, h2, h3⟩ := h
 obtain ⟨a, c, rfl, -⟩ := h2.slice
 obtain ⟨b, off, rfl, hb, hc⟩ := h2.at_ (by rw [ok.len]; exact hn)
 have h0 : M[0]? = some (M[0]'(by rw [ok.len]; exact hn)) := List.getElem?_eq_getElem _
 obtain ⟨rv, h4, h5⟩ := h3 0 _ h0
 obtain ⟨a', c', e, -⟩ := h5.slice
 rw [ok.row _ (List.mem_of_getElem? h0)] at e
 have := hc 0 _ h4
 rw [e] at this
 exact ⟨b, off, c, a', c', rfl, hb, this⟩
set_option maxRecDepth 100000 in
set_option maxHeartbeats 3200000 in
theorem product_any (n m c p : Nat) (A B : List (List Int)) (va vb : Value) (w : World) (hA : Tab w va A) (hB : Tab w vb B) (okA : MatOk A n m p) (okB : MatOk B m c p) (hn : n ≤ 100) (hm0 : 0 < m) (hm : m ≤ 100) (hc : c ≤ 100) (hp : p ≤ 100000) :
  Calls Tryz.prog 111 #[va, vb] w (MatRet n c (matF n c (mulF A B)) w) := by
 have hB1 := hB
 obtain ⟨bb, ob, cb, a', c', rfl, hbb, hcell⟩ := tab_first hB1 okB hm0
 obtain ⟨rvs, h1, h2, -⟩ := id hA
 obtain ⟨aa, ca, rfl, hla⟩ := h2.slice
 have s1 := ((Below.refl w.heap.size w).alloc (Nat.le_refl _) (.cells #[.slice aa A.length ca] 70)).alloc (by simp) (.cells #[.slice (some ⟨bb, ob, none⟩) B.length cb] 70)
 have b0 := (Blk.new w 70 [.slice aa A.length ca]).alloc (.cells #[.slice (some ⟨bb, ob, none⟩) B.length cb] 70)
 have b1 := Blk.new (w.alloc (.cells #[.slice aa A.length ca] 70)) 70 [.slice (some ⟨bb, ob, none⟩) B.length cb]
 simp only [World.size_alloc] at b1
 obtain ⟨w1, hw1⟩ : ∃ w1, (w.alloc (.cells #[.slice aa A.length ca] 70)).alloc (.cells #[.slice (some ⟨bb, ob, none⟩) B.length cb] 70) = w1 := ⟨_, rfl⟩
 rw [hw1] at s1 b0 b1
 have htab := table_mat n c 131 #[.pointer (some ⟨w.heap.size + 1, 0, none⟩), .pointer (some ⟨w.heap.size, 0, none⟩)] (mulF A B) w1.drew (by omega) (by omega) (enters_of Tryz.func131 (by kernel_rfl) rfl)
  (fun i k w' hi hk hb => callsIn_wide.1 (prod1_in i k n m c p w.heap.size (w.heap.size + 1) A B _ _ w w' hA hB okA okB hi hk hm hp (s1.drew.trans (hb.mono s1.size)) (Blk.keep (w := w1.drew) b0 hb) (Blk.keep (w := w1.drew) b1 hb)))
 have g0 := b0.cell (j := 0) rfl
 have g1 := b1.cell (j := 0) rfl
 have g2 := (s1.cell (p := ⟨bb, ob, none⟩) hbb).trans hcell
 have hAl := okA.len
 have hBl := okB.len
 have hl0 := b0.lt
 have hl1 := b1.lt
 have hm1 : (0 : Int) < (m : Int) := by omega
 rw [hAl] at g0 hw1 hla ⊢
 rw [hBl] at g1 hw1 ⊢
 have HTAB := Lib.hid htab; clear htab
 have S1 := Lib.hid s1; clear s1
 clear b0 b1 hA hB hB1 h1 h2 hcell hAl hBl
 go_enter Tryz.func111, Tryz.ntmps111
 go_wp2_with fail
 refine wp_region_held_drew (S := fun w' => w'.cell? ⟨w.heap.size, 0, none⟩ = some (.slice aa n ca) ∧ w'.cell? ⟨w.heap.size + 1, 0, none⟩ = some (.slice (some ⟨bb, ob, none⟩) m cb) ∧ w'.cell? ⟨bb, ob, none⟩ = some (.slice a' c c')) (by kernel_rfl) ?_ (fun hHeld => ?_)
 ·
  go_keep
 refine zT 0 (h := ?_)
 (try simp only [Act.put, zA, zB, zC])
 refine zT 1 (h := ?_)
 (try simp only [Act.put, zA, zB, zC])
 refine zT 2 (h := ?_)
 (try simp only [Act.put, zA, zB, zC])
 refine zT 3 (h := ?_)
 (try simp only [Act.put, zA, zB, zC])
 refine zT 4 (h := ?_)
 (try simp only [Act.put, zA, zB, zC])
 refine zT 5 (h := ?_)
 (try simp only [Act.put, zA, zB, zC])
 refine zR 6 (h := fun K hK => ?_)
 go_simp
 refine hK.out _ _ ?_ (fun hHeld => ?_)
 ·
  ((try dsimp only); go_keep)
 clear hK K
 (try simp only [Act.put, zA, zB, zC])
 refine zR 7 (h := fun K hK => ?_)
 go_simp
 refine HTAB.out.mono ?_
 rintro e w2 ⟨hq, b, rfl, hm2⟩
 dsimp only
 have z0 := (hq.cell (p := ⟨w.heap.size, 0, none⟩) (show w.heap.size < w1.heap.size from hl0)).trans hHeld.1
 have z1 := (hq.cell (p := ⟨w.heap.size + 1, 0, none⟩) (show w.heap.size + 1 < w1.heap.size from hl1)).trans hHeld.2.1
 have z2 := (hq.cell (p := ⟨bb, ob, none⟩) (show bb < w1.heap.size by omega)).trans hHeld.2.2
 refine hK.out _ _ ⟨z0, z1, z2⟩ (fun hHeld => ?_)
 clear hK K
 (try simp only [Act.put, zA, zB, zC])
 have s2 := S1.out.drew.trans (hq.mono S1.out.size)
 have hm3 := hm2.mono (show w.heap.size ≤ w1.drew.heap.size from S1.out.size)
 have S2 := Lib.hid s2; clear s2
 have HM3 := Lib.hid hm3; clear hm3
 clear hq hm2 z0 z1 z2
 refine zT 8 (h := ?_)
 (try simp only [Act.put, zA, zB, zC])
 refine wpAnyH_done (by kernel_rfl) ?_ _
 (try simp only [List.getElem_toArray, List.getElem_cons_zero, List.getElem_cons_succ, Act.put, zA, zB, zC])
 go_wp2_with fail
 go_ret
 exact ⟨S2.out, b, rfl, HM3.out⟩
end Go.Proofs.YthpgeeaccmgbkaaGreat

/- The powers of a graph's matrix count paths; plain. -/
namespace Go.Proofs.YthpgeeaccmgbkaaGreat
open Go.RowKit

/-- A path of a + b edges: a edges to some state, then b edges. -/
theorem cw_comp {S : Nat} {es : List E3} (hin : InS S es) (k : Int) (b : Nat) : ∀ (a : Nat) (i : Nat), i < S →
  ((List.range S).map fun (j : Nat) => cw es (ind (j : Int)) a (i : Int) * cw es (ind k) b (j : Int)).sum = cw es (ind k) (a + b) (i : Int)
 | 0, i, hi =>
  by
  rw [Nat.zero_add]
  have h1 : ∀ (M : Nat), ((List.range M).map fun (j : Nat) => cw es (ind (j : Int)) 0 (i : Int) * cw es (ind k) b (j : Int)).sum = if i < M then cw es (ind k) b (i : Int) else 0 := fun M => by
   induction M with
   | zero => simp
   | succ M ih =>
    rw [List.range_succ, List.map_append, sum_append, ih, List.map_cons, List.map_nil, List.sum_cons, List.sum_nil, cw_ind0]
    by_cases e : i = M
    ·
     subst e; simp
    ·
     have : ¬ (i : Int) = (M : Int) := by omega
     rw [if_neg this]
     by_cases h : i < M
     ·
      rw [if_pos h, if_pos (by omega)]; omega
     ·
      rw [if_neg h, if_neg (by omega)]; omega
  rw [h1, if_pos hi]
 | a + 1, i, hi =>
  by
  have h2 : ∀ j : Nat, cw es (ind (j : Int)) (a + 1) (i : Int) * cw es (ind k) b (j : Int) = ((es.filter fun e => e.f == (i : Int)).map fun e => cw es (ind (j : Int)) a e.t * cw es (ind k) b (j : Int)).sum := fun j => by
   rw [cw]
   generalize (es.filter fun e => e.f == (i : Int)) = l
   induction l with
   | nil => simp
   | cons e l ih => rw [List.map_cons, List.map_cons, List.sum_cons, List.sum_cons, Int.add_mul, ih]
  rw [List.map_congr_left (fun j _ => h2 j), sum_swap, Nat.succ_add, cw]
  congr 1
  refine List.map_congr_left fun e he => ?_
  have h3 := hin e (List.mem_filter.1 he).1
  obtain ⟨t, ht⟩ : ∃ t : Nat, e.t = t := ⟨e.t.toNat, by omega⟩
  rw [ht]
  exact cw_comp hin k b a t (by omega)
where
 sum_append {l r : List Int} : (l ++ r).sum = l.sum + r.sum := by
  induction l with
  | nil => simp
  | cons x l ih => simp only [List.cons_append, List.sum_cons, ih]; omega
/-- The power's entries. -/
def pwF (es : List E3) (n : Nat) (i k : Nat) : Int := cw es (ind (k : Int)) n (i : Int)
def pwM (es : List E3) (S n : Nat) : List (List Int) := matF S S (pwF es n)
theorem pw_sm {es : List E3} (h : es.length ≤ 1024) (n i k : Nat) : sm (2 * n + 1) (pwF es n i k) := by
 unfold sm pwF
 have h1 := cw_le_len es (ind (k : Int)) n (i : Int)
 have h2 := cw_nonneg es (ind (k : Int)) n (i : Int)
 have h3 : es.length ^ n ≤ 65536 ^ n := Nat.pow_le_pow_left (by omega) n
 have h4 : (256 : Nat) ^ (2 * n + 1) = 65536 ^ n * 256 := by rw [Nat.pow_succ, Nat.pow_mul]
 have h5 : 0 < (65536 : Nat) ^ n := Nat.pow_pos (by decide)
 rw [h4]
 have h6 : (cw es (ind (k : Int)) n (i : Int)).natAbs ≤ es.length ^ n := by omega
 have h7 : (65536 : Nat) ^ n < 65536 ^ n * 256 := by
  have := Nat.mul_lt_mul_of_pos_left (show 1 < 256 by decide) h5
  omega
 omega
theorem pw_ok {es : List E3} (h : es.length ≤ 1024) (S n : Nat) : MatOk (pwM es S n) S S (2 * n + 1) := matF_ok (pw_sm h n)
theorem ent_matF {n m : Nat} {f : Nat → Nat → Int} {i k : Nat} (hi : i < n) (hk : k < m) : ent (matF n m f) i k = f i k :=
 ent_get (matF_get hi) (by simp [hk])
theorem matF_congr {n m : Nat} {f g : Nat → Nat → Int} (h : ∀ i k, i < n → k < m → f i k = g i k) : matF n m f = matF n m g := by
 unfold matF
 refine List.map_congr_left fun i hi => List.map_congr_left fun k hk => h i k (List.mem_range.1 hi) (List.mem_range.1 hk)
theorem pw_mul {S : Nat} {es : List E3} (hin : InS S es) (a b : Nat) : matF S S (mulF (pwM es S a) (pwM es S b)) = pwM es S (a + b) := by
 refine matF_congr fun i k hi hk => ?_
 unfold mulF pwM
 rw [matF_length, ← show cw es (ind (k : Int)) (a + b) (i : Int) = pwF es (a + b) i k from rfl, ← cw_comp hin (k : Int) b a i hi]
 congr 1
 refine List.map_congr_left fun j hj => ?_
 have hj' := List.mem_range.1 hj
 rw [ent_matF hi hj', ent_matF hj' hk]
 rfl
theorem pw_zero (es : List E3) (S : Nat) : matF S S (diagF 1) = pwM es S 0 := by
 refine matF_congr fun i k _ _ => ?_
 unfold diagF pwF
 rw [cw_ind0]
 by_cases h : i = k
 ·
  subst h; simp
 ·
  have : ¬ (i : Int) = (k : Int) := by omega
  rw [if_neg h, if_neg this]
theorem pw_one (es : List E3) (S : Nat) : matF S S (adjF es) = pwM es S 1 := by
 refine matF_congr fun i k _ _ => ?_
 unfold pwF adjF
 rw [cw]
 induction es with
 | nil => rfl
 | cons e es ih =>
  rw [List.filter_cons, List.filter_cons]
  have hc : cw (e :: es) (ind (k : Int)) 0 = cw es (ind (k : Int)) 0 := by funext s; rw [cw_ind0, cw_ind0]
  by_cases hf : e.f = (i : Int)
  ·
   by_cases ht : e.t = (k : Int)
   ·
    rw [if_pos (by simp [hf, ht]), if_pos (by simp [hf]), List.map_cons, List.sum_cons, hc, ← ih, cw_ind0, if_pos ht, List.length_cons]
    omega
   ·
    rw [if_neg (by simp [ht]), if_pos (by simp [hf]), List.map_cons, List.sum_cons, hc, ← ih, cw_ind0, if_neg ht]
    omega
  ·
   rw [if_neg (by simp [hf]), if_neg (by simp [hf]), hc, ← ih]
end Go.Proofs.YthpgeeaccmgbkaaGreat


/- Contracts and plain laws of several functions, one after the other: Mat, MatI. -/
import Derived.Deep.RegionHeld3
import Derived.Deep.QuietTactic
import Derived.Shelf.Abstract
import Derived.Test.YthpgeeaccmgbkaaGreatPart7
import Derived.Test.YthpgeeaccmgbkaaGreatPart5
/- Matrices in memory; matrix.table. -/
namespace Go.Proofs.YthpgeeaccmgbkaaGreat
open Go.RowKit

def matF (n m : Nat) (f : Nat → Nat → Int) : List (List Int) := (List.range n).map fun i => (List.range m).map (f i)
theorem matF_length (n m : Nat) (f : Nat → Nat → Int) : (matF n m f).length = n := by simp [matF]
theorem matF_get {n m : Nat} {f : Nat → Nat → Int} {i : Nat} (h : i < n) : (matF n m f)[i]? = some ((List.range m).map (f i)) := by simp [matF, h]
/-- The slices of rows. -/
def rowsV (bs : List Nat) (m : Nat) : List Value := bs.map fun b => .slice (some ⟨b, 0, none⟩) m m
theorem rowsV_length (bs : List Nat) (m : Nat) : (rowsV bs m).length = bs.length := by simp [rowsV]
/-- A matrix in blocks of its own from B on: rows of m numbers. -/
def MatB (B : Nat) (w : World) (b0 m : Nat) (rows : List (List Int)) : Prop :=
 ∃ bs : List Nat, bs.length = rows.length ∧ bs.Nodup ∧ B ≤ b0 ∧ Blk w b0 32 (rowsV bs m) ∧ ∀ (i : Nat) (r : List Int), rows[i]? = some r → r.length = m ∧ ∃ b : Nat, bs[i]? = some b ∧ B ≤ b ∧ Blk w b 28 (civ r)
theorem MatB.keep {B : Nat} {w w' : World} {b0 m : Nat} {rows : List (List Int)} (h : MatB B w b0 m rows) (k : Below w.heap.size w w') : MatB B w' b0 m rows := by
 obtain ⟨bs, h1, h2, h3, h4, h5⟩ := h
 exact ⟨bs, h1, h2, h3, h4.keep k, fun i r hr => by obtain ⟨g0, b, g1, g2, g3⟩ := h5 i r hr; exact ⟨g0, b, g1, g2, g3.keep k⟩⟩
theorem MatB.mono {B B' : Nat} {w : World} {b0 m : Nat} {rows : List (List Int)} (h : MatB B w b0 m rows) (hB : B' ≤ B) : MatB B' w b0 m rows := by
 obtain ⟨bs, h1, h2, h3, h4, h5⟩ := h
 exact ⟨bs, h1, h2, by omega, h4, fun i r hr => by obtain ⟨g0, b, g1, g2, g3⟩ := h5 i r hr; exact ⟨g0, b, g1, by omega, g3⟩⟩
/-- Read as a table. -/
theorem MatB.tabB {B : Nat} {w : World} {b0 m : Nat} {rows : List (List Int)} (h : MatB B w b0 m rows) (hn : rows.length ≤ 1000000) (hm : m ≤ 1000000) : TabB B w (.slice (some ⟨b0, 0, none⟩) rows.length rows.length) rows := by
 obtain ⟨bs, h1, h2, h3, h4, h5⟩ := h
 refine ⟨rowsV bs m, by rw [rowsV_length, h1], ⟨?_, fun k hk => ?_⟩, fun i r hr => ?_⟩
 ·
  have := Row.ofBlk h4 (m := rows.length) (cap := rows.length) (Nat.le_refl _) (by unfold maxLen; omega) (rowsV bs m).length
  rwa [List.take_length] at this
 ·
  obtain rfl : b0 = k := by simpa [Value.ownBlock] using hk
  exact h3
 ·
  obtain ⟨g0, b, g1, g2, g3⟩ := h5 i r hr
  refine ⟨.slice (some ⟨b, 0, none⟩) m m, by simp [rowsV, g1], ?_, fun k hk => ?_⟩
  ·
   rw [← g0]; exact blk_row g3 (by omega)
  ·
   obtain rfl : b = k := by simpa [Value.ownBlock] using hk
   exact g2
theorem zrow_nil (c : Nat) : zrow (.slice none 0 0) c = List.replicate c (.slice none 0 0) := by
 induction c with
 | zero => rfl
 | succ c ih =>
  rw [List.replicate_succ, ← ih]
  simp [zrow, List.replicate_succ, Value.cells]
/-- 'make([][]api.Int, n)'. -/
theorem mkRows (n : Nat) (h : n ≤ 1000000) (N : Int) (hN : N = (n : Int)) (w : World) : (Instr.makeSlice 70 (.int .i64 N) (.int .i64 N)).run Tryz.prog w = .ok (.slice (some ⟨w.heap.size, 0, none⟩) n n) (w.alloc (.cells (zarr (.slice none 0 0) n) 32)) :=
 mk_slice 70 32 _ 1 24 Tryz.underlying70 infoRow rfl .i64 .i64 n n (Nat.le_refl _) (by omega) (by omega) N N hN hN w
theorem blk_mkRows (w : World) (n : Nat) : Blk (w.alloc (.cells (zarr (.slice none 0 0) n) 32)) w.heap.size 32 (List.replicate n (.slice none 0 0)) := by
 have h := Blk.zero w 32 (.slice none 0 0) n
 rwa [zrow_nil] at h
/-- A row of which k numbers are done. -/
def prow (f : Nat → Int) (m k : Nat) : List Int := (List.range m).map fun c => if c < k then f c else 0
theorem prow_length (f : Nat → Int) (m k : Nat) : (prow f m k).length = m := by simp [prow]
theorem prow_zero (f : Nat → Int) (m : Nat) : prow f m 0 = List.replicate m 0 := by
 apply List.ext_getElem
 ·
  simp [prow]
 ·
  intro i h1 h2; simp [prow]
theorem prow_full (f : Nat → Int) (m : Nat) : prow f m m = (List.range m).map f := by
 apply List.ext_getElem
 ·
  simp [prow]
 ·
  intro i h1 h2
  have : i < m := by simpa [prow] using h1
  simp [prow, this]
theorem prow_succ (f : Nat → Int) {m k : Nat} : (prow f m k).set k (f k) = prow f m (k + 1) := by
 apply List.ext_getElem
 ·
  simp [prow]
 ·
  intro i h1 h2
  have hi : i < m := by simpa [prow] using h2
  rw [List.getElem_set]
  by_cases e : k = i
  ·
   subst e; simp [prow]
  ·
   simp only [e, if_false, prow, List.getElem_map, List.getElem_range]
   by_cases h : i < k
   ·
    rw [if_pos h, if_pos (by omega)]
   ·
    rw [if_neg h, if_neg (by omega)]
/-- The rows of which i are done. -/
def RowsD (B : Nat) (w : World) (b0 n m : Nat) (f : Nat → Nat → Int) (bs : List Nat) : Prop :=
 bs.length ≤ n ∧ bs.Nodup ∧ Blk w b0 32 (rowsV bs m ++ List.replicate (n - bs.length) (.slice none 0 0)) ∧ ∀ (i b : Nat), bs[i]? = some b → B ≤ b ∧ Blk w b 28 (civ ((List.range m).map (f i)))
theorem RowsD.keep {B : Nat} {w w' : World} {b0 n m : Nat} {f : Nat → Nat → Int} {bs : List Nat} (h : RowsD B w b0 n m f bs) (k : Below w.heap.size w w') : RowsD B w' b0 n m f bs :=
 ⟨h.1, h.2.1, h.2.2.1.keep k, fun i b hb => ⟨(h.2.2.2 i b hb).1, (h.2.2.2 i b hb).2.keep k⟩⟩
theorem RowsD.full {B : Nat} {w : World} {b0 n m : Nat} {f : Nat → Nat → Int} {bs : List Nat} (h : RowsD B w b0 n m f bs) (hb : B ≤ b0) (hn : bs.length = n) : MatB B w b0 m (matF n m f) := by
 obtain ⟨h1, h2, h3, h4⟩ := h
 refine ⟨bs, by rw [matF_length, hn], h2, hb, ?_, fun i r hr => ?_⟩
 ·
  rw [hn, Nat.sub_self] at h3
  simpa using h3
 ·
  have hi : i < n := by
   have := (List.getElem?_eq_some_iff.1 hr).1
   rwa [matF_length] at this
  rw [matF_get hi] at hr
  obtain rfl := Option.some.inj hr
  have hb : bs[i]? = some (bs[i]'(by omega)) := List.getElem?_eq_getElem _
  exact ⟨by simp, _, hb, (h4 i _ hb).1, (h4 i _ hb).2⟩
/-- .. and one more row, of which k numbers are done. -/
def RowsP (B : Nat) (w : World) (b0 n m : Nat) (f : Nat → Nat → Int) (bs : List Nat) (b k : Nat) : Prop :=
 bs.length < n ∧ (bs ++ [b]).Nodup ∧ Blk w b0 32 (rowsV (bs ++ [b]) m ++ List.replicate (n - (bs.length + 1)) (.slice none 0 0)) ∧
  (∀ (i b' : Nat), bs[i]? = some b' → B ≤ b' ∧ Blk w b' 28 (civ ((List.range m).map (f i)))) ∧ B ≤ b ∧ Blk w b 28 (civ (prow (f bs.length) m k))
theorem RowsP.keep {B : Nat} {w w' : World} {b0 n m : Nat} {f : Nat → Nat → Int} {bs : List Nat} {b k : Nat} (h : RowsP B w b0 n m f bs b k) (q : Below w.heap.size w w') : RowsP B w' b0 n m f bs b k :=
 ⟨h.1, h.2.1, h.2.2.1.keep q, fun i b hb => ⟨(h.2.2.2.1 i b hb).1, (h.2.2.2.1 i b hb).2.keep q⟩, h.2.2.2.2.1, h.2.2.2.2.2.keep q⟩
theorem RowsP.ne {B : Nat} {w : World} {b0 n m : Nat} {f : Nat → Nat → Int} {bs : List Nat} {b k : Nat} (h : RowsP B w b0 n m f bs b k) : b0 ≠ b := fun e => by
 have h1 := h.2.2.1
 have h2 := h.2.2.2.2.2
 unfold Blk at h1 h2
 rw [e, h2] at h1
 injection h1 with h1
 injection h1 with h3 h4
 exact absurd h4 (by decide)
theorem blk_ne {w : World} {b b' : Nat} {t t' : TypeId} {xs ys : List Value} (h : Blk w b t xs) (h' : Blk w b' t' ys) (hne : t ≠ t') : b ≠ b' := fun e => by
 unfold Blk at h h'
 rw [e, h'] at h
 injection h with h
 injection h with h3 h4
 exact hne h4.symm
theorem RowsD.next {B : Nat} {w : World} {b0 n m : Nat} {f : Nat → Nat → Int} {bs : List Nat} (h : RowsD B w b0 n m f bs) (hn : bs.length < n) (hB : B ≤ w.heap.size) :
  RowsP B ((w.setCell ⟨b0, bs.length, none⟩ (.slice (some ⟨w.heap.size, 0, none⟩) m m)).alloc (.cells (zarr (.agg #[.bool false, .string ⟨#[]⟩]) m) 28)) b0 n m f bs w.heap.size 0 := by
 obtain ⟨h1, h2, h3, h4⟩ := h
 have hlt : ∀ b ∈ bs, b < w.heap.size := fun b hb => by
  obtain ⟨i, hi, rfl⟩ := List.mem_iff_getElem.1 hb
  exact (h4 i bs[i] (List.getElem?_eq_getElem hi)).2.lt
 refine ⟨hn, List.nodup_append.2 ⟨h2, by simp, fun a ha b hb => by simp at hb; subst hb; have := hlt a ha; omega⟩, ?_, fun i b hb => ⟨(h4 i b hb).1, ?_⟩, hB, ?_⟩
 ·
  refine ((h3.set bs.length (.slice (some ⟨w.heap.size, 0, none⟩) m m)).alloc _).congr ?_
  obtain ⟨q, hq⟩ : ∃ q, n - bs.length = q + 1 := ⟨n - bs.length - 1, by omega⟩
  rw [hq, List.replicate_succ, List.set_append_right _ _ (by rw [rowsV_length]; exact Nat.le_refl _), rowsV_length, Nat.sub_self, List.set_cons_zero, show n - (bs.length + 1) = q by omega]
  simp [rowsV]
 ·
  exact ((h4 i b hb).2.setOther (blk_ne h3 (h4 i b hb).2 (by decide)) _).alloc _
 ·
  rw [prow_zero]
  have := blk_mkI (w.setCell ⟨b0, bs.length, none⟩ (.slice (some ⟨w.heap.size, 0, none⟩) m m)) m
  rwa [World.size_setCell] at this
theorem RowsP.step {B : Nat} {w : World} {b0 n m : Nat} {f : Nat → Nat → Int} {bs : List Nat} {b k : Nat} (h : RowsP B w b0 n m f bs b k) :
  RowsP B ((w.setCell ⟨b, k * 2, none⟩ (.bool (ineg (f bs.length k)))).setCell ⟨b, k * 2 + 1, none⟩ (.string (imag (f bs.length k)))) b0 n m f bs b (k + 1) := by
 have hne := h.ne
 obtain ⟨h1, h2, h3, h4, h5, h6⟩ := h
 refine ⟨h1, h2, (h3.setOther (Ne.symm hne) _).setOther (Ne.symm hne) _, fun i b' hb => ⟨(h4 i b' hb).1, ?_⟩, h5, ?_⟩
 ·
  have hne2 : b ≠ b' := fun e => by
   obtain ⟨-, -, h7⟩ := List.nodup_append.1 h2
   exact h7 b' (List.mem_of_getElem? hb) b (by simp) e.symm
  exact ((h4 i b' hb).2.setOther hne2 _).setOther hne2 _
 ·
  have := (h6.set (k * 2) (.bool (ineg (f bs.length k)))).set (k * 2 + 1) (.string (imag (f bs.length k)))
  rwa [civ_set, prow_succ] at this
theorem RowsP.done {B : Nat} {w : World} {b0 n m : Nat} {f : Nat → Nat → Int} {bs : List Nat} {b : Nat} (h : RowsP B w b0 n m f bs b m) : RowsD B w b0 n m f (bs ++ [b]) := by
 obtain ⟨h1, h2, h3, h4, h5, h6⟩ := h
 refine ⟨by simp; omega, h2, by simpa using h3, fun i b' hb => ?_⟩
 rcases Nat.lt_or_ge i bs.length with hi | hi
 ·
  rw [List.getElem?_append_left hi] at hb
  exact h4 i b' hb
 ·
  have hi2 : i = bs.length := by
   have := (List.getElem?_eq_some_iff.1 hb).1
   simp at this; omega
  subst hi2
  simp at hb
  subst hb
  rw [prow_full] at h6
  exact ⟨h5, h6⟩
def MatRet (n m : Nat) (rows : List (List Int)) (w : World) (e : Ending) (w' : World) : Prop :=
 Below w.heap.size w w' ∧ ∃ b, e = .returned (.slice (some ⟨b, 0, none⟩) n n) ∧ MatB w.heap.size w' b m rows
set_option maxRecDepth 100000 in
set_option maxHeartbeats 8000000 in
theorem table_mat (n m : Nat) (F : Nat) (cb : Array Value) (f : Nat → Nat → Int) (w : World) (hn : n ≤ 1000) (hm : m ≤ 1000)
  (hent : ∀ args w, (callFunc F args).run Tryz.prog w = .ok (.enter F args) w)
  (hF : ∀ (i k : Nat) (w' : World), i < n → k < m → Below w.heap.size w w' → Calls Tryz.prog F (#[.int .i64 (i : Int), .int .i64 (k : Int)] ++ cb) w' (Ret w' (IntV (f i k)))) :
  Calls Tryz.prog 126 #[.int .i64 (n : Int), .int .i64 (m : Int), .func (.func F) #[] cb] w (MatRet n m (matF n m f) w) := by
 have hmr := mkRows n (by omega) (n : Int) rfl
 have hmi := mkI m (by omega) (m : Int) rfl
 have HF := Lib.hid hF; clear hF
 go_enter Tryz.func126, Tryz.ntmps126
 go_wp2_with fail
 go_loopw [14] (fun i wr => ∃ (j : Nat) (bs : List Nat), j ≤ n ∧ bs.length = j ∧ i = .int .i64 (j : Int) ∧ Below w.heap.size w wr ∧ RowsD w.heap.size wr w.heap.size n m f bs) (fun i _ => n - (intOf i).toNat)
 case atStart =>
  refine ⟨0, [], Nat.zero_le _, rfl, rfl, (Below.refl _ _).alloc (Nat.le_refl _) _, Nat.zero_le _, List.nodup_nil, ?_, fun i b h => by simp at h⟩
  exact blk_mkRows w n
 case round =>
  obtain ⟨j, bs, hj, hbl, rfl, hbel, hrd⟩ := hrel
  obtain ⟨wo, rfl⟩ : ∃ wo : World, wo = wr := ⟨_, rfl⟩
  by_cases hlt : j < n
  ·
   have hb0 := hrd.2.2.1
   have hlo := hb0.lt
   have f0 := hb0.frozen j
   have hix : (0 : Int) ≤ (j : Int) := by omega
   have hix2 : (j : Int) < (n : Int) := by omega
   have c0 : wo.cell? ⟨w.heap.size, j, none⟩ = some (.slice none 0 0) := hb0.cell (by
    rw [List.getElem?_append_right (by rw [rowsV_length]; omega), rowsV_length, hbl, Nat.sub_self, List.getElem?_replicate, if_pos (by omega)])
   have hrd' := hrd
   have hbel' := hbel
   have HRD := Lib.hid hrd; clear hrd
   have HB0 := Lib.hid hb0; clear hb0
   have HBEL := Lib.hid hbel; clear hbel
   have hnext := hrd'.next (m := m) (by omega) hbel'.size
   go_wp2_with fail
   obtain ⟨wq, hwq⟩ : ∃ wq, (wo.setCell ⟨w.heap.size, j, none⟩ (.slice (some ⟨wo.heap.size, 0, none⟩) m m)).alloc (.cells (zarr (.agg #[.bool false, .string ⟨#[]⟩]) m) 28) = wq := ⟨_, rfl⟩
   rw [hbl, hwq] at hnext
   rw [hwq]
   have hbq : Below w.heap.size w wq := by
    rw [← hwq]
    exact (HBEL.out.setCell (p := ⟨w.heap.size, j, none⟩) (Nat.le_refl _) _).alloc (by rw [World.size_setCell]; exact HBEL.out.size) _
   clear hwq
   have HNX := Lib.hid hnext; clear hnext
   have HBQ := Lib.hid hbq; clear hbq
   clear c0 f0
   go_loopw [27] (fun i wr => ∃ k : Nat, k ≤ m ∧ i = .int .i64 (k : Int) ∧ Below w.heap.size w wr ∧ RowsP w.heap.size wr w.heap.size n m f bs wo.heap.size k) (fun i _ => m - (intOf i).toNat)
   case atStart => exact ⟨0, Nat.zero_le _, rfl, HBQ.out, HNX.out⟩
   case round =>
    obtain ⟨k, hk, rfl, hbel, hrp⟩ := hrel
    by_cases hlt2 : k < m
    ·
     have hb1 := hrp.2.2.1
     have hlr := hb1.lt
     have hpb := hrp.2.2.2.2.2.lt
     have c1 : wr.cell? ⟨w.heap.size, j, none⟩ = some (.slice (some ⟨wo.heap.size, 0, none⟩) m m) := hb1.cell (by
      rw [List.getElem?_append_left (by rw [rowsV_length]; simp; omega)]
      simp [rowsV, ← hbl])
     have hcall := HF.out j k wr.drew hlt hlt2 hbel.drew
     have hiy : (0 : Int) ≤ (k : Int) := by omega
     have hiy2 : (k : Int) < (m : Int) := by omega
     have HRP := Lib.hid hrp; clear hrp
     have HB2 := Lib.hid hbel; clear hbel
     have HCALL := Lib.hid hcall; clear hcall
     clear hb1
     go_wp2_with fail
     refine wp_region_held_drew (S := fun w' => w'.cell? ⟨w.heap.size, j, none⟩ = some (.slice (some ⟨wo.heap.size, 0, none⟩) m m)) (by kernel_rfl) ?_ (fun hHeld => ?_)
     ·
      go_keep
     refine zT 0 (h := ?_)
     (try simp only [Act.put, zA, zB, zC])
     refine zT 1 (h := ?_)
     (try simp only [Act.put, zA, zB, zC])
     refine zT 2 (h := ?_)
     (try simp only [Act.put, zA, zB, zC])
     refine zT 3 (h := ?_)
     (try simp only [Act.put, zA, zB, zC])
     refine zT 4 (h := ?_)
     (try simp only [Act.put, zA, zB, zC])
     refine zT 5 (h := ?_)
     (try simp only [Act.put, zA, zB, zC])
     refine zT 6 (h := ?_)
     (try simp only [Act.put, zA, zB, zC])
     refine zT 7 (h := ?_)
     (try simp only [Act.put, zA, zB, zC])
     refine zR 8 (h := fun K hK => ?_)
     go_simp
     refine HCALL.out.mono ?_
     rintro e' w2 ⟨hq, rfl⟩
     dsimp only
     have z0 := (hq.cell (p := ⟨w.heap.size, j, none⟩) (show w.heap.size < wr.heap.size from hlr)).trans hHeld
     refine hK.out _ _ z0 (fun hHeld2 => ?_)
     clear hK K
     (try simp only [Act.put, zA, zB, zC])
     have hrp2 := RowsP.keep (w := wr.drew) HRP.out hq
     have hb2 := HB2.out.drew.trans (hq.mono HB2.out.size)
     have hne : ¬ w.heap.size = wo.heap.size := hrp2.ne
     have hne2 : ¬ wo.heap.size = w.heap.size := fun e => hne e.symm
     have hgx : (prow (f bs.length) m k)[k]? = some ((prow (f bs.length) m k)[k]'(by rw [prow_length]; exact hlt2)) := List.getElem?_eq_getElem _
     have g0 := hrp2.2.2.2.2.2.cell (civ_get hgx).1
     have g1 := hrp2.2.2.2.2.2.cell (civ_get hgx).2
     have f0 := hrp2.2.2.2.2.2.frozen (k * 2)
     have f1 := hrp2.2.2.2.2.2.frozen (k * 2 + 1)
     have hst := hrp2.step
     rw [hbl] at hst
     have HST := Lib.hid hst; clear hst
     have HB3 := Lib.hid hb2; clear hb2
     clear hgx
     refine zT 9 (h := ?_)
     (try simp only [Act.put, zA, zB, zC])
     refine zR 10 (h := fun K hK => ?_)
     go_simp
     refine hK.out _ _ ?_ (fun hHeld => ?_)
     ·
      ((try dsimp only); go_keep)
     clear hK K
     (try simp only [Act.put, zA, zB, zC])
     refine wpAnyH_done (by kernel_rfl) ?_ _
     (try simp only [List.getElem_toArray, List.getElem_cons_zero, List.getElem_cons_succ, Act.put, zA, zB, zC])
     clear hHeld hHeld2
     go_wp2_with fail
     go_roundw
     case rel => exact ⟨k + 1, by omega, by go_num, (HB3.out.setCell (p := ⟨wo.heap.size, k * 2, none⟩) hbel'.size _).setCell (p := ⟨wo.heap.size, k * 2 + 1, none⟩) hbel'.size _, HST.out⟩
     case measure => simp [intOf]; omega
    ·
     obtain rfl : k = m := by omega
     have hdone := hrp.done
     go_wp2_with fail
     go_roundw
     case rel => exact ⟨j + 1, bs ++ [wo.heap.size], by omega, by simp [hbl], by go_num, hbel, hdone⟩
     case measure => simp [intOf]; omega
  ·
   obtain rfl : j = n := by omega
   have hfin := hrd.full (Nat.le_refl _) hbl
   go_wp2_with fail
   go_ret
   exact ⟨hbel, _, rfl, hfin⟩
end Go.Proofs.YthpgeeaccmgbkaaGreat

/- matrix.scalar, Identity. -/
namespace Go.Proofs.YthpgeeaccmgbkaaGreat
open Go.RowKit

set_option maxRecDepth 100000 in
set_option maxHeartbeats 3200000 in
theorem scalar1_any (i k bn : Nat) (z : Int) (w : World) (hi : i ≤ 1000) (hk : k ≤ 1000) (hb : Blk w bn 28 [.bool (ineg z), .string (imag z)]) :
  Calls Tryz.prog 127 #[.int .i64 (i : Int), .int .i64 (k : Int), .pointer (some ⟨bn, 0, none⟩)] w (Ret w (IntV (if i = k then z else 0))) := by
 have x0 := hb.cell (j := 0) rfl
 have x1 := hb.cell (j := 1) rfl
 have hbl := hb.lt
 clear hb
 by_cases h : i = k
 ·
  have t0 : ((i : Int) == (k : Int)) = true := by simp [h]
  have s1 := (Below.refl w.heap.size w).alloc (Nat.le_refl _) (.cells #[.bool (ineg z), .string (imag z)] 28)
  rw [if_pos h]
  have S1 := Lib.hid s1; clear s1
  clear h
  go_enter Tryz.func127, Tryz.ntmps127
  go_wp2_with fail
  exact bodyPost_ret (v := IntV z) (by simp [results, Tryz.results127, go_sem]; (try rfl)) rfl ⟨S1.out, rfl⟩
 ·
  have t0 : ((i : Int) == (k : Int)) = false := by simp; omega
  have s1 := (Below.refl w.heap.size w).alloc (Nat.le_refl _) (.cells #[.bool false, .string ⟨#[]⟩] 28)
  rw [if_neg h]
  have S1 := Lib.hid s1; clear s1
  clear h
  go_enter Tryz.func127, Tryz.ntmps127
  go_wp2_with fail
  exact bodyPost_ret (v := IntV 0) (by simp [results, Tryz.results127, go_sem]; simp [IntV, ineg, imag, bb_zero]) rfl ⟨S1.out, rfl⟩
/-- z on the diagonal. -/
def diagF (z : Int) (i k : Nat) : Int := if i = k then z else 0
set_option maxRecDepth 100000 in
set_option maxHeartbeats 3200000 in
theorem scalar_any (n : Nat) (z : Int) (w : World) (hn : n ≤ 1000) :
  Calls Tryz.prog 109 #[IntV z, .int .i64 (n : Int)] w (MatRet n n (matF n n (diagF z)) w) := by
 have s0 := (Below.refl w.heap.size w).alloc (Nat.le_refl _) (.cells #[.bool (ineg z), .string (imag z)] 28)
 have b0 := Blk.new w 28 [.bool (ineg z), .string (imag z)]
 have ht := table_mat n n 127 #[.pointer (some ⟨w.heap.size, 0, none⟩)] (diagF z) (w.alloc (.cells #[.bool (ineg z), .string (imag z)] 28)) hn hn (enters_of Tryz.func127 (by kernel_rfl) rfl)
  (fun i k w' hi hk hb => scalar1_any i k w.heap.size z w' (by omega) (by omega) (b0.keep hb))
 have S0 := Lib.hid s0; clear s0
 have HT := Lib.hid ht; clear ht
 clear b0
 go_enter Tryz.func109, Tryz.ntmps109
 go_wp2_with fail
 go_at_call 126
 refine HT.out.mono ?_
 rintro e w1 ⟨hq, b, rfl, hm⟩
 have s1 := S0.out.trans (hq.mono S0.out.size)
 have hm1 := hm.mono S0.out.size
 have S1 := Lib.hid s1; clear s1
 have HM1 := Lib.hid hm1; clear hm1
 clear hq hm
 go_wp2_with fail
 go_ret
 exact ⟨S1.out, b, rfl, HM1.out⟩
set_option maxRecDepth 100000 in
set_option maxHeartbeats 3200000 in
theorem identity_any (n : Nat) (w : World) (h1 : 1 ≤ n) (hn : n ≤ 32) :
  Calls Tryz.prog 78 #[.int .i64 (n : Int)] w (fun e w' => Below w.heap.size w w' ∧ ∃ b, e = .returned (.tuple #[.slice (some ⟨b, 0, none⟩) n n, .int .i64 0]) ∧ MatB w.heap.size w' b n (matF n n (diagF 1))) := by
 have hof := fun w' => iof_any 1 w' (by decide) (by decide)
 have hsc := fun w' => scalar_any n 1 w' (by omega)
 have t0 : ¬ (n : Int) < 1 := by omega
 have t1 : ¬ (32 : Int) < (n : Int) := by omega
 have t2 : ¬ 32 < n := by omega
 have HOF := Lib.hid hof; clear hof
 have HSC := Lib.hid hsc; clear hsc
 go_enter Tryz.func78, Tryz.ntmps78
 go_wp2_with fail
 go_at_call 28
 refine (HOF.out _).mono ?_
 rintro e w1 ⟨hq, rfl⟩
 have S1 := Lib.hid hq; clear hq
 go_wp2_with fail
 go_at_call 109
 refine (HSC.out _).mono ?_
 rintro e w2 ⟨hq, b, rfl, hm⟩
 have s2 := S1.out.trans (hq.mono S1.out.size)
 have hm1 := hm.mono S1.out.size
 have S2 := Lib.hid s2; clear s2
 have HM1 := Lib.hid hm1; clear hm1
 clear hq hm
 go_wp2_with fail
 go_ret2
 exact ⟨S2.out, b, rfl, HM1.out⟩
end Go.Proofs.YthpgeeaccmgbkaaGreat


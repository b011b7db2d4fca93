/- counting.adjacency. -/
import Derived.Test.YthpgeeaccmgbkaaGreatPart11
import Derived.Test.YthpgeeaccmgbkaaGreatPart5
import Derived.Test.YthpgeeaccmgbkaaGreatPart6
import Derived.Test.YthpgeeaccmgbkaaGreatProd
namespace Go.Proofs.YthpgeeaccmgbkaaGreat
open Go.RowKit

def upd (f : Nat → Nat → Int) (i k : Nat) (z : Int) (a b : Nat) : Int := if a = i ∧ b = k then z else f a b
theorem upd_row_same (f : Nat → Nat → Int) (i k m : Nat) (z : Int) : ((List.range m).map (f i)).set k z = (List.range m).map (upd f i k z i) := by
 apply List.ext_getElem
 ·
  simp
 ·
  intro j h1 h2
  rw [List.getElem_set]
  by_cases e : k = j
  ·
   subst e; simp [upd]
  ·
   have e2 : ¬ j = k := fun h => e h.symm
   simp [e, e2, upd]
theorem upd_row_other (f : Nat → Nat → Int) {i a : Nat} (h : a ≠ i) (k m : Nat) (z : Int) : (List.range m).map (f a) = (List.range m).map (upd f i k z a) := by
 apply List.map_congr_left
 intro j _
 simp [upd, h]
/-- One entry is stored. -/
theorem MatB.put {B : Nat} {w : World} {b0 n m : Nat} {f : Nat → Nat → Int} (h : MatB B w b0 m (matF n m f)) {i k : Nat} (hi : i < n) (z : Int) : ∃ b, B ≤ b ∧ b0 ≠ b ∧ Blk w b 28 (civ ((List.range m).map (f i))) ∧ w.cell? ⟨b0, i, none⟩ = some (.slice (some ⟨b, 0, none⟩) m m) ∧
  ∀ w2, Below w.heap.size w w2 → MatB B ((w2.setCell ⟨b, k * 2, none⟩ (.bool (ineg z))).setCell ⟨b, k * 2 + 1, none⟩ (.string (imag z))) b0 m (matF n m (upd f i k z)) := by
 obtain ⟨bs, h1, h2, h3, h4, h5⟩ := h
 obtain ⟨g0, b, g1, g2, g3⟩ := h5 i _ (matF_get hi)
 have hne := blk_ne h4 g3 (by decide)
 refine ⟨b, g2, hne, g3, h4.cell (by simp [rowsV, g1]), fun w2 hb => ⟨bs, by rw [h1, matF_length, matF_length], h2, h3, ((h4.keep hb).setOther (Ne.symm hne) _).setOther (Ne.symm hne) _, fun a r hr => ?_⟩⟩
 have ha : a < n := by
  have := (List.getElem?_eq_some_iff.1 hr).1
  rwa [matF_length] at this
 rw [matF_get ha] at hr
 obtain rfl := Option.some.inj hr
 by_cases e : a = i
 ·
  subst e
  refine ⟨by simp, b, g1, g2, ?_⟩
  have := ((g3.keep hb).set (k * 2) (.bool (ineg z))).set (k * 2 + 1) (.string (imag z))
  rwa [civ_set, upd_row_same] at this
 ·
  obtain ⟨q0, c, q1, q2, q3⟩ := h5 a _ (matF_get ha)
  have hbc : b ≠ c := fun e2 => by
   obtain ⟨l1, e3⟩ := List.getElem?_eq_some_iff.1 g1
   obtain ⟨l2, e4⟩ := List.getElem?_eq_some_iff.1 q1
   exact e ((List.getElem_inj h2).1 (e4.trans (e2.symm.trans e3.symm)))
  refine ⟨by simp, c, q1, q2, ?_⟩
  rw [← upd_row_other f e]
  exact ((q3.keep hb).setOther hbc _).setOther hbc _
/-- The number of edges from i to k. -/
def adjF (es : List E3) (i k : Nat) : Int := ((es.filter fun e => decide (e.f = (i : Int)) && decide (e.t = (k : Int))).length : Int)
theorem adjF_snoc {es : List E3} {e : E3} {f t : Nat} (hf : e.f = f) (ht : e.t = t) : adjF (es ++ [e]) = upd (adjF es) f t (adjF es f t + 1) := by
 funext i k
 unfold upd adjF
 rw [List.filter_append, List.length_append]
 by_cases h : i = f ∧ k = t
 ·
  obtain ⟨rfl, rfl⟩ := h
  simp [hf, ht]
 ·
  rw [if_neg h]
  have : ([e].filter fun e => decide (e.f = (i : Int)) && decide (e.t = (k : Int))) = [] := by
   rw [List.filter_cons, List.filter_nil, hf, ht, if_neg]
   simp only [Bool.and_eq_true, decide_eq_true_eq, Int.natCast_inj]
   exact fun hh => h ⟨hh.1.symm, hh.2.symm⟩
  rw [this]; simp
theorem adjF_le (es : List E3) (i k : Nat) : 0 ≤ adjF es i k ∧ adjF es i k ≤ es.length := by
 unfold adjF
 have := List.length_filter_le (fun e : E3 => decide (e.f = (i : Int)) && decide (e.t = (k : Int))) es
 omega
theorem adjF_sm {es : List E3} (h : es.length ≤ 1024) (i k : Nat) : sm 2 (adjF es i k) := by
 have := adjF_le es i k
 unfold sm
 have h2 : (256 : Nat) ^ 2 = 65536 := by decide
 omega
theorem adj_ok {es : List E3} (h : es.length ≤ 1024) (S : Nat) : MatOk (matF S S (adjF es)) S S 2 where
 len := matF_length _ _ _
 row := fun r hr => by obtain ⟨i, -, rfl⟩ := List.mem_map.1 hr; simp
 sm := fun r hr z hz => by
  obtain ⟨i, -, rfl⟩ := List.mem_map.1 hr
  obtain ⟨k, -, rfl⟩ := List.mem_map.1 hz
  exact adjF_sm h i k
theorem prow_const (m k : Nat) : prow (fun _ => 0) m k = (List.range m).map fun _ => (0 : Int) := by simp [prow]
set_option maxRecDepth 100000 in
set_option maxHeartbeats 8000000 in
theorem adjacency_any (L : Int) (S : Nat) (es : List E3) (v : Value) (w : World) (hr : Row w v es.length (ce es)) (hS : S ≤ 64) (hl : es.length ≤ 1024) (hin : InS S es) :
  Calls Tryz.prog 52 #[.agg #[.int .i64 L, .int .i64 (S : Int), v]] w (MatRet S S (matF S S (adjF es)) w) := by
 obtain ⟨va, vc, rfl, hle⟩ := hr.slice
 obtain ⟨m, hm⟩ : ∃ m, m = es.length := ⟨_, rfl⟩
 rw [← hm] at hr hl hle ⊢
 have bg := Blk.new w 24 [.int .i64 L, .int .i64 (S : Int), .slice va m vc]
 have s0 := (Below.refl w.heap.size w).alloc (Nat.le_refl _) (.cells #[.int .i64 L, .int .i64 (S : Int), .slice va m vc] 24)
 obtain ⟨w1, hw1⟩ : ∃ w1, w.alloc (.cells #[.int .i64 L, .int .i64 (S : Int), .slice va m vc] 24) = w1 := ⟨_, rfl⟩
 have hsz1 : w1.heap.size = w.heap.size + 1 := by rw [← hw1]; simp
 rw [hw1] at bg s0
 have hmr := mkRows S (by omega) (S : Int) rfl
 have hmi := mkI S (by omega) (S : Int) rfl
 have hof := fun w' => iof_any 1 w' (by decide) (by decide)
 have x1 := bg.cell (j := 1) rfl
 have x2 := bg.cell (j := 2) rfl
 have hd0 : RowsD w.heap.size (w1.alloc (.cells (zarr (.slice none 0 0) S) 32)) (w.heap.size + 1) S S (fun _ _ => 0) [] := ⟨Nat.zero_le _, List.nodup_nil, by rw [← hsz1]; exact blk_mkRows w1 S, fun i b h => by simp at h⟩
 have s1 := s0.alloc s0.size (.cells (zarr (.slice none 0 0) S) 32)
 have bg1 := bg.alloc (.cells (zarr (.slice none 0 0) S) 32)
 have HR := Lib.hid hr; clear hr
 have HSZ1 := Lib.hid hsz1; clear hsz1
 have BG := Lib.hid bg; clear bg
 have BG1 := Lib.hid bg1; clear bg1
 have S0 := Lib.hid s0; clear s0
 have S1 := Lib.hid s1; clear s1
 have HM := Lib.hid hm; clear hm
 have HIN := Lib.hid hin; clear hin
 have HOF := Lib.hid hof; clear hof
 have HD0 := Lib.hid hd0; clear hd0
 go_enter Tryz.func52, Tryz.ntmps52
 go_wp2_with fail
 rw [HSZ1.out]
 go_loopw [12] (fun i wr => ∃ (j : Nat) (bs : List Nat), j ≤ S ∧ bs.length = j ∧ i = .int .i64 (j : Int) ∧ Below w.heap.size w wr ∧ Blk wr w.heap.size 24 [.int .i64 L, .int .i64 (S : Int), .slice va m vc] ∧ RowsD w.heap.size wr (w.heap.size + 1) S S (fun _ _ => 0) bs) (fun i _ => S - (intOf i).toNat)
 case atStart => exact ⟨0, [], Nat.zero_le _, rfl, rfl, S1.out, BG1.out, HD0.out⟩
 case round =>
  obtain ⟨j, bs, hj, hbl, rfl, hbel, hbg, hrd⟩ := hrel
  obtain ⟨wo, rfl⟩ : ∃ wo : World, wo = wr := ⟨_, rfl⟩
  have hgl := hbg.lt
  by_cases hlt : j < S
  ·
   have hb0 := hrd.2.2.1
   have hlo := hb0.lt
   have f0 := hb0.frozen j
   have hix : (0 : Int) ≤ (j : Int) := by omega
   have hix2 : (j : Int) < (S : Int) := by omega
   have c0 : wo.cell? ⟨w.heap.size + 1, j, none⟩ = some (.slice none 0 0) := hb0.cell (by
    rw [List.getElem?_append_right (by rw [rowsV_length]; omega), rowsV_length, hbl, Nat.sub_self, List.getElem?_replicate, if_pos (by omega)])
   have y1 := hbg.cell (j := 1) rfl
   have hnext := hrd.next (m := S) (by omega) hbel.size
   rw [hbl] at hnext
   have hne : ¬ (w.heap.size + 1) = w.heap.size := by omega
   have hne2 : ¬ w.heap.size = (w.heap.size + 1) := by omega
   have hdone : RowsD w.heap.size ((wo.setCell ⟨w.heap.size + 1, j, none⟩ (.slice (some ⟨wo.heap.size, 0, none⟩) S S)).alloc (.cells (zarr (.agg #[.bool false, .string ⟨#[]⟩]) S) 28)) (w.heap.size + 1) S S (fun _ _ => 0) (bs ++ [wo.heap.size]) := by
    refine RowsP.done (f := fun _ _ => 0) ?_
    obtain ⟨p1, p2, p3, p4, p5, p6⟩ := hnext
    exact ⟨p1, p2, p3, p4, p5, by rw [prow_const] at p6 ⊢; exact p6⟩
   have hbel2 := (hbel.setCell (p := ⟨w.heap.size + 1, j, none⟩) (by show w.heap.size ≤ w.heap.size + 1; omega) (.slice (some ⟨wo.heap.size, 0, none⟩) S S)).alloc (by rw [World.size_setCell]; exact hbel.size) (.cells (zarr (.agg #[.bool false, .string ⟨#[]⟩]) S) 28)
   have hbg2 := (hbg.setOther (a := ⟨w.heap.size + 1, j, none⟩) hne (.slice (some ⟨wo.heap.size, 0, none⟩) S S)).alloc (.cells (zarr (.agg #[.bool false, .string ⟨#[]⟩]) S) 28)
   have HDN := Lib.hid hdone; clear hdone
   have HB2 := Lib.hid hbel2; clear hbel2
   have HBG2 := Lib.hid hbg2; clear hbg2
   clear hnext hb0 hrd hbel hbg
   go_wp2_with fail
   go_roundw
   case rel => exact ⟨j + 1, bs ++ [wo.heap.size], by omega, by simp [hbl], by go_num, HB2.out, HBG2.out, HDN.out⟩
   case measure => simp [intOf]; omega
  ·
   obtain rfl : j = S := by omega
   have hfull := hrd.full (B := w.heap.size) (by omega) hbl
   have hmat0 : MatB w.heap.size wo (w.heap.size + 1) j (matF j j (adjF (es.take 0))) := by
    have e : (adjF (es.take 0)) = fun _ _ => 0 := by funext i k; simp [adjF]
    rw [e]; exact hfull
   have y2 := hbg.cell (j := 2) rfl
   have HMAT0 := Lib.hid hmat0; clear hmat0
   have HB3 := Lib.hid hbel; clear hbel
   clear hrd hfull hbg hbl
   go_wp2_with fail
   clear y2
   obtain ⟨S, rfl⟩ : ∃ S : Nat, S = j := ⟨_, rfl⟩
   obtain ⟨mb, hmb⟩ : ∃ mb, mb = w.heap.size + 1 := ⟨_, rfl⟩
   rw [← hmb] at HMAT0 ⊢
   clear hmb
   go_loopw [25] (fun i wr => ∃ q : Nat, q ≤ m ∧ i = .int .i64 (q : Int) ∧ Below w.heap.size w wr ∧ MatB w.heap.size wr mb S (matF S S (adjF (es.take q)))) (fun i _ => m - (intOf i).toNat)
   case atStart => exact ⟨0, Nat.zero_le _, rfl, HB3.out, HMAT0.out⟩
   case round =>
    obtain ⟨q, hq, rfl, hbel, hmat⟩ := hrel
    by_cases hlt3 : q < m
    ·
     have ge : es[q]? = some (es[q]'(by rw [← HM.out]; exact hlt3)) := List.getElem?_eq_getElem _
     obtain ⟨e, hedef⟩ : ∃ e, e = es[q]'(by rw [← HM.out]; exact hlt3) := ⟨_, rfl⟩
     rw [← hedef] at ge
     obtain ⟨hf0, hf1, ht0, ht1⟩ := HIN.out e (List.mem_of_getElem? ge)
     obtain ⟨f, hf⟩ : ∃ f : Nat, e.f = f := ⟨e.f.toNat, by omega⟩
     obtain ⟨t, ht⟩ : ∃ t : Nat, e.t = t := ⟨e.t.toNat, by omega⟩
     have hfS : f < S := by omega
     have htS : t < S := by omega
     obtain ⟨b', off, rfl, hbw, hce⟩ := HR.out.at_ (by omega)
     obtain ⟨q0, q1, q2⟩ := edge_cells hce hbel hbw ge
     have hql : q < es.length := by rw [← HM.out]; exact hlt3
     have hsu : adjF (es.take (q + 1)) = upd (adjF (es.take q)) f t (adjF (es.take q) f t + 1) := by
      rw [List.take_succ_eq_append_getElem hql, ← hedef]; exact adjF_snoc hf ht
     have hXs : sm 2 (adjF (es.take q) f t) := adjF_sm (by rw [List.length_take]; omega) f t
     obtain ⟨el, hel⟩ : ∃ x, x = e.l := ⟨_, rfl⟩
     rw [hf] at q0
     rw [ht] at q2
     rw [← hel] at q1
     have hmat2 := hmat.keep ((Below.refl wr.heap.size wr).alloc (Nat.le_refl _) (.cells #[.int .i64 (f : Int), .int .i64 el, .int .i64 (t : Int)] 53))
     have bx := Blk.new wr 53 [.int .i64 (f : Int), .int .i64 el, .int .i64 (t : Int)]
     have hb5 := hbel.alloc hbel.size (.cells #[.int .i64 (f : Int), .int .i64 el, .int .i64 (t : Int)] 53)
     obtain ⟨X, hX⟩ : ∃ X, X = adjF (es.take q) f t := ⟨_, rfl⟩
     rw [← hX] at hsu hXs
     obtain ⟨rb, hrb, hmr2, hnb, hrow, hput⟩ := hmat2.put hfS (k := t) (X + 1)
     have hgx : ((List.range S).map (adjF (es.take q) f))[t]? = some X := by simp [htS, hX]
     obtain ⟨wx, hwx⟩ : ∃ wx, wr.alloc (.cells #[.int .i64 (f : Int), .int .i64 el, .int .i64 (t : Int)] 53) = wx := ⟨_, rfl⟩
     rw [hwx] at bx hnb hrow hput hb5 hmat2
     have x0 := bx.cell (j := 0) rfl
     have x2 := bx.cell (j := 2) rfl
     have cN0 := hnb.cell (civ_get hgx).1
     have cN1 := hnb.cell (civ_get hgx).2
     have hmbx : mb < wx.heap.size := by
      obtain ⟨bs, -, -, -, h4, -⟩ := hmat2
      exact h4.lt
     have hnb2 : ¬ wr.heap.size = rb := blk_ne bx hnb (by decide)
     have hmx : ¬ wr.heap.size = mb := by
      obtain ⟨bs, -, -, -, h4, -⟩ := hmat2
      exact blk_ne bx h4 (by decide)
     have hmbl : mb < wr.heap.size := by
      obtain ⟨bs, -, -, -, h4, -⟩ := hmat
      exact h4.lt
     have hadd := fun w' => iadd_any (ineg X) (ineg 1) (imag X) (imag 1) w' (Nat.le_trans hXs.size (by omega)) (by rw [imag_size]; exact Nat.le_trans (bb_length_le (m := 1) (by decide)) (by omega))
     simp only [ival_canon] at hadd
     have hrbl := hnb.lt
     have hxbl := bx.lt
     have hix1 : (0 : Int) ≤ (f : Int) := by omega
     have hix2 : (f : Int) < (S : Int) := by omega
     have hix3 : (0 : Int) ≤ (t : Int) := by omega
     have hix4 : (t : Int) < (S : Int) := by omega
     have hne1 : ¬ mb = rb := hmr2
     have hne2 : ¬ rb = mb := fun e => hmr2 e.symm
     have hne3 : ¬ rb = wr.heap.size := fun e => hnb2 e.symm
     clear hedef hce hf ht hf0 hf1 ht0 ht1 hel hX hmr2 hmat hmat2 hXs hql ge
     have HSU := Lib.hid hsu; clear hsu
     have HPUT := Lib.hid hput; clear hput
     have HADD := Lib.hid hadd; clear hadd
     have HB5 := Lib.hid hb5; clear hb5
     have HNB := Lib.hid hnb; clear hnb
     have BX := Lib.hid bx; clear bx
     go_wp2_with fail
     clear hwx
     refine wp_region_held_drew (S := fun w' => w'.cell? ⟨wr.heap.size, 0, none⟩ = some (.int .i64 (f : Int)) ∧ w'.cell? ⟨wr.heap.size, 2, none⟩ = some (.int .i64 (t : Int)) ∧ w'.cell? ⟨mb, f, none⟩ = some (.slice (some ⟨rb, 0, none⟩) S S)) (by kernel_rfl) ?_ (fun hHeld => ?_)
     ·
      go_keep
     refine zT 0 (h := ?_)
     (try simp only [Act.put, zA, zB, zC])
     refine zT 1 (h := ?_)
     (try simp only [Act.put, zA, zB, zC])
     refine zT 2 (h := ?_)
     (try simp only [Act.put, zA, zB, zC])
     refine zT 3 (h := ?_)
     (try simp only [Act.put, zA, zB, zC])
     refine zT 4 (h := ?_)
     (try simp only [Act.put, zA, zB, zC])
     refine zT 5 (h := ?_)
     (try simp only [Act.put, zA, zB, zC])
     refine zT 6 (h := ?_)
     (try simp only [Act.put, zA, zB, zC])
     refine zT 7 (h := ?_)
     (try simp only [Act.put, zA, zB, zC])
     refine zT 8 (h := ?_)
     (try simp only [Act.put, zA, zB, zC])
     refine zT 9 (h := ?_)
     (try simp only [Act.put, zA, zB, zC])
     refine zT 10 (h := ?_)
     (try simp only [Act.put, zA, zB, zC])
     refine zT 11 (h := ?_)
     (try simp only [Act.put, zA, zB, zC])
     refine zT 12 (h := ?_)
     (try simp only [Act.put, zA, zB, zC])
     refine zT 13 (h := ?_)
     (try simp only [Act.put, zA, zB, zC])
     refine zT 14 (h := ?_)
     (try simp only [Act.put, zA, zB, zC])
     refine wpAnyH_ready (rs := [15, 16]) (by kernel_rfl) (by simp) ?_
     refine AllReadyH.cons rfl (fun K hK => ?_) (AllReadyH.cons rfl (fun K hK => ?_) AllReadyH.nil)
     ·
      go_simp
      refine hK.out _ _ ?_ (fun hH9 => ?_)
      ·
       ((try dsimp only); go_keep)
      clear hK K
      (try simp only [Act.put, zA, zB, zC])
      refine zR 16 (h := fun K hK => ?_)
      go_simp
      go_at_call 28
      refine (HOF.out _).mono ?_
      rintro e' w4 ⟨hq, rfl⟩
      dsimp only
      have z0 := (hq.cell (p := ⟨wr.heap.size, 0, none⟩) (show wr.heap.size < wx.heap.size by omega)).trans hH9.1
      have z1 := (hq.cell (p := ⟨wr.heap.size, 2, none⟩) (show wr.heap.size < wx.heap.size by omega)).trans hH9.2.1
      have z2 := (hq.cell (p := ⟨mb, f, none⟩) (show mb < wx.heap.size by omega)).trans hH9.2.2
      refine hK.out _ _ ⟨z0, z1, z2⟩ (fun hH4 => ?_)
      clear hK K z0 z1 z2
      (try simp only [Act.put, zA, zB, zC])
      have s4w : Below wx.heap.size wx w4 := ((Below.refl wx.heap.size wx).drew).trans hq
      have n4 := Blk.keep (w := wx.drew) HNB.out hq
      clear hq
      have hl4 := s4w.size
      refine zR 17 (h := fun K hK => ?_)
      go_simp
      go_at_call 44
      refine (HADD.out _).mono ?_
      rintro e' w5 ⟨hq, rfl⟩
      dsimp only
      have z0 := (hq.cell (p := ⟨wr.heap.size, 0, none⟩) (show wr.heap.size < w4.heap.size by omega)).trans hH4.1
      have z1 := (hq.cell (p := ⟨wr.heap.size, 2, none⟩) (show wr.heap.size < w4.heap.size by omega)).trans hH4.2.1
      have z2 := (hq.cell (p := ⟨mb, f, none⟩) (show mb < w4.heap.size by omega)).trans hH4.2.2
      refine hK.out _ _ ⟨z0, z1, z2⟩ (fun hH5 => ?_)
      clear hK K z0 z1 z2
      (try simp only [Act.put, zA, zB, zC])
      have s5w := s4w.trans (hq.mono s4w.size)
      have n5 := n4.keep hq
      have fr0 := n5.frozen (t * 2)
      have fr1 := n5.frozen (t * 2 + 1)
      have cn0 := n5.cell (civ_get hgx).1
      have cn1 := n5.cell (civ_get hgx).2
      have hput := HPUT.out _ s5w
      clear hq cN0 cN1
      have hl5 := s5w.size
      have HPT := Lib.hid hput; clear hput
      have S5 := Lib.hid s5w; clear s5w
      refine zT 18 (h := ?_)
      (try simp only [Act.put, zA, zB, zC])
      refine zR 19 (h := fun K hK => ?_)
      go_simp
      refine hK.out _ _ ?_ (fun hH9 => ?_)
      ·
       ((try dsimp only); go_keep)
      clear hK K
      (try simp only [Act.put, zA, zB, zC])
      refine wpAnyH_done (by kernel_rfl) ?_ _
      (try simp only [List.getElem_toArray, List.getElem_cons_zero, List.getElem_cons_succ, Act.put, zA, zB, zC])
      clear hH9
      go_wp2_with fail
      go_roundw
      case rel => exact ⟨q + 1, by omega, by go_num, ((HB5.out.trans (S5.out.mono HB5.out.size)).setCell (p := ⟨rb, t * 2, none⟩) hrb _).setCell (p := ⟨rb, t * 2 + 1, none⟩) hrb _, by rw [HSU.out]; exact HPT.out⟩
      case measure => simp [intOf]; omega
     ·
      go_simp
      go_at_call 28
      refine (HOF.out _).mono ?_
      rintro e' w4 ⟨hq, rfl⟩
      dsimp only
      have z0 := (hq.cell (p := ⟨wr.heap.size, 0, none⟩) (show wr.heap.size < wx.heap.size by omega)).trans hHeld.1
      have z1 := (hq.cell (p := ⟨wr.heap.size, 2, none⟩) (show wr.heap.size < wx.heap.size by omega)).trans hHeld.2.1
      have z2 := (hq.cell (p := ⟨mb, f, none⟩) (show mb < wx.heap.size by omega)).trans hHeld.2.2
      refine hK.out _ _ ⟨z0, z1, z2⟩ (fun hH4 => ?_)
      clear hK K z0 z1 z2
      (try simp only [Act.put, zA, zB, zC])
      have s4w : Below wx.heap.size wx w4 := ((Below.refl wx.heap.size wx).drew).trans hq
      have n4 := Blk.keep (w := wx.drew) HNB.out hq
      clear hq cN0 cN1
      have cN0 := n4.cell (civ_get hgx).1
      have cN1 := n4.cell (civ_get hgx).2
      have hl4 := s4w.size
      refine zR 15 (h := fun K hK => ?_)
      go_simp
      refine hK.out _ _ ?_ (fun hH9 => ?_)
      ·
       ((try dsimp only); go_keep)
      clear hK K
      (try simp only [Act.put, zA, zB, zC])
      refine zR 17 (h := fun K hK => ?_)
      go_simp
      go_at_call 44
      refine (HADD.out _).mono ?_
      rintro e' w5 ⟨hq, rfl⟩
      dsimp only
      have z0 := (hq.cell (p := ⟨wr.heap.size, 0, none⟩) (show wr.heap.size < w4.heap.size by omega)).trans hH9.1
      have z1 := (hq.cell (p := ⟨wr.heap.size, 2, none⟩) (show wr.heap.size < w4.heap.size by omega)).trans hH9.2.1
      have z2 := (hq.cell (p := ⟨mb, f, none⟩) (show mb < w4.heap.size by omega)).trans hH9.2.2
      refine hK.out _ _ ⟨z0, z1, z2⟩ (fun hH5 => ?_)
      clear hK K z0 z1 z2
      (try simp only [Act.put, zA, zB, zC])
      have s5w := s4w.trans (hq.mono s4w.size)
      have n5 := n4.keep hq
      have fr0 := n5.frozen (t * 2)
      have fr1 := n5.frozen (t * 2 + 1)
      have cn0 := n5.cell (civ_get hgx).1
      have cn1 := n5.cell (civ_get hgx).2
      have hput := HPUT.out _ s5w
      clear hq cN0 cN1
      have hl5 := s5w.size
      have HPT := Lib.hid hput; clear hput
      have S5 := Lib.hid s5w; clear s5w
      refine zT 18 (h := ?_)
      (try simp only [Act.put, zA, zB, zC])
      refine zR 19 (h := fun K hK => ?_)
      go_simp
      refine hK.out _ _ ?_ (fun hH9 => ?_)
      ·
       ((try dsimp only); go_keep)
      clear hK K
      (try simp only [Act.put, zA, zB, zC])
      refine wpAnyH_done (by kernel_rfl) ?_ _
      (try simp only [List.getElem_toArray, List.getElem_cons_zero, List.getElem_cons_succ, Act.put, zA, zB, zC])
      clear hH9
      go_wp2_with fail
      go_roundw
      case rel => exact ⟨q + 1, by omega, by go_num, ((HB5.out.trans (S5.out.mono HB5.out.size)).setCell (p := ⟨rb, t * 2, none⟩) hrb _).setCell (p := ⟨rb, t * 2 + 1, none⟩) hrb _, by rw [HSU.out]; exact HPT.out⟩
      case measure => simp [intOf]; omega
    ·
     obtain rfl : q = m := by omega
     rw [List.take_of_length_le (by rw [← HM.out]; exact Nat.le_refl _)] at hmat
     have HMAT := Lib.hid hmat; clear hmat
     have HB5 := Lib.hid hbel; clear hbel
     go_wp2_with fail
     go_ret
     exact ⟨HB5.out, mb, rfl, HMAT.out⟩
end Go.Proofs.YthpgeeaccmgbkaaGreat

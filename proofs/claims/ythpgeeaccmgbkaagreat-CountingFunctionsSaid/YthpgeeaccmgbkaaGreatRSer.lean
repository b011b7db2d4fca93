/- grooveref22.Series where it answers. -/
import Derived.Test.YthpgeeaccmgbkaaGreatPart15
import Derived.Test.YthpgeeaccmgbkaaGreatPart17
import Derived.Test.YthpgeeaccmgbkaaGreatAdj
import Derived.Test.YthpgeeaccmgbkaaGreatPart19
namespace Go.Proofs.YthpgeeaccmgbkaaGreat
open Go.RowKit

/-- Two lists and an error. -/
def SerR (N D : List Int) (c : Int) (w : World) (e : Ending) (w' : World) : Prop := Below w.heap.size w w' ∧ ∃ a b, e = .returned (.tuple #[a, b, .int .i64 c]) ∧ Row w' a N.length (civ N) ∧ Row w' b D.length (civ D)
theorem adj_sq {es : List E3} (h : es.length ≤ 1024) (S : Nat) : Sq S 2 (matF S S (adjF es)) := ⟨(adj_ok h S).len, (adj_ok h S).row, (adj_ok h S).sm⟩
set_option maxRecDepth 100000 in
set_option maxHeartbeats 16000000 in
theorem rseries_ok (L : Int) (S s : Nat) (es : List E3) (v : Value) (w : World) (hr : Row w v es.length (ce es)) (hc : chk L (S : Int) es = 0) (hS : S ≤ 32) (hs : s < S) :
  Calls Tryz.prog 21 #[.agg #[.int .i64 L, .int .i64 (S : Int), v], .int .i64 (s : Int)] w (SerR (tzI (serN es S s)) (tzI (serD es S)) 0 w) := by
 obtain ⟨va, vc, rfl, hle⟩ := hr.slice
 have hca := chk_all hc
 have hin := chk_inS hc
 have hl : es.length ≤ 1024 := by omega
 have hck := fun w' h => rcheck_any L (S : Int) es (.slice va es.length vc) w' h
 simp only [hc] at hck
 have hmr := mkRows S (by omega) (S : Int) rfl
 have hmi := mkI S (by omega) (S : Int) rfl
 have hmi1 := mkI (S + 1) (by omega) ((S : Int) + 1) (by omega)
 have hof := fun w' => rof_any 1 w' (by decide) (by decide)
 have hcha := fun v' w' h => rchar_any S 2 (matF S S (adjF es)) v' w' h (adj_sq hl S) (by omega) hS (by omega)
 have hcl := chL_len (matF S S (adjF es)) S (S + 1)
 have hpg : ∀ k, k ≤ S → (chL (matF S S (adjF es)) S (S + 1))[S - k]? = some (chC es S k) := fun k hk => by
  rw [← chR_chC es hk]
  show ((List.range (S + 1)).map (chR (matF S S (adjF es)) S))[S - k]? = _
  rw [List.getElem?_map, List.getElem?_range (by omega)]; rfl
 have hdset := fun k (h : k < S + 1) => dnP_set es h
 have hdget := fun k (h : k < S + 1) => dnP_get (es := es) h
 have hdz := dnP_zero es S
 have hdf := dnP_full es S
 have hDs : ∀ z ∈ serD es S, sm (5 * S + 1) z := fun z hz => by
  rw [← hdf] at hz
  obtain ⟨q, hq, rfl⟩ := List.mem_map.1 hz
  have hq' := List.mem_range.1 hq
  show sm _ (if q < S + 1 then chC es S q else 0)
  rw [if_pos hq']
  exact ((ch_sm hl hS q).2).mono (by omega)
 have hBs := bL_sm hl s S
 have hDl := serD_len es S
 have hDg : ∀ j, j < S + 1 → ∃ x, (serD es S)[j]? = some x ∧ sm (5 * S + 1) x := fun j hj => ⟨(serD es S)[j]'(by omega), List.getElem?_eq_getElem _, hDs _ (List.getElem_mem _)⟩
 have hBg : ∀ k, k < S → (bL es s S)[k]? = some (cw es allP k (s : Int)) := fun k hk => by simp [bL, hk]
 have hBv : ∀ k : Nat, k < S → sm (2 * S + 1) (cw es allP k (s : Int)) := fun k hk => hBs _ (List.mem_map.2 ⟨k, List.mem_range.2 hk, rfl⟩)
 have hcv := fun i j x y (h1 : (serD es S)[j]? = some x) (h2 : (bL es s S)[i - j]? = some y) => cv_succ h1 h2
 have hcvs := fun i j (hj : j ≤ 255) => cv_sm hDs hBs i hj
 have hn0 := numP_start (serD es S) (bL es s S) S
 have hng := fun i j (h : i < S) => numP_get (D := serD es S) (B := bL es s S) (j := j) h
 have hns := fun i j => numP_set (serD es S) (bL es s S) S i j
 have hnn := fun i => numP_next (serD es S) (bL es s S) S i
 have hnf := numP_full (serD es S) (bL es s S) S
 have hNs : ∀ z ∈ serN es S s, sm (7 * S + 3) z := fun z hz => by
  obtain ⟨q, hq, rfl⟩ := List.mem_map.1 (show z ∈ (List.range S).map fun q => cv (serD es S) (bL es s S) q (q + 1) from hz)
  exact (hcvs q (q + 1) (by have := List.mem_range.1 hq; omega)).mono (by omega)
 have hNl : (serN es S s).length = S := serN_len es S s
 have hcn := fun v' w' h => rcanL_any (serN es S s) v' w' h (by omega) (fun z hz => (hNs z hz).small (by omega))
 have hcd := fun v' w' h => rcanL_any (serD es S) v' w' h (by omega) (fun z hz => (hDs z hz).small (by omega))
 have hun := fun w' (h : Row w' (.slice va es.length vc) es.length (ce es)) => runit_any L S (-1) allP (.slice va es.length vc) es w' h (by omega) (all_unit S)
 rw [row0_full es S] at hun
 have hba := fun (k : Nat) (hk : k < S) b0 w' (h : Row w' (.slice va es.length vc) es.length (ce es)) hb => rback_any L S k b0 es allP (.slice va es.length vc) w' h (by omega) (by omega) hl hin hb
 have hrg := fun k => rowK_get (es := es) (S := S) (p := allP) (k := k) hs
 have hnf2 : numP (serD es S) (bL es s S) S S 0 = serN es S s := hnf
 clear hnf
 obtain ⟨CH, hCH⟩ : ∃ CH, CH = chL (matF S S (adjF es)) S (S + 1) := ⟨_, rfl⟩
 rw [← hCH] at hcha hcl hpg
 obtain ⟨cc, hcc⟩ : ∃ cc, cc = chC es S := ⟨_, rfl⟩
 simp only [← hcc] at hpg hdset
 obtain ⟨DN, hDN⟩ : ∃ DN, DN = dnP es S := ⟨_, rfl⟩
 simp only [← hDN] at hdset hdget hdz hdf
 obtain ⟨D, hD⟩ : ∃ D, D = serD es S := ⟨_, rfl⟩
 simp only [← hD] at hdf hDs hDl hDg hcv hcvs hn0 hng hns hnn hcd hnf2
 obtain ⟨B, hB⟩ : ∃ B, B = bL es s S := ⟨_, rfl⟩
 simp only [← hB] at hBs hBg hcv hcvs hn0 hng hns hnn hnf2
 obtain ⟨CV, hCV⟩ : ∃ CV, CV = cv D B := ⟨_, rfl⟩
 simp only [← hCV] at hcv hcvs hng hns
 obtain ⟨NP, hNP⟩ : ∃ NP, NP = numP D B S := ⟨_, rfl⟩
 simp only [← hNP] at hn0 hng hns hnn hnf2
 obtain ⟨N, hN⟩ : ∃ N, N = serN es S s := ⟨_, rfl⟩
 rw [← hN] at hcn hNl hnf2 hNs
 obtain ⟨tN, htN⟩ : ∃ tN, tN = tzI N := ⟨_, rfl⟩
 obtain ⟨tD, htD⟩ : ∃ tD, tD = tzI D := ⟨_, rfl⟩
 rw [← htN] at hcn
 rw [← htD] at hcd
 rw [← hN, ← hD, ← htN, ← htD]
 obtain ⟨bc, hbc⟩ : ∃ bc : Nat → Int, bc = fun k => cw es allP k (s : Int) := ⟨_, rfl⟩
 have ebc : ∀ k : Nat, cw es allP k (s : Int) = bc k := fun k => by rw [hbc]
 simp only [ebc] at hBg hBv hrg
 have s0 := (Below.refl w.heap.size w).alloc (Nat.le_refl _) (.cells #[.int .i64 L, .int .i64 (S : Int), .slice va es.length vc] 24)
 have b0 := Blk.new w 24 [.int .i64 L, .int .i64 (S : Int), .slice va es.length vc]
 have hr0 := hr.below s0 (Nat.le_refl _)
 obtain ⟨m, hm⟩ : ∃ m, m = es.length := ⟨_, rfl⟩
 rw [← hm] at s0 b0 hr0 hck hun hba hle hl
 have t2 : decide ((s : Int) < 0) = false := decide_eq_false (by omega)
 have t3 : decide ((S : Int) ≤ (s : Int)) = false := decide_eq_false (by omega)
 have t4 : decide ((32 : Int) < (S : Int)) = false := decide_eq_false (by omega)
 have t5 : ¬ S ≤ s := by omega
 have t6 : ¬ 32 < S := by omega
 have HM := Lib.hid hm; clear hm
 have HCK := Lib.hid hck; clear hck
 have HOF := Lib.hid hof; clear hof
 have HCHA := Lib.hid hcha; clear hcha
 have HCL := Lib.hid hcl; clear hcl
 have HPG := Lib.hid hpg; clear hpg
 have HDSET := Lib.hid hdset; clear hdset
 have HDGET := Lib.hid hdget; clear hdget
 have HDZ := Lib.hid hdz; clear hdz
 have HDF := Lib.hid hdf; clear hdf
 have HDL := Lib.hid hDl; clear hDl
 have HDG := Lib.hid hDg; clear hDg
 have HBG := Lib.hid hBg; clear hBg
 have HBV := Lib.hid hBv; clear hBv
 have HCV := Lib.hid hcv; clear hcv
 have HCVS := Lib.hid hcvs; clear hcvs
 have HN0 := Lib.hid hn0; clear hn0
 have HNG := Lib.hid hng; clear hng
 have HNS := Lib.hid hns; clear hns
 have HNN := Lib.hid hnn; clear hnn
 have HNF := Lib.hid hnf2; clear hnf2
 have HNL := Lib.hid hNl; clear hNl
 have HCN := Lib.hid hcn; clear hcn
 have HCD := Lib.hid hcd; clear hcd
 have HUN := Lib.hid hun; clear hun
 have HBA := Lib.hid hba; clear hba
 have HRG := Lib.hid hrg; clear hrg
 have HIN := Lib.hid hin; clear hin
 have S0 := Lib.hid s0; clear s0
 have B0 := Lib.hid b0; clear b0
 have HR0 := Lib.hid hr0; clear hr0
 clear hr hc hca hDs hBs hNs hCH hcc hDN hD hB hCV hNP hN htN htD hbc ebc
 go_enter Tryz.func21, Tryz.ntmps21
 rw [← HM.out]
 go_wp2_with fail
 go_at_call 35
 refine (HCK.out _ HR0.out).mono ?_
 rintro e w1 ⟨hq, rfl⟩
 have s1 := S0.out.trans (hq.mono S0.out.size)
 have hr1 := HR0.out.below hq (Nat.le_refl _)
 have tk := B0.out.keep hq; have x0 := tk.cell (j := 0) rfl; have x1 := tk.cell (j := 1) rfl; have x2 := tk.cell (j := 2) rfl; have BG := Lib.hid tk; clear tk
 have hg1 : w.heap.size < w1.heap.size := BG.out.lt
 have hd0 : RowsD w1.heap.size (w1.alloc (.cells (zarr (.slice none 0 0) S) 32)) w1.heap.size S S (fun _ _ => 0) [] := ⟨Nat.zero_le _, List.nodup_nil, blk_mkRows w1 S, fun i b h => by simp at h⟩
 have s2 := (Below.refl w1.heap.size w1).alloc (Nat.le_refl _) (.cells (zarr (.slice none 0 0) S) 32)
 have S1 := Lib.hid s1; clear s1
 have HR := Lib.hid hr1; clear hr1
 have HD0 := Lib.hid hd0; clear hd0
 have S2 := Lib.hid s2; clear s2
 clear hq
 go_wp2_with fail
 clear x0 x1 x2
 go_loopw [9] (fun i wr => ∃ (j : Nat) (bs : List Nat), j ≤ S ∧ bs.length = j ∧ i = .int .i64 (j : Int) ∧ Below w1.heap.size w1 wr ∧ RowsD w1.heap.size wr w1.heap.size S S (fun _ _ => 0) bs) (fun i _ => S - (intOf i).toNat)
 case atStart => exact ⟨0, [], Nat.zero_le _, rfl, rfl, S2.out, HD0.out⟩
 case round =>
  obtain ⟨j, bs, hj, hbl, rfl, hbel, hrd⟩ := hrel
  obtain ⟨wo, rfl⟩ : ∃ wo : World, wo = wr := ⟨_, rfl⟩
  by_cases hlt : j < S
  ·
   have hb0 := hrd.2.2.1
   have hlo := hb0.lt
   have f0 := hb0.frozen j
   have tj : decide ((j : Int) < (S : Int)) = true := by simp; omega
   have hix : (0 : Int) ≤ (j : Int) := by omega
   have hix2 : (j : Int) < (S : Int) := by omega
   have c0 : wo.cell? ⟨w1.heap.size, j, none⟩ = some (.slice none 0 0) := hb0.cell (by
    rw [List.getElem?_append_right (by rw [rowsV_length]; omega), rowsV_length, hbl, Nat.sub_self, List.getElem?_replicate, if_pos (by omega)])
   have hnext := hrd.next (m := S) (by omega) hbel.size
   rw [hbl] at hnext
   have hdone : RowsD w1.heap.size ((wo.setCell ⟨w1.heap.size, j, none⟩ (.slice (some ⟨wo.heap.size, 0, none⟩) S S)).alloc (.cells (zarr (.agg #[.bool false, .string ⟨#[]⟩]) S) 28)) w1.heap.size S S (fun _ _ => 0) (bs ++ [wo.heap.size]) := by
    refine RowsP.done (f := fun _ _ => 0) ?_
    obtain ⟨p1, p2, p3, p4, p5, p6⟩ := hnext
    exact ⟨p1, p2, p3, p4, p5, by rw [prow_const] at p6 ⊢; exact p6⟩
   have hbel2 := (hbel.setCell (p := ⟨w1.heap.size, j, none⟩) (Nat.le_refl _) (.slice (some ⟨wo.heap.size, 0, none⟩) S S)).alloc (by rw [World.size_setCell]; exact hbel.size) (.cells (zarr (.agg #[.bool false, .string ⟨#[]⟩]) S) 28)
   have HDN := Lib.hid hdone; clear hdone
   have HB2 := Lib.hid hbel2; clear hbel2
   clear hnext hb0 hrd hbel
   go_wp2_with fail
   go_roundw
   case rel => exact ⟨j + 1, bs ++ [wo.heap.size], by omega, by simp [hbl], by go_num, HB2.out, HDN.out⟩
   case measure => simp [intOf]; omega
  ·
   have hjS : j = S := by omega
   have tj : decide ((j : Int) < (S : Int)) = false := by simp; omega
   rw [hjS] at hbl
   have hfull := hrd.full (B := w1.heap.size) (Nat.le_refl _) hbl
   obtain ⟨mb, hmb⟩ : ∃ mb, mb = w1.heap.size := ⟨_, rfl⟩
   have hmat0 : MatB w1.heap.size wo mb S (matF S S (adjF (es.take 0))) := by
    have e : (adjF (es.take 0)) = fun _ _ => 0 := by funext i k; simp [adjF]
    rw [e, hmb]; exact hfull
   have HMAT0 := Lib.hid hmat0; clear hmat0
   have HB3 := Lib.hid hbel; clear hbel
   clear hrd hfull hbl hjS
   go_wp2_with fail
   rw [← hmb]
   clear hmb
   go_loopw [10] (fun i wr => ∃ q : Nat, q ≤ m ∧ i = .int .i64 (q : Int) ∧ Below w1.heap.size w1 wr ∧ MatB w1.heap.size wr mb S (matF S S (adjF (es.take q)))) (fun i _ => m - (intOf i).toNat)
   case atStart => exact ⟨0, Nat.zero_le _, rfl, HB3.out, HMAT0.out⟩
   case round =>
    obtain ⟨q, hq, rfl, hbel, hmat⟩ := hrel
    have dg := BG.out.below hbel (by omega)
    have x2 := dg.cell (j := 2) rfl
    by_cases hlt3 : q < m
    ·
     have tq : decide ((q : Int) < (m : Int)) = true := by simp; omega
     have ge : es[q]? = some (es[q]'(by rw [← HM.out]; exact hlt3)) := List.getElem?_eq_getElem _
     obtain ⟨e, hedef⟩ : ∃ e, e = es[q]'(by rw [← HM.out]; exact hlt3) := ⟨_, rfl⟩
     rw [← hedef] at ge
     obtain ⟨hf0, hf1, ht0, ht1⟩ := HIN.out e (List.mem_of_getElem? ge)
     obtain ⟨f, hf⟩ : ∃ f : Nat, e.f = f := ⟨e.f.toNat, by omega⟩
     obtain ⟨t, ht⟩ : ∃ t : Nat, e.t = t := ⟨e.t.toNat, by omega⟩
     have hfS : f < S := by omega
     have htS : t < S := by omega
     obtain ⟨b', off, rfl, hbw, hce⟩ := HR.out.at_ (by omega)
     obtain ⟨q0, q1, q2⟩ := edge_cells hce hbel hbw ge
     have hql : q < es.length := by rw [← HM.out]; exact hlt3
     have hsu : adjF (es.take (q + 1)) = upd (adjF (es.take q)) f t (adjF (es.take q) f t + 1) := by
      rw [List.take_succ_eq_append_getElem hql, ← hedef]; exact adjF_snoc hf ht
     have hXs : sm 2 (adjF (es.take q) f t) := adjF_sm (by rw [List.length_take]; omega) f t
     obtain ⟨el, hel⟩ : ∃ x, x = e.l := ⟨_, rfl⟩
     rw [hf] at q0
     rw [ht] at q2
     rw [← hel] at q1
     have hmat2 := hmat.keep ((Below.refl wr.heap.size wr).alloc (Nat.le_refl _) (.cells #[.int .i64 (f : Int), .int .i64 el, .int .i64 (t : Int)] 53))
     have bx := Blk.new wr 53 [.int .i64 (f : Int), .int .i64 el, .int .i64 (t : Int)]
     have hb5 := hbel.alloc hbel.size (.cells #[.int .i64 (f : Int), .int .i64 el, .int .i64 (t : Int)] 53)
     obtain ⟨X, hX⟩ : ∃ X, X = adjF (es.take q) f t := ⟨_, rfl⟩
     rw [← hX] at hsu hXs
     obtain ⟨rb, hrb, hmr2, hnb, hrow, hput⟩ := hmat2.put hfS (k := t) (X + 1)
     have hgx : ((List.range S).map (adjF (es.take q) f))[t]? = some X := by simp [htS, hX]
     obtain ⟨wx, hwx⟩ : ∃ wx, wr.alloc (.cells #[.int .i64 (f : Int), .int .i64 el, .int .i64 (t : Int)] 53) = wx := ⟨_, rfl⟩
     rw [hwx] at bx hnb hrow hput hb5 hmat2
     have x0 := bx.cell (j := 0) rfl
     have x2' := bx.cell (j := 2) rfl
     have cN0 := hnb.cell (civ_get hgx).1
     have cN1 := hnb.cell (civ_get hgx).2
     have hmbx : mb < wx.heap.size := by
      obtain ⟨bs, -, -, -, h4, -⟩ := hmat2
      exact h4.lt
     have hnb2 : ¬ wr.heap.size = rb := blk_ne bx hnb (by decide)
     have hmx : ¬ wr.heap.size = mb := by
      obtain ⟨bs, -, -, -, h4, -⟩ := hmat2
      exact blk_ne bx h4 (by decide)
     have hmbl : mb < wr.heap.size := by
      obtain ⟨bs, -, -, -, h4, -⟩ := hmat
      exact h4.lt
     have hadd := fun w' => radd_any X 1 w' (Nat.le_trans hXs.size (by omega)) (by rw [imag_size]; exact Nat.le_trans (bb_length_le (m := 1) (by decide)) (by omega))
     have hrbl := hnb.lt
     have hxbl := bx.lt
     have hix1 : (0 : Int) ≤ (f : Int) := by omega
     have hix2 : (f : Int) < (S : Int) := by omega
     have hix3 : (0 : Int) ≤ (t : Int) := by omega
     have hix4 : (t : Int) < (S : Int) := by omega
     have hix5 : (0 : Int) ≤ (q : Int) := by omega
     have hix6 : (q : Int) < (m : Int) := by omega
     have hne1 : ¬ mb = rb := hmr2
     have hne2 : ¬ rb = mb := fun e => hmr2 e.symm
     have hne3 : ¬ rb = wr.heap.size := fun e => hnb2 e.symm
     clear hedef hce hf ht hf0 hf1 ht0 ht1 hel hX hmr2 hmat hmat2 hXs hql ge dg
     have HSU := Lib.hid hsu; clear hsu
     have HPUT := Lib.hid hput; clear hput
     have HADD := Lib.hid hadd; clear hadd
     have HB5 := Lib.hid hb5; clear hb5
     have HNB := Lib.hid hnb; clear hnb
     have BX := Lib.hid bx; clear bx
     go_wp2_with fail
     clear hwx x2
     refine wp_region_held_drew (S := fun w' => w'.cell? ⟨wr.heap.size, 0, none⟩ = some (.int .i64 (f : Int)) ∧ w'.cell? ⟨wr.heap.size, 2, none⟩ = some (.int .i64 (t : Int)) ∧ w'.cell? ⟨mb, f, none⟩ = some (.slice (some ⟨rb, 0, none⟩) S S)) (by kernel_rfl) ?_ (fun hHeld => ?_)
     ·
      go_keep
     refine zT 0 (h := ?_)
     (try simp only [Act.put, zA, zB, zC])
     refine zT 1 (h := ?_)
     (try simp only [Act.put, zA, zB, zC])
     refine zT 2 (h := ?_)
     (try simp only [Act.put, zA, zB, zC])
     refine zT 3 (h := ?_)
     (try simp only [Act.put, zA, zB, zC])
     refine zT 4 (h := ?_)
     (try simp only [Act.put, zA, zB, zC])
     refine zT 5 (h := ?_)
     (try simp only [Act.put, zA, zB, zC])
     refine zT 6 (h := ?_)
     (try simp only [Act.put, zA, zB, zC])
     refine zT 7 (h := ?_)
     (try simp only [Act.put, zA, zB, zC])
     refine zT 8 (h := ?_)
     (try simp only [Act.put, zA, zB, zC])
     refine zT 9 (h := ?_)
     (try simp only [Act.put, zA, zB, zC])
     refine zT 10 (h := ?_)
     (try simp only [Act.put, zA, zB, zC])
     refine zT 11 (h := ?_)
     (try simp only [Act.put, zA, zB, zC])
     refine zT 12 (h := ?_)
     (try simp only [Act.put, zA, zB, zC])
     refine zT 13 (h := ?_)
     (try simp only [Act.put, zA, zB, zC])
     refine zT 14 (h := ?_)
     (try simp only [Act.put, zA, zB, zC])
     refine wpAnyH_ready (rs := [15, 16]) (by kernel_rfl) (by simp) ?_
     refine AllReadyH.cons rfl (fun K hK => ?_) (AllReadyH.cons rfl (fun K hK => ?_) AllReadyH.nil)
     ·
      go_simp
      refine hK.out _ _ ?_ (fun hH9 => ?_)
      ·
       ((try dsimp only); go_keep)
      clear hK K
      (try simp only [Act.put, zA, zB, zC])
      refine zR 16 (h := fun K hK => ?_)
      go_simp
      go_at_call 49
      refine (HOF.out _).mono ?_
      rintro e' w4 ⟨hq, rfl⟩
      dsimp only
      have z0 := (hq.cell (p := ⟨wr.heap.size, 0, none⟩) (show wr.heap.size < wx.heap.size by omega)).trans hH9.1
      have z1 := (hq.cell (p := ⟨wr.heap.size, 2, none⟩) (show wr.heap.size < wx.heap.size by omega)).trans hH9.2.1
      have z2 := (hq.cell (p := ⟨mb, f, none⟩) (show mb < wx.heap.size by omega)).trans hH9.2.2
      refine hK.out _ _ ⟨z0, z1, z2⟩ (fun hH4 => ?_)
      clear hK K z0 z1 z2
      (try simp only [Act.put, zA, zB, zC])
      have s4w : Below wx.heap.size wx w4 := ((Below.refl wx.heap.size wx).drew).trans hq
      have n4 := Blk.keep (w := wx.drew) HNB.out hq
      clear hq
      have hl4 := s4w.size
      refine zR 17 (h := fun K hK => ?_)
      go_simp
      go_at_call 40
      refine (HADD.out _).mono ?_
      rintro e' w5 ⟨hq, rfl⟩
      dsimp only
      have z0 := (hq.cell (p := ⟨wr.heap.size, 0, none⟩) (show wr.heap.size < w4.heap.size by omega)).trans hH4.1
      have z1 := (hq.cell (p := ⟨wr.heap.size, 2, none⟩) (show wr.heap.size < w4.heap.size by omega)).trans hH4.2.1
      have z2 := (hq.cell (p := ⟨mb, f, none⟩) (show mb < w4.heap.size by omega)).trans hH4.2.2
      refine hK.out _ _ ⟨z0, z1, z2⟩ (fun hH5 => ?_)
      clear hK K z0 z1 z2
      (try simp only [Act.put, zA, zB, zC])
      have s5w := s4w.trans (hq.mono s4w.size)
      have n5 := n4.keep hq
      have fr0 := n5.frozen (t * 2)
      have fr1 := n5.frozen (t * 2 + 1)
      have cn0 := n5.cell (civ_get hgx).1
      have cn1 := n5.cell (civ_get hgx).2
      have hput := HPUT.out _ s5w
      clear hq cN0 cN1
      have hl5 := s5w.size
      have HPT := Lib.hid hput; clear hput
      have S5 := Lib.hid s5w; clear s5w
      refine zT 18 (h := ?_)
      (try simp only [Act.put, zA, zB, zC])
      refine zR 19 (h := fun K hK => ?_)
      go_simp
      refine hK.out _ _ ?_ (fun hH8 => ?_)
      ·
       ((try dsimp only); go_keep)
      clear hK K
      (try simp only [Act.put, zA, zB, zC])
      refine wpAnyH_done (by kernel_rfl) ?_ _
      (try simp only [List.getElem_toArray, List.getElem_cons_zero, List.getElem_cons_succ, Act.put, zA, zB, zC])
      go_wp2_with fail
      go_roundw
      case rel => exact ⟨q + 1, by omega, by go_num, ((HB5.out.trans (S5.out.mono HB5.out.size)).setCell (p := ⟨rb, t * 2, none⟩) hrb _).setCell (p := ⟨rb, t * 2 + 1, none⟩) hrb _, by rw [HSU.out]; exact HPT.out⟩
      case measure => simp [intOf]; omega
     ·
      go_simp
      go_at_call 49
      refine (HOF.out _).mono ?_
      rintro e' w4 ⟨hq, rfl⟩
      dsimp only
      have z0 := (hq.cell (p := ⟨wr.heap.size, 0, none⟩) (show wr.heap.size < wx.heap.size by omega)).trans hHeld.1
      have z1 := (hq.cell (p := ⟨wr.heap.size, 2, none⟩) (show wr.heap.size < wx.heap.size by omega)).trans hHeld.2.1
      have z2 := (hq.cell (p := ⟨mb, f, none⟩) (show mb < wx.heap.size by omega)).trans hHeld.2.2
      refine hK.out _ _ ⟨z0, z1, z2⟩ (fun hH4 => ?_)
      clear hK K z0 z1 z2
      (try simp only [Act.put, zA, zB, zC])
      have s4w : Below wx.heap.size wx w4 := ((Below.refl wx.heap.size wx).drew).trans hq
      have n4 := Blk.keep (w := wx.drew) HNB.out hq
      clear hq cN0 cN1
      have cN0 := n4.cell (civ_get hgx).1
      have cN1 := n4.cell (civ_get hgx).2
      have hl4 := s4w.size
      refine zR 15 (h := fun K hK => ?_)
      go_simp
      refine hK.out _ _ ?_ (fun hH9 => ?_)
      ·
       ((try dsimp only); go_keep)
      clear hK K
      (try simp only [Act.put, zA, zB, zC])
      refine zR 17 (h := fun K hK => ?_)
      go_simp
      go_at_call 40
      refine (HADD.out _).mono ?_
      rintro e' w5 ⟨hq, rfl⟩
      dsimp only
      have z0 := (hq.cell (p := ⟨wr.heap.size, 0, none⟩) (show wr.heap.size < w4.heap.size by omega)).trans hH9.1
      have z1 := (hq.cell (p := ⟨wr.heap.size, 2, none⟩) (show wr.heap.size < w4.heap.size by omega)).trans hH9.2.1
      have z2 := (hq.cell (p := ⟨mb, f, none⟩) (show mb < w4.heap.size by omega)).trans hH9.2.2
      refine hK.out _ _ ⟨z0, z1, z2⟩ (fun hH5 => ?_)
      clear hK K z0 z1 z2
      (try simp only [Act.put, zA, zB, zC])
      have s5w := s4w.trans (hq.mono s4w.size)
      have n5 := n4.keep hq
      have fr0 := n5.frozen (t * 2)
      have fr1 := n5.frozen (t * 2 + 1)
      have cn0 := n5.cell (civ_get hgx).1
      have cn1 := n5.cell (civ_get hgx).2
      have hput := HPUT.out _ s5w
      clear hq cN0 cN1
      have hl5 := s5w.size
      have HPT := Lib.hid hput; clear hput
      have S5 := Lib.hid s5w; clear s5w
      refine zT 18 (h := ?_)
      (try simp only [Act.put, zA, zB, zC])
      refine zR 19 (h := fun K hK => ?_)
      go_simp
      refine hK.out _ _ ?_ (fun hH8 => ?_)
      ·
       ((try dsimp only); go_keep)
      clear hK K
      (try simp only [Act.put, zA, zB, zC])
      refine wpAnyH_done (by kernel_rfl) ?_ _
      (try simp only [List.getElem_toArray, List.getElem_cons_zero, List.getElem_cons_succ, Act.put, zA, zB, zC])
      go_wp2_with fail
      go_roundw
      case rel => exact ⟨q + 1, by omega, by go_num, ((HB5.out.trans (S5.out.mono HB5.out.size)).setCell (p := ⟨rb, t * 2, none⟩) hrb _).setCell (p := ⟨rb, t * 2 + 1, none⟩) hrb _, by rw [HSU.out]; exact HPT.out⟩
      case measure => simp [intOf]; omega
    ·
     have hqm : q = m := by omega
     have tq : decide ((q : Int) < (m : Int)) = false := by simp; omega
     rw [hqm, List.take_of_length_le (by rw [← HM.out]; exact Nat.le_refl _)] at hmat
     have hmt := (hmat.tabB (by rw [matF_length]; omega) (by omega)).tab
     rw [matF_length] at hmt
     have hch := HCHA.out _ _ hmt
     obtain ⟨wa, rfl⟩ : ∃ wa : World, wa = wr := ⟨_, rfl⟩
     have hra := HR.out.below hbel (Nat.le_refl _)
     have hsa := S1.out.trans (hbel.mono S1.out.size)
     have HCH := Lib.hid hch; clear hch
     have HRA := Lib.hid hra; clear hra
     have HSA := Lib.hid hsa; clear hsa
     have BGA := Lib.hid dg; clear dg
     clear hmat hmt hqm hbel
     go_wp2_with fail
     clear x2
     go_at_call 56
     refine HCH.out.mono ?_
     rintro e w3 ⟨hq3, u, rfl, hpr⟩
     rw [HCL.out] at hpr
     have hr3 := HRA.out.below hq3 (Nat.le_refl _)
     have hs3 := HSA.out.trans (hq3.mono HSA.out.size)
     have dg3 := BGA.out.keep hq3
     have hw3 : IntKind.i64.wrap ((S : Int) + 1) = (S : Int) + 1 := IntWalk.i64_in _ (by omega)
     have bD := blk_mkI w3 (S + 1)
     rw [← HDZ.out] at bD
     have sD := (Below.refl w3.heap.size w3).alloc (Nat.le_refl _) (.cells (zarr (.agg #[.bool false, .string ⟨#[]⟩]) (S + 1)) 28)
     obtain ⟨ua, uc, rfl, hule⟩ := hpr.slice
     have HR3 := Lib.hid hr3; clear hr3
     have HS3 := Lib.hid hs3; clear hs3
     have BG3 := Lib.hid dg3; clear dg3
     have HPR := Lib.hid hpr; clear hpr
     have BD := Lib.hid bD; clear bD
     have SD := Lib.hid sD; clear sD
     clear hq3
     go_wp2_with fail
     go_loopw [15] (fun i wr => ∃ k : Nat, k ≤ S + 1 ∧ i = .int .i64 (k : Int) ∧ Below w3.heap.size w3 wr ∧ Blk wr w3.heap.size 28 (civ (DN k))) (fun i _ => S + 1 - (intOf i).toNat)
     case atStart => exact ⟨0, Nat.zero_le _, rfl, SD.out, BD.out⟩
     case round =>
      obtain ⟨k, hk, rfl, hbel, hblk⟩ := hrel
      obtain ⟨wb, rfl⟩ : ∃ wb : World, wb = wr := ⟨_, rfl⟩
      by_cases hkS : k ≤ S
      ·
       have tk : decide ((k : Int) ≤ (S : Int)) = true := by simp; omega
       obtain ⟨x, hxe⟩ : ∃ x, x = cc k := ⟨_, rfl⟩
       have hx := HPG.out k hkS
       have hst := HDSET.out k (by omega)
       rw [← hxe] at hx hst
       obtain ⟨z, hz⟩ : ∃ z, z = S - k := ⟨_, rfl⟩
       rw [← hz] at hx
       have hzw : (S : Int) - (k : Int) = (z : Int) := by omega
       have hzw2 : IntKind.i64.wrap (z : Int) = (z : Int) := IntWalk.i64_in _ (by omega)
       have hzw3 : IntKind.i64.wrap ((S : Int) - (k : Int)) = (z : Int) := by rw [hzw]; exact hzw2
       obtain ⟨bp, op, rfl, hbp, hcp⟩ := HPR.out.at_ (by omega)
       obtain ⟨q0, q1⟩ := int_cells hcp hbel hbp hx
       obtain ⟨g0, g1⟩ := civ_get (HDGET.out k (by omega))
       have c0 := hblk.cell g0
       have c1 := hblk.cell g1
       have f0 := hblk.frozen (k * 2)
       have f1 := hblk.frozen (k * 2 + 1)
       have nb := (hblk.set (k * 2) (.bool (ineg x))).set (k * 2 + 1) (.string (imag x))
       rw [civ_set, hst] at nb
       have sb := (hbel.setCell (p := ⟨w3.heap.size, k * 2, none⟩) (Nat.le_refl _) (.bool (ineg x))).setCell (p := ⟨w3.heap.size, k * 2 + 1, none⟩) (Nat.le_refl _) (.string (imag x))
       have hix1 : (0 : Int) ≤ (z : Int) := by omega
       have hix2 : (z : Int) < ((S + 1 : Nat) : Int) := by omega
       have hix3 : (0 : Int) ≤ (k : Int) := by omega
       have hix4 : (k : Int) < ((S + 1 : Nat) : Int) := by omega
       have hix5 : z < S + 1 := by omega
       have hix6 : k < S + 1 := by omega
       have hne1 : ¬ w3.heap.size = bp := by omega
       have NB := Lib.hid nb; clear nb
       have SB := Lib.hid sb; clear sb
       clear hst hxe hx hz hcp hblk hbel g0 g1
       go_wp2_with fail
       go_roundw
       case rel => exact ⟨k + 1, by omega, by go_num, SB.out, NB.out⟩
       case measure => simp [intOf]; omega
      ·
       have hkS2 : k = S + 1 := by omega
       have tk : decide ((k : Int) ≤ (S : Int)) = false := by simp; omega
       rw [hkS2, HDF.out] at hblk
       have hr4 := HR3.out.below hbel (Nat.le_refl _)
       have hs4 := HS3.out.trans (hbel.mono HS3.out.size)
       have dg4 := BG3.out.below hbel (by have := BG3.out.lt; omega)
       obtain ⟨db, hdb⟩ : ∃ db, db = w3.heap.size := ⟨_, rfl⟩
       rw [← hdb] at hblk
       have bN := blk_mkI wb S
       rw [← HN0.out] at bN
       have sN := (Below.refl wb.heap.size wb).alloc (Nat.le_refl _) (.cells (zarr (.agg #[.bool false, .string ⟨#[]⟩]) S) 28)
       have hwg : w.heap.size < wb.heap.size := dg4.lt
       have hdl := hblk.lt
       have HR4 := Lib.hid hr4; clear hr4
       have HS4 := Lib.hid hs4; clear hs4
       have BG4 := Lib.hid dg4; clear dg4
       have BDN := Lib.hid hblk; clear hblk
       have BN := Lib.hid bN; clear bN
       have SN := Lib.hid sN; clear sN
       clear hkS2 hbel
       go_wp2_with fail
       rw [← hdb]
       clear hdb
       go_loopw [17, 18] (fun i _ wr => ∃ k : Nat, k ≤ S ∧ i = .int .i64 (k : Int) ∧ Below wb.heap.size wb wr ∧ Blk wr wb.heap.size 28 (civ (NP k 0))) (fun i _ _ => S - (intOf i).toNat)
       case atStart => exact ⟨0, Nat.zero_le _, rfl, SN.out, BN.out⟩
       case round =>
        obtain ⟨k, hk, rfl, hbel, hblk⟩ := hrel
        obtain ⟨wc, rfl⟩ : ∃ wc : World, wc = wr := ⟨_, rfl⟩
        by_cases hkS : k < S
        ·
         have tk : decide ((k : Int) < (S : Int)) = true := by simp; omega
         have HBEL := Lib.hid hbel; clear hbel
         have HBLK := Lib.hid hblk; clear hblk
         go_wp2_with fail
         go_loopw [18] (fun i wr => ∃ j : Nat, j ≤ k + 1 ∧ i = .int .i64 (j : Int) ∧ Below wb.heap.size wb wr ∧ Blk wr wb.heap.size 28 (civ (NP k j))) (fun i _ => k + 1 - (intOf i).toNat)
         case atStart => exact ⟨0, Nat.zero_le _, rfl, HBEL.out, HBLK.out⟩
         case round =>
          obtain ⟨j, hj, rfl, hbe, hbk⟩ := hrel
          obtain ⟨wd, rfl⟩ : ∃ wd : World, wd = wr := ⟨_, rfl⟩
          have hszd := hbe.size
          by_cases hjk : j ≤ k
          ·
           have tj : decide ((j : Int) ≤ (k : Int)) = true := by simp; omega
           obtain ⟨z, hz⟩ : ∃ z, z = k - j := ⟨_, rfl⟩
           have hzw : IntKind.i64.wrap ((k : Int) - (j : Int)) = (z : Int) := by rw [show (k : Int) - (j : Int) = (z : Int) by omega]; exact IntWalk.i64_in _ (by omega)
           have hzS : z < S := by omega
           have hy := HBG.out z hzS
           have hys := HBV.out z hzS
           have hrz := HRG.out z
           obtain ⟨y, hye⟩ : ∃ y, y = bc z := ⟨_, rfl⟩
           rw [← hye] at hy hys hrz
           obtain ⟨x, hx, hxs⟩ := HDG.out j (by omega)
           have hsu := HCV.out k j x y hx (by rw [← hz]; exact hy)
           have hMs := HCVS.out k j (by omega)
           have hget := HNG.out k j hkS
           have hset := HNS.out k j
           rw [hsu] at hset
           obtain ⟨M, hM⟩ : ∃ M, M = CV k j := ⟨_, rfl⟩
           rw [← hM] at hset hget hMs
           have hPs := hxs.mul hys
           have hmul := fun w' => rmul_any x y w' (Nat.le_trans hxs.size (by omega)) (Nat.le_trans hys.size (by omega))
           obtain ⟨P, hP⟩ : ∃ P, P = x * y := ⟨_, rfl⟩
           rw [← hP] at hmul hset hPs
           have hadd := fun w' => radd_any M P w' (Nat.le_trans hMs.size (by omega)) (Nat.le_trans hPs.size (by omega))
           have hbz := HBA.out z hzS
           obtain ⟨gz0, gz1⟩ := civ_get hrz
           obtain ⟨gx0, gx1⟩ := civ_get hx
           obtain ⟨gm0, gm1⟩ := civ_get hget
           have hrd := HR4.out.below hbe (Nat.le_refl _)
           have dgd := BG4.out.below hbe hwg
           have dnd := BDN.out.below hbe hdl
           have v0 := dgd.cell (j := 0) rfl
           have v1 := dgd.cell (j := 1) rfl
           have v2 := dgd.cell (j := 2) rfl
           have hwgd : w.heap.size < wd.heap.size := by omega
           have hix1 : (0 : Int) ≤ (s : Int) := by omega
           have hix2 : (s : Int) < (S : Int) := by omega
           have hix3 : (0 : Int) ≤ (k : Int) := by omega
           have hix4 : (k : Int) < (S : Int) := by omega
           have hix5 : (0 : Int) ≤ (j : Int) := by omega
           have hix6 : (j : Int) < ((S + 1 : Nat) : Int) := by omega
           have hix7 : j < S + 1 := by omega
           have hix8 : (j : Int) < (S : Int) + 1 := by omega
           have hbl2 := hbk.lt
           have sw := (Below.refl wd.heap.size wd).drew
           have HSET := Lib.hid hset; clear hset
           have HMUL := Lib.hid hmul; clear hmul
           have HADD := Lib.hid hadd; clear hadd
           have HBZ := Lib.hid hbz; clear hbz
           have GZ0 := Lib.hid gz0; clear gz0
           have GZ1 := Lib.hid gz1; clear gz1
           have GX0 := Lib.hid gx0; clear gx0
           have GX1 := Lib.hid gx1; clear gx1
           have GM0 := Lib.hid gm0; clear gm0
           have GM1 := Lib.hid gm1; clear gm1
           have HRD := Lib.hid hrd; clear hrd
           have DGD := Lib.hid dgd; clear dgd
           have DND := Lib.hid dnd; clear dnd
           have HBE := Lib.hid hbe; clear hbe
           have HBK := Lib.hid hbk; clear hbk
           clear hsu hy hys hrz hye hx hxs hMs hget hM hPs hP hz
           go_wp2_with fail
           refine wp_region_held_drew (S := fun w' => w'.cell? ⟨w.heap.size, 0, none⟩ = some (.int .i64 L) ∧ w'.cell? ⟨w.heap.size, 1, none⟩ = some (.int .i64 (S : Int)) ∧ w'.cell? ⟨w.heap.size, 2, none⟩ = some (.slice va m vc)) (by kernel_rfl) ?_ (fun hHeld => ?_)
           ·
            go_keep
           refine zT 0 (h := ?_)
           (try simp only [Act.put, zA, zB, zC])
           refine zT 1 (h := ?_)
           (try simp only [Act.put, zA, zB, zC])
           refine zT 3 (h := ?_)
           (try simp only [Act.put, zA, zB, zC])
           refine zT 4 (h := ?_)
           (try simp only [Act.put, zA, zB, zC])
           refine zT 5 (h := ?_)
           (try simp only [Act.put, zA, zB, zC])
           refine zT 7 (h := ?_)
           (try simp only [Act.put, zA, zB, zC])
           refine wpAnyH_ready (rs := [2, 10]) (by kernel_rfl) (by simp) ?_
           refine AllReadyH.cons rfl (fun K hK => ?_) (AllReadyH.cons rfl (fun K hK => ?_) (AllReadyH.nil))
           ·
            go_simp
            go_at_call 37
            have hru : Row wd.drew (.slice va m vc) m (ce es) := HRD.out.below sw (Nat.le_refl _)
            refine (HUN.out _ hru).mono ?_
            rintro e' wd1 ⟨hq, bu, rfl, hbu⟩
            clear hru
            dsimp only
            have z0 := (hq.cell (p := ⟨w.heap.size, 0, none⟩) (show w.heap.size < wd.heap.size by omega)).trans hHeld.1
            have z1 := (hq.cell (p := ⟨w.heap.size, 1, none⟩) (show w.heap.size < wd.heap.size by omega)).trans hHeld.2.1
            have z2 := (hq.cell (p := ⟨w.heap.size, 2, none⟩) (show w.heap.size < wd.heap.size by omega)).trans hHeld.2.2
            refine hK.out _ _ ⟨z0, z1, z2⟩ (fun hG2 => ?_)
            clear hK K z0 z1 z2
            (try simp only [Act.put, zA, zB, zC])
            have sd3 : Below wd.heap.size wd wd1 := sw.trans (hq.mono sw.size)
            clear hq
            have hlwd1 : wd.heap.size ≤ wd1.heap.size := sd3.size
            refine wpAnyH_ready (rs := [6, 10]) (by kernel_rfl) (by simp) ?_
            refine AllReadyH.cons rfl (fun K hK => ?_) (AllReadyH.cons rfl (fun K hK => ?_) (AllReadyH.nil))
            ·
             go_simp
             go_at_call 36
             have hru : Row wd1 (.slice va m vc) m (ce es) := HRD.out.below sd3 (Nat.le_refl _)
             refine (HBZ.out _ _ hru hbu).mono ?_
             rintro e' wd4 ⟨hq, bv, rfl, hbv⟩
             clear hru
             dsimp only
             have z0 := (hq.cell (p := ⟨w.heap.size, 0, none⟩) (show w.heap.size < wd1.heap.size by omega)).trans hG2.1
             have z1 := (hq.cell (p := ⟨w.heap.size, 1, none⟩) (show w.heap.size < wd1.heap.size by omega)).trans hG2.2.1
             have z2 := (hq.cell (p := ⟨w.heap.size, 2, none⟩) (show w.heap.size < wd1.heap.size by omega)).trans hG2.2.2
             refine hK.out _ _ ⟨z0, z1, z2⟩ (fun hG5 => ?_)
             clear hK K z0 z1 z2
             (try simp only [Act.put, zA, zB, zC])
             have sd6 : Below wd.heap.size wd wd4 := sd3.trans (hq.mono sd3.size)
             clear hq
             have hlwd4 : wd.heap.size ≤ wd4.heap.size := sd6.size
             have p0 := hbv.cell GZ0.out
             have p1 := hbv.cell GZ1.out
             refine zT 8 (h := ?_)
             (try simp only [Act.put, zA, zB, zC])
             refine wpAnyH_ready (rs := [9, 10]) (by kernel_rfl) (by simp) ?_
             refine AllReadyH.cons rfl (fun K hK => ?_) (AllReadyH.cons rfl (fun K hK => ?_) (AllReadyH.nil))
             ·
              go_simp
              refine hK.out _ _ ?_ (fun hG7 => ?_)
              ·
               ((try dsimp only); go_keep)
              clear hK K
              (try simp only [Act.put, zA, zB, zC])
              refine zR 10 (h := fun K hK => ?_)
              go_simp
              have ne11 : Blk (wd4.alloc (.cells #[.bool false, .string ⟨#[]⟩] 28)) wd4.heap.size 28 [.bool false, .string ⟨#[]⟩] := Blk.new wd4 _ _
              have sd10 : Below wd.heap.size wd (wd4.alloc (.cells #[.bool false, .string ⟨#[]⟩] 28)) := sd6.alloc sd6.size _
              have hbv2 := hbv.alloc (.cells #[.bool false, .string ⟨#[]⟩] 28)
              refine hK.out _ _ ?_ (fun hG9 => ?_)
              ·
               ((try dsimp only); go_keep)
              clear hK K
              (try simp only [Act.put, zA, zB, zC])
              obtain ⟨wx8, hwx12⟩ : ∃ wx8, (wd4.alloc (.cells #[.bool false, .string ⟨#[]⟩] 28)) = wx8 := ⟨_, rfl⟩
              rw [hwx12] at ne11 sd10 hbv2
              (try rw [hwx12])
              (try rw [hwx12] at hG9)
              obtain ⟨cb, hbx13⟩ : ∃ cb, cb = wd4.heap.size := ⟨_, rfl⟩
              have hge14 : wd.heap.size ≤ cb := by rw [hbx13]; exact sd6.size
              rw [← hbx13] at ne11
              (try rw [← hbx13])
              clear hbx13 hwx12
              have hlwx8 : wd.heap.size ≤ wx8.heap.size := sd10.size
              clear p0 p1
              have p0 := hbv2.cell GZ0.out
              have p1 := hbv2.cell GZ1.out
              have k0 := ne11.cell (j := 0) rfl
              have k1 := ne11.cell (j := 1) rfl
              have k2 := ne11.frozen 0
              have k3 := ne11.frozen 1
              have hcg : ¬ cb = w.heap.size := by omega
              have hgc : ¬ w.heap.size = cb := by omega
              refine zR 11 (h := fun K hK => ?_)
              go_simp
              refine hK.out _ _ ?_ (fun hHz => ?_)
              ·
               ((try dsimp only); go_keep)
              clear hK K
              (try simp only [Act.put, zA, zB, zC])
              refine wpAnyH_done (by kernel_rfl) ?_ _
              (try simp only [List.getElem_toArray, List.getElem_cons_zero, List.getElem_cons_succ, Act.put, zA, zB, zC])
              have bC := (ne11.set 0 (.bool (ineg y))).set 1 (.string (imag y))
              have sV := (sd10.setCell (p := ⟨cb, 0, none⟩) (show wd.heap.size ≤ cb by omega) (.bool (ineg y))).setCell (p := ⟨cb, 1, none⟩) (show wd.heap.size ≤ cb by omega) (.string (imag y))
              obtain ⟨V, hV⟩ : ∃ V, (wx8.setCell ⟨cb, 0, none⟩ (.bool (ineg y))).setCell ⟨cb, 1, none⟩ (.string (imag y)) = V := ⟨_, rfl⟩
              rw [hV] at bC sV
              (try rw [hV])
              clear hV k0 k1 k2 k3 p0 p1
              have hnbd : ¬ wb.heap.size = db := by omega
              have hnbc : ¬ wb.heap.size = cb := by omega
              have nV0 := HBK.out.below sV (by omega)
              have dV := DND.out.below sV (by omega)
              have nV := nV0.drew
              have cN0 := nV0.cell GM0.out
              have cN1 := nV0.cell GM1.out
              have fr0 := nV0.frozen (k * 2)
              have fr1 := nV0.frozen (k * 2 + 1)
              have dc0 := dV.cell GX0.out
              have dc1 := dV.cell GX1.out
              have ec0 := bC.cell (j := 0) rfl
              have ec1 := bC.cell (j := 1) rfl
              have hdV := dV.lt
              have hcV := bC.lt
              have swV := (Below.refl V.heap.size V).drew
              clear v0 v1 v2
              go_wp2_with fail
              refine wp_region_held_drew (S := fun w' => w'.cell? ⟨db, j * 2, none⟩ = some (.bool (ineg x)) ∧ w'.cell? ⟨db, j * 2 + 1, none⟩ = some (.string (imag x)) ∧ w'.cell? ⟨cb, 0, none⟩ = some (.bool (ineg y)) ∧ w'.cell? ⟨cb, 1, none⟩ = some (.string (imag y))) (by kernel_rfl) ?_ (fun hHeld3 => ?_)
              ·
               go_keep
              refine zT 0 (h := ?_)
              (try simp only [Act.put, zA, zB, zC])
              refine zT 1 (h := ?_)
              (try simp only [Act.put, zA, zB, zC])
              refine zT 2 (h := ?_)
              (try simp only [Act.put, zA, zB, zC])
              refine zT 3 (h := ?_)
              (try simp only [Act.put, zA, zB, zC])
              refine zT 4 (h := ?_)
              (try simp only [Act.put, zA, zB, zC])
              refine zT 6 (h := ?_)
              (try simp only [Act.put, zA, zB, zC])
              refine zT 7 (h := ?_)
              (try simp only [Act.put, zA, zB, zC])
              refine zT 8 (h := ?_)
              (try simp only [Act.put, zA, zB, zC])
              refine zT 9 (h := ?_)
              (try simp only [Act.put, zA, zB, zC])
              refine zT 10 (h := ?_)
              (try simp only [Act.put, zA, zB, zC])
              refine wpAnyH_ready (rs := [5, 11]) (by kernel_rfl) (by simp) ?_
              refine AllReadyH.cons rfl (fun K hK => ?_) (AllReadyH.cons rfl (fun K hK => ?_) (AllReadyH.nil))
              ·
               go_simp
               refine hK.out _ _ ?_ (fun hH1 => ?_)
               ·
                ((try dsimp only); go_keep)
               clear hK K
               (try simp only [Act.put, zA, zB, zC])
               refine zR 11 (h := fun K hK => ?_)
               go_simp
               go_at_call 48
               refine (HMUL.out _).mono ?_
               rintro e' wa2 ⟨hq, rfl⟩
               dsimp only
               have z0 := (hq.cell (p := ⟨db, j * 2, none⟩) (show db < V.heap.size by omega)).trans hH1.1
               have z1 := (hq.cell (p := ⟨db, j * 2 + 1, none⟩) (show db < V.heap.size by omega)).trans hH1.2.1
               have z2 := (hq.cell (p := ⟨cb, 0, none⟩) (show cb < V.heap.size by omega)).trans hH1.2.2.1
               have z3 := (hq.cell (p := ⟨cb, 1, none⟩) (show cb < V.heap.size by omega)).trans hH1.2.2.2
               refine hK.out _ _ ⟨z0, z1, z2, z3⟩ (fun hH3 => ?_)
               clear hK K z0  z1  z2  z3
               (try simp only [Act.put, zA, zB, zC])
               have sa4 : Below V.heap.size V wa2 := swV.trans (hq.mono swV.size)
               have na5 := Blk.keep (w := V.drew) nV hq
               clear hq
               have hlwa2 : V.heap.size ≤ wa2.heap.size := sa4.size
               clear cN0 cN1
               have cN0 := na5.cell GM0.out
               have cN1 := na5.cell GM1.out
               have fr0 := na5.frozen (k * 2)
               have fr1 := na5.frozen (k * 2 + 1)
               refine zR 12 (h := fun K hK => ?_)
               go_simp
               go_at_call 40
               refine (HADD.out _).mono ?_
               rintro e' wa6 ⟨hq, rfl⟩
               dsimp only
               have z0 := (hq.cell (p := ⟨db, j * 2, none⟩) (show db < wa2.heap.size by omega)).trans hH3.1
               have z1 := (hq.cell (p := ⟨db, j * 2 + 1, none⟩) (show db < wa2.heap.size by omega)).trans hH3.2.1
               have z2 := (hq.cell (p := ⟨cb, 0, none⟩) (show cb < wa2.heap.size by omega)).trans hH3.2.2.1
               have z3 := (hq.cell (p := ⟨cb, 1, none⟩) (show cb < wa2.heap.size by omega)).trans hH3.2.2.2
               refine hK.out _ _ ⟨z0, z1, z2, z3⟩ (fun hH7 => ?_)
               clear hK K z0  z1  z2  z3
               (try simp only [Act.put, zA, zB, zC])
               have sa8 : Below V.heap.size V wa6 := sa4.trans (hq.mono sa4.size)
               have na9 := Blk.keep (w := wa2) na5 hq
               clear hq
               have hlwa6 : V.heap.size ≤ wa6.heap.size := sa8.size
               clear cN0 cN1
               have cN0 := na9.cell GM0.out
               have cN1 := na9.cell GM1.out
               have fr0 := na9.frozen (k * 2)
               have fr1 := na9.frozen (k * 2 + 1)
               refine zT 13 (h := ?_)
               (try simp only [Act.put, zA, zB, zC])
               refine zR 14 (h := fun K hK => ?_)
               go_simp
               refine hK.out _ _ ?_ (fun hH10 => ?_)
               ·
                ((try dsimp only); go_keep)
               clear hK K
               (try simp only [Act.put, zA, zB, zC])
               have hfin := HBE.out.trans ((sV.trans (sa8.mono sV.size)).mono HBE.out.size)
               have nfin := (na9.set (k * 2) (.bool (ineg (M + P)))).set (k * 2 + 1) (.string (imag (M + P)))
               rw [civ_set, HSET.out] at nfin
               have HFIN := Lib.hid hfin; clear hfin
               have NFIN := Lib.hid nfin; clear nfin
               refine wpAnyH_done (by kernel_rfl) ?_ _
               (try simp only [List.getElem_toArray, List.getElem_cons_zero, List.getElem_cons_succ, Act.put, zA, zB, zC])
               go_wp2_with fail
               go_roundw
               case rel => exact ⟨j + 1, by omega, by go_num, (HFIN.out.setCell (p := ⟨wb.heap.size, k * 2, none⟩) (Nat.le_refl _) _).setCell (p := ⟨wb.heap.size, k * 2 + 1, none⟩) (Nat.le_refl _) _, NFIN.out⟩
               case measure => simp [intOf]; omega
              ·
               go_simp
               go_at_call 48
               refine (HMUL.out _).mono ?_
               rintro e' wa11 ⟨hq, rfl⟩
               dsimp only
               have z0 := (hq.cell (p := ⟨db, j * 2, none⟩) (show db < V.heap.size by omega)).trans hHeld3.1
               have z1 := (hq.cell (p := ⟨db, j * 2 + 1, none⟩) (show db < V.heap.size by omega)).trans hHeld3.2.1
               have z2 := (hq.cell (p := ⟨cb, 0, none⟩) (show cb < V.heap.size by omega)).trans hHeld3.2.2.1
               have z3 := (hq.cell (p := ⟨cb, 1, none⟩) (show cb < V.heap.size by omega)).trans hHeld3.2.2.2
               refine hK.out _ _ ⟨z0, z1, z2, z3⟩ (fun hH12 => ?_)
               clear hK K z0  z1  z2  z3
               (try simp only [Act.put, zA, zB, zC])
               have sa13 : Below V.heap.size V wa11 := swV.trans (hq.mono swV.size)
               have na14 := Blk.keep (w := V.drew) nV hq
               clear hq
               have hlwa11 : V.heap.size ≤ wa11.heap.size := sa13.size
               clear cN0 cN1
               have cN0 := na14.cell GM0.out
               have cN1 := na14.cell GM1.out
               have fr0 := na14.frozen (k * 2)
               have fr1 := na14.frozen (k * 2 + 1)
               refine zR 5 (h := fun K hK => ?_)
               go_simp
               refine hK.out _ _ ?_ (fun hH15 => ?_)
               ·
                ((try dsimp only); go_keep)
               clear hK K
               (try simp only [Act.put, zA, zB, zC])
               refine zR 12 (h := fun K hK => ?_)
               go_simp
               go_at_call 40
               refine (HADD.out _).mono ?_
               rintro e' wa16 ⟨hq, rfl⟩
               dsimp only
               have z0 := (hq.cell (p := ⟨db, j * 2, none⟩) (show db < wa11.heap.size by omega)).trans hH15.1
               have z1 := (hq.cell (p := ⟨db, j * 2 + 1, none⟩) (show db < wa11.heap.size by omega)).trans hH15.2.1
               have z2 := (hq.cell (p := ⟨cb, 0, none⟩) (show cb < wa11.heap.size by omega)).trans hH15.2.2.1
               have z3 := (hq.cell (p := ⟨cb, 1, none⟩) (show cb < wa11.heap.size by omega)).trans hH15.2.2.2
               refine hK.out _ _ ⟨z0, z1, z2, z3⟩ (fun hH17 => ?_)
               clear hK K z0  z1  z2  z3
               (try simp only [Act.put, zA, zB, zC])
               have sa18 : Below V.heap.size V wa16 := sa13.trans (hq.mono sa13.size)
               have na19 := Blk.keep (w := wa11) na14 hq
               clear hq
               have hlwa16 : V.heap.size ≤ wa16.heap.size := sa18.size
               clear cN0 cN1
               have cN0 := na19.cell GM0.out
               have cN1 := na19.cell GM1.out
               have fr0 := na19.frozen (k * 2)
               have fr1 := na19.frozen (k * 2 + 1)
               refine zT 13 (h := ?_)
               (try simp only [Act.put, zA, zB, zC])
               refine zR 14 (h := fun K hK => ?_)
               go_simp
               refine hK.out _ _ ?_ (fun hH20 => ?_)
               ·
                ((try dsimp only); go_keep)
               clear hK K
               (try simp only [Act.put, zA, zB, zC])
               have hfin := HBE.out.trans ((sV.trans (sa18.mono sV.size)).mono HBE.out.size)
               have nfin := (na19.set (k * 2) (.bool (ineg (M + P)))).set (k * 2 + 1) (.string (imag (M + P)))
               rw [civ_set, HSET.out] at nfin
               have HFIN := Lib.hid hfin; clear hfin
               have NFIN := Lib.hid nfin; clear nfin
               refine wpAnyH_done (by kernel_rfl) ?_ _
               (try simp only [List.getElem_toArray, List.getElem_cons_zero, List.getElem_cons_succ, Act.put, zA, zB, zC])
               go_wp2_with fail
               go_roundw
               case rel => exact ⟨j + 1, by omega, by go_num, (HFIN.out.setCell (p := ⟨wb.heap.size, k * 2, none⟩) (Nat.le_refl _) _).setCell (p := ⟨wb.heap.size, k * 2 + 1, none⟩) (Nat.le_refl _) _, NFIN.out⟩
               case measure => simp [intOf]; omega
             ·
              go_simp
              have ne18 : Blk (wd4.alloc (.cells #[.bool false, .string ⟨#[]⟩] 28)) wd4.heap.size 28 [.bool false, .string ⟨#[]⟩] := Blk.new wd4 _ _
              have sd17 : Below wd.heap.size wd (wd4.alloc (.cells #[.bool false, .string ⟨#[]⟩] 28)) := sd6.alloc sd6.size _
              have hbv2 := hbv.alloc (.cells #[.bool false, .string ⟨#[]⟩] 28)
              refine hK.out _ _ ?_ (fun hG16 => ?_)
              ·
               ((try dsimp only); go_keep)
              clear hK K
              (try simp only [Act.put, zA, zB, zC])
              obtain ⟨wx15, hwx19⟩ : ∃ wx15, (wd4.alloc (.cells #[.bool false, .string ⟨#[]⟩] 28)) = wx15 := ⟨_, rfl⟩
              rw [hwx19] at ne18 sd17 hbv2
              (try rw [hwx19])
              (try rw [hwx19] at hG16)
              obtain ⟨cb, hbx20⟩ : ∃ cb, cb = wd4.heap.size := ⟨_, rfl⟩
              have hge21 : wd.heap.size ≤ cb := by rw [hbx20]; exact sd6.size
              rw [← hbx20] at ne18
              (try rw [← hbx20])
              clear hbx20 hwx19
              have hlwx15 : wd.heap.size ≤ wx15.heap.size := sd17.size
              clear p0 p1
              have p0 := hbv2.cell GZ0.out
              have p1 := hbv2.cell GZ1.out
              refine zR 9 (h := fun K hK => ?_)
              go_simp
              refine hK.out _ _ ?_ (fun hG22 => ?_)
              ·
               ((try dsimp only); go_keep)
              clear hK K
              (try simp only [Act.put, zA, zB, zC])
              have k0 := ne18.cell (j := 0) rfl
              have k1 := ne18.cell (j := 1) rfl
              have k2 := ne18.frozen 0
              have k3 := ne18.frozen 1
              have hcg : ¬ cb = w.heap.size := by omega
              have hgc : ¬ w.heap.size = cb := by omega
              refine zR 11 (h := fun K hK => ?_)
              go_simp
              refine hK.out _ _ ?_ (fun hHz => ?_)
              ·
               ((try dsimp only); go_keep)
              clear hK K
              (try simp only [Act.put, zA, zB, zC])
              refine wpAnyH_done (by kernel_rfl) ?_ _
              (try simp only [List.getElem_toArray, List.getElem_cons_zero, List.getElem_cons_succ, Act.put, zA, zB, zC])
              have bC := (ne18.set 0 (.bool (ineg y))).set 1 (.string (imag y))
              have sV := (sd17.setCell (p := ⟨cb, 0, none⟩) (show wd.heap.size ≤ cb by omega) (.bool (ineg y))).setCell (p := ⟨cb, 1, none⟩) (show wd.heap.size ≤ cb by omega) (.string (imag y))
              obtain ⟨V, hV⟩ : ∃ V, (wx15.setCell ⟨cb, 0, none⟩ (.bool (ineg y))).setCell ⟨cb, 1, none⟩ (.string (imag y)) = V := ⟨_, rfl⟩
              rw [hV] at bC sV
              (try rw [hV])
              clear hV k0 k1 k2 k3 p0 p1
              have hnbd : ¬ wb.heap.size = db := by omega
              have hnbc : ¬ wb.heap.size = cb := by omega
              have nV0 := HBK.out.below sV (by omega)
              have dV := DND.out.below sV (by omega)
              have nV := nV0.drew
              have cN0 := nV0.cell GM0.out
              have cN1 := nV0.cell GM1.out
              have fr0 := nV0.frozen (k * 2)
              have fr1 := nV0.frozen (k * 2 + 1)
              have dc0 := dV.cell GX0.out
              have dc1 := dV.cell GX1.out
              have ec0 := bC.cell (j := 0) rfl
              have ec1 := bC.cell (j := 1) rfl
              have hdV := dV.lt
              have hcV := bC.lt
              have swV := (Below.refl V.heap.size V).drew
              clear v0 v1 v2
              go_wp2_with fail
              refine wp_region_held_drew (S := fun w' => w'.cell? ⟨db, j * 2, none⟩ = some (.bool (ineg x)) ∧ w'.cell? ⟨db, j * 2 + 1, none⟩ = some (.string (imag x)) ∧ w'.cell? ⟨cb, 0, none⟩ = some (.bool (ineg y)) ∧ w'.cell? ⟨cb, 1, none⟩ = some (.string (imag y))) (by kernel_rfl) ?_ (fun hHeld3 => ?_)
              ·
               go_keep
              refine zT 0 (h := ?_)
              (try simp only [Act.put, zA, zB, zC])
              refine zT 1 (h := ?_)
              (try simp only [Act.put, zA, zB, zC])
              refine zT 2 (h := ?_)
              (try simp only [Act.put, zA, zB, zC])
              refine zT 3 (h := ?_)
              (try simp only [Act.put, zA, zB, zC])
              refine zT 4 (h := ?_)
              (try simp only [Act.put, zA, zB, zC])
              refine zT 6 (h := ?_)
              (try simp only [Act.put, zA, zB, zC])
              refine zT 7 (h := ?_)
              (try simp only [Act.put, zA, zB, zC])
              refine zT 8 (h := ?_)
              (try simp only [Act.put, zA, zB, zC])
              refine zT 9 (h := ?_)
              (try simp only [Act.put, zA, zB, zC])
              refine zT 10 (h := ?_)
              (try simp only [Act.put, zA, zB, zC])
              refine wpAnyH_ready (rs := [5, 11]) (by kernel_rfl) (by simp) ?_
              refine AllReadyH.cons rfl (fun K hK => ?_) (AllReadyH.cons rfl (fun K hK => ?_) (AllReadyH.nil))
              ·
               go_simp
               refine hK.out _ _ ?_ (fun hH21 => ?_)
               ·
                ((try dsimp only); go_keep)
               clear hK K
               (try simp only [Act.put, zA, zB, zC])
               refine zR 11 (h := fun K hK => ?_)
               go_simp
               go_at_call 48
               refine (HMUL.out _).mono ?_
               rintro e' wa22 ⟨hq, rfl⟩
               dsimp only
               have z0 := (hq.cell (p := ⟨db, j * 2, none⟩) (show db < V.heap.size by omega)).trans hH21.1
               have z1 := (hq.cell (p := ⟨db, j * 2 + 1, none⟩) (show db < V.heap.size by omega)).trans hH21.2.1
               have z2 := (hq.cell (p := ⟨cb, 0, none⟩) (show cb < V.heap.size by omega)).trans hH21.2.2.1
               have z3 := (hq.cell (p := ⟨cb, 1, none⟩) (show cb < V.heap.size by omega)).trans hH21.2.2.2
               refine hK.out _ _ ⟨z0, z1, z2, z3⟩ (fun hH23 => ?_)
               clear hK K z0  z1  z2  z3
               (try simp only [Act.put, zA, zB, zC])
               have sa24 : Below V.heap.size V wa22 := swV.trans (hq.mono swV.size)
               have na25 := Blk.keep (w := V.drew) nV hq
               clear hq
               have hlwa22 : V.heap.size ≤ wa22.heap.size := sa24.size
               clear cN0 cN1
               have cN0 := na25.cell GM0.out
               have cN1 := na25.cell GM1.out
               have fr0 := na25.frozen (k * 2)
               have fr1 := na25.frozen (k * 2 + 1)
               refine zR 12 (h := fun K hK => ?_)
               go_simp
               go_at_call 40
               refine (HADD.out _).mono ?_
               rintro e' wa26 ⟨hq, rfl⟩
               dsimp only
               have z0 := (hq.cell (p := ⟨db, j * 2, none⟩) (show db < wa22.heap.size by omega)).trans hH23.1
               have z1 := (hq.cell (p := ⟨db, j * 2 + 1, none⟩) (show db < wa22.heap.size by omega)).trans hH23.2.1
               have z2 := (hq.cell (p := ⟨cb, 0, none⟩) (show cb < wa22.heap.size by omega)).trans hH23.2.2.1
               have z3 := (hq.cell (p := ⟨cb, 1, none⟩) (show cb < wa22.heap.size by omega)).trans hH23.2.2.2
               refine hK.out _ _ ⟨z0, z1, z2, z3⟩ (fun hH27 => ?_)
               clear hK K z0  z1  z2  z3
               (try simp only [Act.put, zA, zB, zC])
               have sa28 : Below V.heap.size V wa26 := sa24.trans (hq.mono sa24.size)
               have na29 := Blk.keep (w := wa22) na25 hq
               clear hq
               have hlwa26 : V.heap.size ≤ wa26.heap.size := sa28.size
               clear cN0 cN1
               have cN0 := na29.cell GM0.out
               have cN1 := na29.cell GM1.out
               have fr0 := na29.frozen (k * 2)
               have fr1 := na29.frozen (k * 2 + 1)
               refine zT 13 (h := ?_)
               (try simp only [Act.put, zA, zB, zC])
               refine zR 14 (h := fun K hK => ?_)
               go_simp
               refine hK.out _ _ ?_ (fun hH30 => ?_)
               ·
                ((try dsimp only); go_keep)
               clear hK K
               (try simp only [Act.put, zA, zB, zC])
               have hfin := HBE.out.trans ((sV.trans (sa28.mono sV.size)).mono HBE.out.size)
               have nfin := (na29.set (k * 2) (.bool (ineg (M + P)))).set (k * 2 + 1) (.string (imag (M + P)))
               rw [civ_set, HSET.out] at nfin
               have HFIN := Lib.hid hfin; clear hfin
               have NFIN := Lib.hid nfin; clear nfin
               refine wpAnyH_done (by kernel_rfl) ?_ _
               (try simp only [List.getElem_toArray, List.getElem_cons_zero, List.getElem_cons_succ, Act.put, zA, zB, zC])
               go_wp2_with fail
               go_roundw
               case rel => exact ⟨j + 1, by omega, by go_num, (HFIN.out.setCell (p := ⟨wb.heap.size, k * 2, none⟩) (Nat.le_refl _) _).setCell (p := ⟨wb.heap.size, k * 2 + 1, none⟩) (Nat.le_refl _) _, NFIN.out⟩
               case measure => simp [intOf]; omega
              ·
               go_simp
               go_at_call 48
               refine (HMUL.out _).mono ?_
               rintro e' wa31 ⟨hq, rfl⟩
               dsimp only
               have z0 := (hq.cell (p := ⟨db, j * 2, none⟩) (show db < V.heap.size by omega)).trans hHeld3.1
               have z1 := (hq.cell (p := ⟨db, j * 2 + 1, none⟩) (show db < V.heap.size by omega)).trans hHeld3.2.1
               have z2 := (hq.cell (p := ⟨cb, 0, none⟩) (show cb < V.heap.size by omega)).trans hHeld3.2.2.1
               have z3 := (hq.cell (p := ⟨cb, 1, none⟩) (show cb < V.heap.size by omega)).trans hHeld3.2.2.2
               refine hK.out _ _ ⟨z0, z1, z2, z3⟩ (fun hH32 => ?_)
               clear hK K z0  z1  z2  z3
               (try simp only [Act.put, zA, zB, zC])
               have sa33 : Below V.heap.size V wa31 := swV.trans (hq.mono swV.size)
               have na34 := Blk.keep (w := V.drew) nV hq
               clear hq
               have hlwa31 : V.heap.size ≤ wa31.heap.size := sa33.size
               clear cN0 cN1
               have cN0 := na34.cell GM0.out
               have cN1 := na34.cell GM1.out
               have fr0 := na34.frozen (k * 2)
               have fr1 := na34.frozen (k * 2 + 1)
               refine zR 5 (h := fun K hK => ?_)
               go_simp
               refine hK.out _ _ ?_ (fun hH35 => ?_)
               ·
                ((try dsimp only); go_keep)
               clear hK K
               (try simp only [Act.put, zA, zB, zC])
               refine zR 12 (h := fun K hK => ?_)
               go_simp
               go_at_call 40
               refine (HADD.out _).mono ?_
               rintro e' wa36 ⟨hq, rfl⟩
               dsimp only
               have z0 := (hq.cell (p := ⟨db, j * 2, none⟩) (show db < wa31.heap.size by omega)).trans hH35.1
               have z1 := (hq.cell (p := ⟨db, j * 2 + 1, none⟩) (show db < wa31.heap.size by omega)).trans hH35.2.1
               have z2 := (hq.cell (p := ⟨cb, 0, none⟩) (show cb < wa31.heap.size by omega)).trans hH35.2.2.1
               have z3 := (hq.cell (p := ⟨cb, 1, none⟩) (show cb < wa31.heap.size by omega)).trans hH35.2.2.2
               refine hK.out _ _ ⟨z0, z1, z2, z3⟩ (fun hH37 => ?_)
               clear hK K z0  z1  z2  z3
               (try simp only [Act.put, zA, zB, zC])
               have sa38 : Below V.heap.size V wa36 := sa33.trans (hq.mono sa33.size)
               have na39 := Blk.keep (w := wa31) na34 hq
               clear hq
               have hlwa36 : V.heap.size ≤ wa36.heap.size := sa38.size
               clear cN0 cN1
               have cN0 := na39.cell GM0.out
               have cN1 := na39.cell GM1.out
               have fr0 := na39.frozen (k * 2)
               have fr1 := na39.frozen (k * 2 + 1)
               refine zT 13 (h := ?_)
               (try simp only [Act.put, zA, zB, zC])
               refine zR 14 (h := fun K hK => ?_)
               go_simp
               refine hK.out _ _ ?_ (fun hH40 => ?_)
               ·
                ((try dsimp only); go_keep)
               clear hK K
               (try simp only [Act.put, zA, zB, zC])
               have hfin := HBE.out.trans ((sV.trans (sa38.mono sV.size)).mono HBE.out.size)
               have nfin := (na39.set (k * 2) (.bool (ineg (M + P)))).set (k * 2 + 1) (.string (imag (M + P)))
               rw [civ_set, HSET.out] at nfin
               have HFIN := Lib.hid hfin; clear hfin
               have NFIN := Lib.hid nfin; clear nfin
               refine wpAnyH_done (by kernel_rfl) ?_ _
               (try simp only [List.getElem_toArray, List.getElem_cons_zero, List.getElem_cons_succ, Act.put, zA, zB, zC])
               go_wp2_with fail
               go_roundw
               case rel => exact ⟨j + 1, by omega, by go_num, (HFIN.out.setCell (p := ⟨wb.heap.size, k * 2, none⟩) (Nat.le_refl _) _).setCell (p := ⟨wb.heap.size, k * 2 + 1, none⟩) (Nat.le_refl _) _, NFIN.out⟩
               case measure => simp [intOf]; omega
            ·
             go_simp
             have ne26 : Blk (wd1.alloc (.cells #[.bool false, .string ⟨#[]⟩] 28)) wd1.heap.size 28 [.bool false, .string ⟨#[]⟩] := Blk.new wd1 _ _
             have sd25 : Below wd.heap.size wd (wd1.alloc (.cells #[.bool false, .string ⟨#[]⟩] 28)) := sd3.alloc sd3.size _
             have hbu2 := Blk.alloc hbu (.cells #[.bool false, .string ⟨#[]⟩] 28)
             refine hK.out _ _ ?_ (fun hG24 => ?_)
             ·
              ((try dsimp only); go_keep)
             clear hK K
             (try simp only [Act.put, zA, zB, zC])
             obtain ⟨wx23, hwx27⟩ : ∃ wx23, (wd1.alloc (.cells #[.bool false, .string ⟨#[]⟩] 28)) = wx23 := ⟨_, rfl⟩
             rw [hwx27] at ne26 sd25 hbu2
             (try rw [hwx27])
             (try rw [hwx27] at hG24)
             obtain ⟨cb, hbx28⟩ : ∃ cb, cb = wd1.heap.size := ⟨_, rfl⟩
             have hge29 : wd.heap.size ≤ cb := by rw [hbx28]; exact sd3.size
             rw [← hbx28] at ne26
             (try rw [← hbx28])
             clear hbx28 hwx27
             have hlwx23 : wd.heap.size ≤ wx23.heap.size := sd25.size
             refine zR 6 (h := fun K hK => ?_)
             go_simp
             go_at_call 36
             have hru : Row wx23 (.slice va m vc) m (ce es) := HRD.out.below sd25 (Nat.le_refl _)
             refine (HBZ.out _ _ hru hbu2).mono ?_
             rintro e' wd30 ⟨hq, bv, rfl, hbv⟩
             clear hru
             dsimp only
             have z0 := (hq.cell (p := ⟨w.heap.size, 0, none⟩) (show w.heap.size < wx23.heap.size by omega)).trans hG24.1
             have z1 := (hq.cell (p := ⟨w.heap.size, 1, none⟩) (show w.heap.size < wx23.heap.size by omega)).trans hG24.2.1
             have z2 := (hq.cell (p := ⟨w.heap.size, 2, none⟩) (show w.heap.size < wx23.heap.size by omega)).trans hG24.2.2
             refine hK.out _ _ ⟨z0, z1, z2⟩ (fun hG31 => ?_)
             clear hK K z0 z1 z2
             (try simp only [Act.put, zA, zB, zC])
             have sd32 : Below wd.heap.size wd wd30 := sd25.trans (hq.mono sd25.size)
             have ne33 := Blk.keep (w := wx23) ne26 hq
             clear hq
             have hlwd30 : wd.heap.size ≤ wd30.heap.size := sd32.size
             have p0 := hbv.cell GZ0.out
             have p1 := hbv.cell GZ1.out
             refine zT 8 (h := ?_)
             (try simp only [Act.put, zA, zB, zC])
             refine zR 9 (h := fun K hK => ?_)
             go_simp
             refine hK.out _ _ ?_ (fun hG34 => ?_)
             ·
              ((try dsimp only); go_keep)
             clear hK K
             (try simp only [Act.put, zA, zB, zC])
             have k0 := ne33.cell (j := 0) rfl
             have k1 := ne33.cell (j := 1) rfl
             have k2 := ne33.frozen 0
             have k3 := ne33.frozen 1
             have hcg : ¬ cb = w.heap.size := by omega
             have hgc : ¬ w.heap.size = cb := by omega
             refine zR 11 (h := fun K hK => ?_)
             go_simp
             refine hK.out _ _ ?_ (fun hHz => ?_)
             ·
              ((try dsimp only); go_keep)
             clear hK K
             (try simp only [Act.put, zA, zB, zC])
             refine wpAnyH_done (by kernel_rfl) ?_ _
             (try simp only [List.getElem_toArray, List.getElem_cons_zero, List.getElem_cons_succ, Act.put, zA, zB, zC])
             have bC := (ne33.set 0 (.bool (ineg y))).set 1 (.string (imag y))
             have sV := (sd32.setCell (p := ⟨cb, 0, none⟩) (show wd.heap.size ≤ cb by omega) (.bool (ineg y))).setCell (p := ⟨cb, 1, none⟩) (show wd.heap.size ≤ cb by omega) (.string (imag y))
             obtain ⟨V, hV⟩ : ∃ V, (wd30.setCell ⟨cb, 0, none⟩ (.bool (ineg y))).setCell ⟨cb, 1, none⟩ (.string (imag y)) = V := ⟨_, rfl⟩
             rw [hV] at bC sV
             (try rw [hV])
             clear hV k0 k1 k2 k3 p0 p1
             have hnbd : ¬ wb.heap.size = db := by omega
             have hnbc : ¬ wb.heap.size = cb := by omega
             have nV0 := HBK.out.below sV (by omega)
             have dV := DND.out.below sV (by omega)
             have nV := nV0.drew
             have cN0 := nV0.cell GM0.out
             have cN1 := nV0.cell GM1.out
             have fr0 := nV0.frozen (k * 2)
             have fr1 := nV0.frozen (k * 2 + 1)
             have dc0 := dV.cell GX0.out
             have dc1 := dV.cell GX1.out
             have ec0 := bC.cell (j := 0) rfl
             have ec1 := bC.cell (j := 1) rfl
             have hdV := dV.lt
             have hcV := bC.lt
             have swV := (Below.refl V.heap.size V).drew
             clear v0 v1 v2
             go_wp2_with fail
             refine wp_region_held_drew (S := fun w' => w'.cell? ⟨db, j * 2, none⟩ = some (.bool (ineg x)) ∧ w'.cell? ⟨db, j * 2 + 1, none⟩ = some (.string (imag x)) ∧ w'.cell? ⟨cb, 0, none⟩ = some (.bool (ineg y)) ∧ w'.cell? ⟨cb, 1, none⟩ = some (.string (imag y))) (by kernel_rfl) ?_ (fun hHeld3 => ?_)
             ·
              go_keep
             refine zT 0 (h := ?_)
             (try simp only [Act.put, zA, zB, zC])
             refine zT 1 (h := ?_)
             (try simp only [Act.put, zA, zB, zC])
             refine zT 2 (h := ?_)
             (try simp only [Act.put, zA, zB, zC])
             refine zT 3 (h := ?_)
             (try simp only [Act.put, zA, zB, zC])
             refine zT 4 (h := ?_)
             (try simp only [Act.put, zA, zB, zC])
             refine zT 6 (h := ?_)
             (try simp only [Act.put, zA, zB, zC])
             refine zT 7 (h := ?_)
             (try simp only [Act.put, zA, zB, zC])
             refine zT 8 (h := ?_)
             (try simp only [Act.put, zA, zB, zC])
             refine zT 9 (h := ?_)
             (try simp only [Act.put, zA, zB, zC])
             refine zT 10 (h := ?_)
             (try simp only [Act.put, zA, zB, zC])
             refine wpAnyH_ready (rs := [5, 11]) (by kernel_rfl) (by simp) ?_
             refine AllReadyH.cons rfl (fun K hK => ?_) (AllReadyH.cons rfl (fun K hK => ?_) (AllReadyH.nil))
             ·
              go_simp
              refine hK.out _ _ ?_ (fun hH41 => ?_)
              ·
               ((try dsimp only); go_keep)
              clear hK K
              (try simp only [Act.put, zA, zB, zC])
              refine zR 11 (h := fun K hK => ?_)
              go_simp
              go_at_call 48
              refine (HMUL.out _).mono ?_
              rintro e' wa42 ⟨hq, rfl⟩
              dsimp only
              have z0 := (hq.cell (p := ⟨db, j * 2, none⟩) (show db < V.heap.size by omega)).trans hH41.1
              have z1 := (hq.cell (p := ⟨db, j * 2 + 1, none⟩) (show db < V.heap.size by omega)).trans hH41.2.1
              have z2 := (hq.cell (p := ⟨cb, 0, none⟩) (show cb < V.heap.size by omega)).trans hH41.2.2.1
              have z3 := (hq.cell (p := ⟨cb, 1, none⟩) (show cb < V.heap.size by omega)).trans hH41.2.2.2
              refine hK.out _ _ ⟨z0, z1, z2, z3⟩ (fun hH43 => ?_)
              clear hK K z0  z1  z2  z3
              (try simp only [Act.put, zA, zB, zC])
              have sa44 : Below V.heap.size V wa42 := swV.trans (hq.mono swV.size)
              have na45 := Blk.keep (w := V.drew) nV hq
              clear hq
              have hlwa42 : V.heap.size ≤ wa42.heap.size := sa44.size
              clear cN0 cN1
              have cN0 := na45.cell GM0.out
              have cN1 := na45.cell GM1.out
              have fr0 := na45.frozen (k * 2)
              have fr1 := na45.frozen (k * 2 + 1)
              refine zR 12 (h := fun K hK => ?_)
              go_simp
              go_at_call 40
              refine (HADD.out _).mono ?_
              rintro e' wa46 ⟨hq, rfl⟩
              dsimp only
              have z0 := (hq.cell (p := ⟨db, j * 2, none⟩) (show db < wa42.heap.size by omega)).trans hH43.1
              have z1 := (hq.cell (p := ⟨db, j * 2 + 1, none⟩) (show db < wa42.heap.size by omega)).trans hH43.2.1
              have z2 := (hq.cell (p := ⟨cb, 0, none⟩) (show cb < wa42.heap.size by omega)).trans hH43.2.2.1
              have z3 := (hq.cell (p := ⟨cb, 1, none⟩) (show cb < wa42.heap.size by omega)).trans hH43.2.2.2
              refine hK.out _ _ ⟨z0, z1, z2, z3⟩ (fun hH47 => ?_)
              clear hK K z0  z1  z2  z3
              (try simp only [Act.put, zA, zB, zC])
              have sa48 : Below V.heap.size V wa46 := sa44.trans (hq.mono sa44.size)
              have na49 := Blk.keep (w := wa42) na45 hq
              clear hq
              have hlwa46 : V.heap.size ≤ wa46.heap.size := sa48.size
              clear cN0 cN1
              have cN0 := na49.cell GM0.out
              have cN1 := na49.cell GM1.out
              have fr0 := na49.frozen (k * 2)
              have fr1 := na49.frozen (k * 2 + 1)
              refine zT 13 (h := ?_)
              (try simp only [Act.put, zA, zB, zC])
              refine zR 14 (h := fun K hK => ?_)
              go_simp
              refine hK.out _ _ ?_ (fun hH50 => ?_)
              ·
               ((try dsimp only); go_keep)
              clear hK K
              (try simp only [Act.put, zA, zB, zC])
              have hfin := HBE.out.trans ((sV.trans (sa48.mono sV.size)).mono HBE.out.size)
              have nfin := (na49.set (k * 2) (.bool (ineg (M + P)))).set (k * 2 + 1) (.string (imag (M + P)))
              rw [civ_set, HSET.out] at nfin
              have HFIN := Lib.hid hfin; clear hfin
              have NFIN := Lib.hid nfin; clear nfin
              refine wpAnyH_done (by kernel_rfl) ?_ _
              (try simp only [List.getElem_toArray, List.getElem_cons_zero, List.getElem_cons_succ, Act.put, zA, zB, zC])
              go_wp2_with fail
              go_roundw
              case rel => exact ⟨j + 1, by omega, by go_num, (HFIN.out.setCell (p := ⟨wb.heap.size, k * 2, none⟩) (Nat.le_refl _) _).setCell (p := ⟨wb.heap.size, k * 2 + 1, none⟩) (Nat.le_refl _) _, NFIN.out⟩
              case measure => simp [intOf]; omega
             ·
              go_simp
              go_at_call 48
              refine (HMUL.out _).mono ?_
              rintro e' wa51 ⟨hq, rfl⟩
              dsimp only
              have z0 := (hq.cell (p := ⟨db, j * 2, none⟩) (show db < V.heap.size by omega)).trans hHeld3.1
              have z1 := (hq.cell (p := ⟨db, j * 2 + 1, none⟩) (show db < V.heap.size by omega)).trans hHeld3.2.1
              have z2 := (hq.cell (p := ⟨cb, 0, none⟩) (show cb < V.heap.size by omega)).trans hHeld3.2.2.1
              have z3 := (hq.cell (p := ⟨cb, 1, none⟩) (show cb < V.heap.size by omega)).trans hHeld3.2.2.2
              refine hK.out _ _ ⟨z0, z1, z2, z3⟩ (fun hH52 => ?_)
              clear hK K z0  z1  z2  z3
              (try simp only [Act.put, zA, zB, zC])
              have sa53 : Below V.heap.size V wa51 := swV.trans (hq.mono swV.size)
              have na54 := Blk.keep (w := V.drew) nV hq
              clear hq
              have hlwa51 : V.heap.size ≤ wa51.heap.size := sa53.size
              clear cN0 cN1
              have cN0 := na54.cell GM0.out
              have cN1 := na54.cell GM1.out
              have fr0 := na54.frozen (k * 2)
              have fr1 := na54.frozen (k * 2 + 1)
              refine zR 5 (h := fun K hK => ?_)
              go_simp
              refine hK.out _ _ ?_ (fun hH55 => ?_)
              ·
               ((try dsimp only); go_keep)
              clear hK K
              (try simp only [Act.put, zA, zB, zC])
              refine zR 12 (h := fun K hK => ?_)
              go_simp
              go_at_call 40
              refine (HADD.out _).mono ?_
              rintro e' wa56 ⟨hq, rfl⟩
              dsimp only
              have z0 := (hq.cell (p := ⟨db, j * 2, none⟩) (show db < wa51.heap.size by omega)).trans hH55.1
              have z1 := (hq.cell (p := ⟨db, j * 2 + 1, none⟩) (show db < wa51.heap.size by omega)).trans hH55.2.1
              have z2 := (hq.cell (p := ⟨cb, 0, none⟩) (show cb < wa51.heap.size by omega)).trans hH55.2.2.1
              have z3 := (hq.cell (p := ⟨cb, 1, none⟩) (show cb < wa51.heap.size by omega)).trans hH55.2.2.2
              refine hK.out _ _ ⟨z0, z1, z2, z3⟩ (fun hH57 => ?_)
              clear hK K z0  z1  z2  z3
              (try simp only [Act.put, zA, zB, zC])
              have sa58 : Below V.heap.size V wa56 := sa53.trans (hq.mono sa53.size)
              have na59 := Blk.keep (w := wa51) na54 hq
              clear hq
              have hlwa56 : V.heap.size ≤ wa56.heap.size := sa58.size
              clear cN0 cN1
              have cN0 := na59.cell GM0.out
              have cN1 := na59.cell GM1.out
              have fr0 := na59.frozen (k * 2)
              have fr1 := na59.frozen (k * 2 + 1)
              refine zT 13 (h := ?_)
              (try simp only [Act.put, zA, zB, zC])
              refine zR 14 (h := fun K hK => ?_)
              go_simp
              refine hK.out _ _ ?_ (fun hH60 => ?_)
              ·
               ((try dsimp only); go_keep)
              clear hK K
              (try simp only [Act.put, zA, zB, zC])
              have hfin := HBE.out.trans ((sV.trans (sa58.mono sV.size)).mono HBE.out.size)
              have nfin := (na59.set (k * 2) (.bool (ineg (M + P)))).set (k * 2 + 1) (.string (imag (M + P)))
              rw [civ_set, HSET.out] at nfin
              have HFIN := Lib.hid hfin; clear hfin
              have NFIN := Lib.hid nfin; clear nfin
              refine wpAnyH_done (by kernel_rfl) ?_ _
              (try simp only [List.getElem_toArray, List.getElem_cons_zero, List.getElem_cons_succ, Act.put, zA, zB, zC])
              go_wp2_with fail
              go_roundw
              case rel => exact ⟨j + 1, by omega, by go_num, (HFIN.out.setCell (p := ⟨wb.heap.size, k * 2, none⟩) (Nat.le_refl _) _).setCell (p := ⟨wb.heap.size, k * 2 + 1, none⟩) (Nat.le_refl _) _, NFIN.out⟩
              case measure => simp [intOf]; omega
           ·
            go_simp
            have ne38 : Blk ((wd.alloc (.cells #[.bool false, .string ⟨#[]⟩] 28)).drew) wd.heap.size 28 [.bool false, .string ⟨#[]⟩] := Blk.new wd _ _
            have sd37 : Below wd.heap.size wd ((wd.alloc (.cells #[.bool false, .string ⟨#[]⟩] 28)).drew) := ((Below.refl wd.heap.size wd).alloc (Nat.le_refl _) _).drew
            refine hK.out _ _ ?_ (fun hG36 => ?_)
            ·
             ((try dsimp only); go_keep)
            clear hK K
            (try simp only [Act.put, zA, zB, zC])
            obtain ⟨wx35, hwx39⟩ : ∃ wx35, ((wd.alloc (.cells #[.bool false, .string ⟨#[]⟩] 28)).drew) = wx35 := ⟨_, rfl⟩
            rw [hwx39] at ne38 sd37
            (try rw [hwx39])
            (try rw [hwx39] at hG36)
            obtain ⟨cb, hbx40⟩ : ∃ cb, cb = wd.heap.size := ⟨_, rfl⟩
            have hge41 : wd.heap.size ≤ cb := by rw [hbx40]; exact sw.size
            rw [← hbx40] at ne38
            (try rw [← hbx40])
            clear hbx40 hwx39
            have hlwx35 : wd.heap.size ≤ wx35.heap.size := sd37.size
            refine zR 2 (h := fun K hK => ?_)
            go_simp
            go_at_call 37
            have hru : Row wx35 (.slice va m vc) m (ce es) := HRD.out.below sd37 (Nat.le_refl _)
            refine (HUN.out _ hru).mono ?_
            rintro e' wd42 ⟨hq, bu, rfl, hbu⟩
            clear hru
            dsimp only
            have z0 := (hq.cell (p := ⟨w.heap.size, 0, none⟩) (show w.heap.size < wx35.heap.size by omega)).trans hG36.1
            have z1 := (hq.cell (p := ⟨w.heap.size, 1, none⟩) (show w.heap.size < wx35.heap.size by omega)).trans hG36.2.1
            have z2 := (hq.cell (p := ⟨w.heap.size, 2, none⟩) (show w.heap.size < wx35.heap.size by omega)).trans hG36.2.2
            refine hK.out _ _ ⟨z0, z1, z2⟩ (fun hG43 => ?_)
            clear hK K z0 z1 z2
            (try simp only [Act.put, zA, zB, zC])
            have sd44 : Below wd.heap.size wd wd42 := sd37.trans (hq.mono sd37.size)
            have ne45 := Blk.keep (w := wx35) ne38 hq
            clear hq
            have hlwd42 : wd.heap.size ≤ wd42.heap.size := sd44.size
            refine zR 6 (h := fun K hK => ?_)
            go_simp
            go_at_call 36
            have hru : Row wd42 (.slice va m vc) m (ce es) := HRD.out.below sd44 (Nat.le_refl _)
            refine (HBZ.out _ _ hru hbu).mono ?_
            rintro e' wd46 ⟨hq, bv, rfl, hbv⟩
            clear hru
            dsimp only
            have z0 := (hq.cell (p := ⟨w.heap.size, 0, none⟩) (show w.heap.size < wd42.heap.size by omega)).trans hG43.1
            have z1 := (hq.cell (p := ⟨w.heap.size, 1, none⟩) (show w.heap.size < wd42.heap.size by omega)).trans hG43.2.1
            have z2 := (hq.cell (p := ⟨w.heap.size, 2, none⟩) (show w.heap.size < wd42.heap.size by omega)).trans hG43.2.2
            refine hK.out _ _ ⟨z0, z1, z2⟩ (fun hG47 => ?_)
            clear hK K z0 z1 z2
            (try simp only [Act.put, zA, zB, zC])
            have sd48 : Below wd.heap.size wd wd46 := sd44.trans (hq.mono sd44.size)
            have ne49 := Blk.keep (w := wd42) ne45 hq
            clear hq
            have hlwd46 : wd.heap.size ≤ wd46.heap.size := sd48.size
            have p0 := hbv.cell GZ0.out
            have p1 := hbv.cell GZ1.out
            refine zT 8 (h := ?_)
            (try simp only [Act.put, zA, zB, zC])
            refine zR 9 (h := fun K hK => ?_)
            go_simp
            refine hK.out _ _ ?_ (fun hG50 => ?_)
            ·
             ((try dsimp only); go_keep)
            clear hK K
            (try simp only [Act.put, zA, zB, zC])
            have k0 := ne49.cell (j := 0) rfl
            have k1 := ne49.cell (j := 1) rfl
            have k2 := ne49.frozen 0
            have k3 := ne49.frozen 1
            have hcg : ¬ cb = w.heap.size := by omega
            have hgc : ¬ w.heap.size = cb := by omega
            refine zR 11 (h := fun K hK => ?_)
            go_simp
            refine hK.out _ _ ?_ (fun hHz => ?_)
            ·
             ((try dsimp only); go_keep)
            clear hK K
            (try simp only [Act.put, zA, zB, zC])
            refine wpAnyH_done (by kernel_rfl) ?_ _
            (try simp only [List.getElem_toArray, List.getElem_cons_zero, List.getElem_cons_succ, Act.put, zA, zB, zC])
            have bC := (ne49.set 0 (.bool (ineg y))).set 1 (.string (imag y))
            have sV := (sd48.setCell (p := ⟨cb, 0, none⟩) (show wd.heap.size ≤ cb by omega) (.bool (ineg y))).setCell (p := ⟨cb, 1, none⟩) (show wd.heap.size ≤ cb by omega) (.string (imag y))
            obtain ⟨V, hV⟩ : ∃ V, (wd46.setCell ⟨cb, 0, none⟩ (.bool (ineg y))).setCell ⟨cb, 1, none⟩ (.string (imag y)) = V := ⟨_, rfl⟩
            rw [hV] at bC sV
            (try rw [hV])
            clear hV k0 k1 k2 k3 p0 p1
            have hnbd : ¬ wb.heap.size = db := by omega
            have hnbc : ¬ wb.heap.size = cb := by omega
            have nV0 := HBK.out.below sV (by omega)
            have dV := DND.out.below sV (by omega)
            have nV := nV0.drew
            have cN0 := nV0.cell GM0.out
            have cN1 := nV0.cell GM1.out
            have fr0 := nV0.frozen (k * 2)
            have fr1 := nV0.frozen (k * 2 + 1)
            have dc0 := dV.cell GX0.out
            have dc1 := dV.cell GX1.out
            have ec0 := bC.cell (j := 0) rfl
            have ec1 := bC.cell (j := 1) rfl
            have hdV := dV.lt
            have hcV := bC.lt
            have swV := (Below.refl V.heap.size V).drew
            clear v0 v1 v2
            go_wp2_with fail
            refine wp_region_held_drew (S := fun w' => w'.cell? ⟨db, j * 2, none⟩ = some (.bool (ineg x)) ∧ w'.cell? ⟨db, j * 2 + 1, none⟩ = some (.string (imag x)) ∧ w'.cell? ⟨cb, 0, none⟩ = some (.bool (ineg y)) ∧ w'.cell? ⟨cb, 1, none⟩ = some (.string (imag y))) (by kernel_rfl) ?_ (fun hHeld3 => ?_)
            ·
             go_keep
            refine zT 0 (h := ?_)
            (try simp only [Act.put, zA, zB, zC])
            refine zT 1 (h := ?_)
            (try simp only [Act.put, zA, zB, zC])
            refine zT 2 (h := ?_)
            (try simp only [Act.put, zA, zB, zC])
            refine zT 3 (h := ?_)
            (try simp only [Act.put, zA, zB, zC])
            refine zT 4 (h := ?_)
            (try simp only [Act.put, zA, zB, zC])
            refine zT 6 (h := ?_)
            (try simp only [Act.put, zA, zB, zC])
            refine zT 7 (h := ?_)
            (try simp only [Act.put, zA, zB, zC])
            refine zT 8 (h := ?_)
            (try simp only [Act.put, zA, zB, zC])
            refine zT 9 (h := ?_)
            (try simp only [Act.put, zA, zB, zC])
            refine zT 10 (h := ?_)
            (try simp only [Act.put, zA, zB, zC])
            refine wpAnyH_ready (rs := [5, 11]) (by kernel_rfl) (by simp) ?_
            refine AllReadyH.cons rfl (fun K hK => ?_) (AllReadyH.cons rfl (fun K hK => ?_) (AllReadyH.nil))
            ·
             go_simp
             refine hK.out _ _ ?_ (fun hH61 => ?_)
             ·
              ((try dsimp only); go_keep)
             clear hK K
             (try simp only [Act.put, zA, zB, zC])
             refine zR 11 (h := fun K hK => ?_)
             go_simp
             go_at_call 48
             refine (HMUL.out _).mono ?_
             rintro e' wa62 ⟨hq, rfl⟩
             dsimp only
             have z0 := (hq.cell (p := ⟨db, j * 2, none⟩) (show db < V.heap.size by omega)).trans hH61.1
             have z1 := (hq.cell (p := ⟨db, j * 2 + 1, none⟩) (show db < V.heap.size by omega)).trans hH61.2.1
             have z2 := (hq.cell (p := ⟨cb, 0, none⟩) (show cb < V.heap.size by omega)).trans hH61.2.2.1
             have z3 := (hq.cell (p := ⟨cb, 1, none⟩) (show cb < V.heap.size by omega)).trans hH61.2.2.2
             refine hK.out _ _ ⟨z0, z1, z2, z3⟩ (fun hH63 => ?_)
             clear hK K z0  z1  z2  z3
             (try simp only [Act.put, zA, zB, zC])
             have sa64 : Below V.heap.size V wa62 := swV.trans (hq.mono swV.size)
             have na65 := Blk.keep (w := V.drew) nV hq
             clear hq
             have hlwa62 : V.heap.size ≤ wa62.heap.size := sa64.size
             clear cN0 cN1
             have cN0 := na65.cell GM0.out
             have cN1 := na65.cell GM1.out
             have fr0 := na65.frozen (k * 2)
             have fr1 := na65.frozen (k * 2 + 1)
             refine zR 12 (h := fun K hK => ?_)
             go_simp
             go_at_call 40
             refine (HADD.out _).mono ?_
             rintro e' wa66 ⟨hq, rfl⟩
             dsimp only
             have z0 := (hq.cell (p := ⟨db, j * 2, none⟩) (show db < wa62.heap.size by omega)).trans hH63.1
             have z1 := (hq.cell (p := ⟨db, j * 2 + 1, none⟩) (show db < wa62.heap.size by omega)).trans hH63.2.1
             have z2 := (hq.cell (p := ⟨cb, 0, none⟩) (show cb < wa62.heap.size by omega)).trans hH63.2.2.1
             have z3 := (hq.cell (p := ⟨cb, 1, none⟩) (show cb < wa62.heap.size by omega)).trans hH63.2.2.2
             refine hK.out _ _ ⟨z0, z1, z2, z3⟩ (fun hH67 => ?_)
             clear hK K z0  z1  z2  z3
             (try simp only [Act.put, zA, zB, zC])
             have sa68 : Below V.heap.size V wa66 := sa64.trans (hq.mono sa64.size)
             have na69 := Blk.keep (w := wa62) na65 hq
             clear hq
             have hlwa66 : V.heap.size ≤ wa66.heap.size := sa68.size
             clear cN0 cN1
             have cN0 := na69.cell GM0.out
             have cN1 := na69.cell GM1.out
             have fr0 := na69.frozen (k * 2)
             have fr1 := na69.frozen (k * 2 + 1)
             refine zT 13 (h := ?_)
             (try simp only [Act.put, zA, zB, zC])
             refine zR 14 (h := fun K hK => ?_)
             go_simp
             refine hK.out _ _ ?_ (fun hH70 => ?_)
             ·
              ((try dsimp only); go_keep)
             clear hK K
             (try simp only [Act.put, zA, zB, zC])
             have hfin := HBE.out.trans ((sV.trans (sa68.mono sV.size)).mono HBE.out.size)
             have nfin := (na69.set (k * 2) (.bool (ineg (M + P)))).set (k * 2 + 1) (.string (imag (M + P)))
             rw [civ_set, HSET.out] at nfin
             have HFIN := Lib.hid hfin; clear hfin
             have NFIN := Lib.hid nfin; clear nfin
             refine wpAnyH_done (by kernel_rfl) ?_ _
             (try simp only [List.getElem_toArray, List.getElem_cons_zero, List.getElem_cons_succ, Act.put, zA, zB, zC])
             go_wp2_with fail
             go_roundw
             case rel => exact ⟨j + 1, by omega, by go_num, (HFIN.out.setCell (p := ⟨wb.heap.size, k * 2, none⟩) (Nat.le_refl _) _).setCell (p := ⟨wb.heap.size, k * 2 + 1, none⟩) (Nat.le_refl _) _, NFIN.out⟩
             case measure => simp [intOf]; omega
            ·
             go_simp
             go_at_call 48
             refine (HMUL.out _).mono ?_
             rintro e' wa71 ⟨hq, rfl⟩
             dsimp only
             have z0 := (hq.cell (p := ⟨db, j * 2, none⟩) (show db < V.heap.size by omega)).trans hHeld3.1
             have z1 := (hq.cell (p := ⟨db, j * 2 + 1, none⟩) (show db < V.heap.size by omega)).trans hHeld3.2.1
             have z2 := (hq.cell (p := ⟨cb, 0, none⟩) (show cb < V.heap.size by omega)).trans hHeld3.2.2.1
             have z3 := (hq.cell (p := ⟨cb, 1, none⟩) (show cb < V.heap.size by omega)).trans hHeld3.2.2.2
             refine hK.out _ _ ⟨z0, z1, z2, z3⟩ (fun hH72 => ?_)
             clear hK K z0  z1  z2  z3
             (try simp only [Act.put, zA, zB, zC])
             have sa73 : Below V.heap.size V wa71 := swV.trans (hq.mono swV.size)
             have na74 := Blk.keep (w := V.drew) nV hq
             clear hq
             have hlwa71 : V.heap.size ≤ wa71.heap.size := sa73.size
             clear cN0 cN1
             have cN0 := na74.cell GM0.out
             have cN1 := na74.cell GM1.out
             have fr0 := na74.frozen (k * 2)
             have fr1 := na74.frozen (k * 2 + 1)
             refine zR 5 (h := fun K hK => ?_)
             go_simp
             refine hK.out _ _ ?_ (fun hH75 => ?_)
             ·
              ((try dsimp only); go_keep)
             clear hK K
             (try simp only [Act.put, zA, zB, zC])
             refine zR 12 (h := fun K hK => ?_)
             go_simp
             go_at_call 40
             refine (HADD.out _).mono ?_
             rintro e' wa76 ⟨hq, rfl⟩
             dsimp only
             have z0 := (hq.cell (p := ⟨db, j * 2, none⟩) (show db < wa71.heap.size by omega)).trans hH75.1
             have z1 := (hq.cell (p := ⟨db, j * 2 + 1, none⟩) (show db < wa71.heap.size by omega)).trans hH75.2.1
             have z2 := (hq.cell (p := ⟨cb, 0, none⟩) (show cb < wa71.heap.size by omega)).trans hH75.2.2.1
             have z3 := (hq.cell (p := ⟨cb, 1, none⟩) (show cb < wa71.heap.size by omega)).trans hH75.2.2.2
             refine hK.out _ _ ⟨z0, z1, z2, z3⟩ (fun hH77 => ?_)
             clear hK K z0  z1  z2  z3
             (try simp only [Act.put, zA, zB, zC])
             have sa78 : Below V.heap.size V wa76 := sa73.trans (hq.mono sa73.size)
             have na79 := Blk.keep (w := wa71) na74 hq
             clear hq
             have hlwa76 : V.heap.size ≤ wa76.heap.size := sa78.size
             clear cN0 cN1
             have cN0 := na79.cell GM0.out
             have cN1 := na79.cell GM1.out
             have fr0 := na79.frozen (k * 2)
             have fr1 := na79.frozen (k * 2 + 1)
             refine zT 13 (h := ?_)
             (try simp only [Act.put, zA, zB, zC])
             refine zR 14 (h := fun K hK => ?_)
             go_simp
             refine hK.out _ _ ?_ (fun hH80 => ?_)
             ·
              ((try dsimp only); go_keep)
             clear hK K
             (try simp only [Act.put, zA, zB, zC])
             have hfin := HBE.out.trans ((sV.trans (sa78.mono sV.size)).mono HBE.out.size)
             have nfin := (na79.set (k * 2) (.bool (ineg (M + P)))).set (k * 2 + 1) (.string (imag (M + P)))
             rw [civ_set, HSET.out] at nfin
             have HFIN := Lib.hid hfin; clear hfin
             have NFIN := Lib.hid nfin; clear nfin
             refine wpAnyH_done (by kernel_rfl) ?_ _
             (try simp only [List.getElem_toArray, List.getElem_cons_zero, List.getElem_cons_succ, Act.put, zA, zB, zC])
             go_wp2_with fail
             go_roundw
             case rel => exact ⟨j + 1, by omega, by go_num, (HFIN.out.setCell (p := ⟨wb.heap.size, k * 2, none⟩) (Nat.le_refl _) _).setCell (p := ⟨wb.heap.size, k * 2 + 1, none⟩) (Nat.le_refl _) _, NFIN.out⟩
             case measure => simp [intOf]; omega
          ·
           have hjk2 : j = k + 1 := by omega
           have tj : decide ((j : Int) ≤ (k : Int)) = false := by simp; omega
           rw [hjk2, HNN.out] at hbk
           have HBE := Lib.hid hbe; clear hbe
           have HBK := Lib.hid hbk; clear hbk
           clear hjk2
           go_wp2_with fail
           go_roundw
           case rel => exact ⟨k + 1, by omega, by go_num, HBE.out, HBK.out⟩
           case measure => simp [intOf]; omega
        ·
         have hkS2 : k = S := by omega
         have tk : decide ((k : Int) < (S : Int)) = false := by simp; omega
         rw [hkS2, HNF.out] at hblk
         have hrowN := blk_row hblk (by rw [HNL.out]; omega)
         have dnc := BDN.out.below hbel hdl
         have hrowD := blk_row dnc (by rw [HDL.out]; omega)
         have hcnc := HCN.out _ _ hrowN
         rw [HNL.out] at hcnc hrowN
         rw [HDL.out] at hrowD
         have hsc := HS4.out.trans (hbel.mono HS4.out.size)
         have HCNC := Lib.hid hcnc; clear hcnc
         have HROWD := Lib.hid hrowD; clear hrowD
         have HSC := Lib.hid hsc; clear hsc
         clear hblk hrowN dnc hbel hkS2
         go_wp2_with fail
         go_at_call 57
         refine HCNC.out.mono ?_
         rintro e w6 ⟨hq6, u6, rfl, ho6⟩
         have hro6 := own_row ho6
         have hrd6 := HROWD.out.below hq6 (Nat.le_refl _)
         have hcd6 := HCD.out (.slice (some ⟨db, 0, none⟩) (S + 1) (S + 1)) w6 (by rw [HDL.out]; exact hrd6)
         have hs6 := HSC.out.trans (hq6.mono HSC.out.size)
         have HRO6 := Lib.hid hro6; clear hro6
         have HCD6 := Lib.hid hcd6; clear hcd6
         have HS6 := Lib.hid hs6; clear hs6
         clear ho6 hrd6 hq6
         go_wp2_with fail
         go_at_call 57
         refine HCD6.out.mono ?_
         rintro e w7 ⟨hq7, u7, rfl, ho7⟩
         have hro7 := own_row ho7
         have hro67 := HRO6.out.below hq7 (Nat.le_refl _)
         have hs7 := HS6.out.trans (hq7.mono HS6.out.size)
         have HRO7 := Lib.hid hro7; clear hro7
         have HRO67 := Lib.hid hro67; clear hro67
         have HS7 := Lib.hid hs7; clear hs7
         clear ho7 hq7
         go_wp2_with fail
         refine bodyPost_ret (v := .tuple #[u6, u7, .int .i64 0]) (by simp [results, Tryz.results21, go_sem]) rfl ⟨HS7.out, _, _, rfl, HRO67.out, HRO7.out⟩
end Go.Proofs.YthpgeeaccmgbkaaGreat


/- The law CountingMatrices. -/
import Derived.Deep.RegionHeld3
import Derived.Test.YthpgeeaccmgbkaaFin22
import Derived.Test.YthpgeeaccmgbkaaMPow
import Derived.Test.YthpgeeaccmgbkaaTotal
import Derived.Test.YthpgeeaccmgbkaaPart12
import Derived.Test.YthpgeeaccmgbkaaPart11
import Derived.Test.YthpgeeaccmgbkaaPart14
import Derived.Test.YthpgeeaccmgbkaaAwk22
import Derived.Test.YthpgeeaccmgbkaaPart9
namespace Go.Proofs.Ythpgeeaccmgbkaa
open Go.RowKit

/-- A part of a row's sum; the sum of the first rows. -/
def rowS (es : List E3) (n i j : Nat) : Int := ((List.range j).map fun (t : Nat) => pwF es n i t).sum
theorem rowS_succ (es : List E3) (n i j : Nat) : rowS es n i (j + 1) = rowS es n i j + pwF es n i j := by
  unfold rowS; rw [List.range_succ, List.map_append]; exact sum_snoc _ _
theorem rowS_sm {es : List E3} (h : es.length ≤ 1024) (n i j : Nat) (hj : j ≤ 255) : sm (2 * n + 2) (rowS es n i j) := by
  refine sm_sum' (p := 2 * n + 1) (fun z hz => ?_) (by simpa using hj)
  obtain ⟨s, -, rfl⟩ := List.mem_map.1 hz
  exact pw_sm h n i s
def totS (es : List E3) (n i : Nat) : Int := ((List.range i).map fun (s : Nat) => cw es allP n (s : Int)).sum
theorem totS_succ (es : List E3) (n i : Nat) : totS es n (i + 1) = totS es n i + cw es allP n (i : Int) := by
  unfold totS; rw [List.range_succ, List.map_append]; exact sum_snoc _ _
theorem totS_sm {es : List E3} (h : es.length ≤ 1024) (n i : Nat) (hi : i ≤ 255) : sm (2 * n + 2) (totS es n i) := by
  refine sm_sum' (p := 2 * n + 1) (fun z hz => ?_) (by simpa using hi)
  obtain ⟨s, -, rfl⟩ := List.mem_map.1 hz
  exact cw_sm h allP n s
theorem neqI_self (x : Int) (w : World) : (binOp .neq 28 (.agg #[.bool (ineg x), .string (imag x)]) (.agg #[.bool (ineg x), .string (imag x)])).run Try.prog w = .ok (.bool false) w := by
  rw [run_neq_struct, eqIn_int]
  have e : (ineg x == ineg x && imag x == imag x) = true := by rw [beq_toListBytes]; simp
  rw [e]; rfl
set_option maxRecDepth 100000 in
set_option maxHeartbeats 16000000 in
theorem lmat_all (L S : Int) (es : List E3) (v : Value) (a1 : Nat) (w : World) (hr : Row w v es.length (ce es)) (hok : okEs es) (h1 : a1 ≤ 255) :
    Calls Try.prog 7 #[.agg #[.int .i64 L, .int .i64 S, v], .int .u8 (a1 : Int)] w (Ret w (.bool true)) := by
  obtain ⟨va, vc, rfl, hle⟩ := hr.slice
  obtain ⟨m, hm⟩ : ∃ m, m = es.length := ⟨_, rfl⟩
  have s0 := (Below.refl w.heap.size w).alloc (Nat.le_refl _) (.cells #[.int .i64 L, .int .i64 S, .slice va es.length vc] 24)
  have b0 := Blk.new w 24 [.int .i64 L, .int .i64 S, .slice va es.length vc]
  have hr0 := hr.below s0 (Nat.le_refl _)
  have hfi := fine22_any L S es _ _ hr0
  have haw := awake22_true
  have hpa := fun (k x y n : Nat) (hc : chk L (k : Int) es = 0) (hx : x < k) (hy : y < k) (hn : n ≤ 30) w' (h : Row w' (.slice va es.length vc) es.length (ce es)) => paths_ok L k x y n es _ w' h hok hc hx hy (by omega)
  have hfro := fun (k n : Nat) (hc : chk L (k : Int) es = 0) (hn : n ≤ 4096) w' (h : Row w' (.slice va es.length vc) es.length (ce es)) => cfrom_ok L k n es _ w' h hok hc hn
  have hclo := fun (k N : Nat) (hc : chk L (k : Int) es = 0) (hS : k ≤ 32) (hN : N ≤ 4096) w' (h : Row w' (.slice va es.length vc) es.length (ce es)) => Closed_ok L k N es _ w' h hok hc hS hN
  have htot := fun (k N : Nat) (hc : chk L (k : Int) es = 0) (hN : N ≤ 4096) w' (h : Row w' (.slice va es.length vc) es.length (ce es)) => total_ok L k N es _ w' h hok hc hN
  rw [← hm] at s0 b0 hr0 hfi hpa hfro hclo htot hr
  have HM := Lib.hid hm; clear hm
  have HFI := Lib.hid hfi; clear hfi
  have HAW := Lib.hid haw; clear haw
  have HPA := Lib.hid hpa; clear hpa
  have HFRO := Lib.hid hfro; clear hfro
  have HCLO := Lib.hid hclo; clear hclo
  have HTOT := Lib.hid htot; clear htot
  have S0 := Lib.hid s0; clear s0
  have B0 := Lib.hid b0; clear b0
  have HR0 := Lib.hid hr0; clear hr0
  have HR := Lib.hid hr; clear hr
  go_enter Try.func7, Try.ntmps7
  rw [← HM.out]
  go_wp2_with fail
  go_at_call 9
  refine HFI.out.mono ?_
  rintro e w1 ⟨hq, b, rfl, hb⟩
  have s1 := S0.out.trans (hq.mono S0.out.size)
  have hr1 := HR0.out.below hq (Nat.le_refl _)
  have tk := B0.out.keep hq; have x0 := tk.cell (j := 0) rfl; have x1 := tk.cell (j := 1) rfl; have x2 := tk.cell (j := 2) rfl; have C0 := Lib.hid tk; clear tk
  have S1 := Lib.hid s1; clear s1
  have HR1 := Lib.hid hr1; clear hr1
  clear hq
  cases b with
  | false =>
    go_wp2_with fail
    go_at_call 10
    refine (HAW.out _).mono ?_
    rintro e w2 ⟨hq, rfl⟩
    have HQ := Lib.hid hq; clear hq
    go_wp2_with fail
    go_ret
    exact ⟨S1.out.trans (HQ.out.mono S1.out.size), rfl⟩
  | true =>
    obtain ⟨hchk, hS8, hlen⟩ := hb rfl
    obtain ⟨k, rfl⟩ : ∃ k : Nat, S = k := ⟨S.toNat, by have := chk_all hchk; omega⟩
    by_cases hk0 : k = 0
    · have t0 : ((k : Int) == 0) = true := by simp [hk0]
      clear hb
      go_wp2_with fail
      go_at_call 10
      refine (HAW.out _).mono ?_
      rintro e w2 ⟨hq, rfl⟩
      have HQ := Lib.hid hq; clear hq
      go_wp2_with fail
      go_ret
      exact ⟨S1.out.trans (HQ.out.mono S1.out.size), rfl⟩
    have t0 : ((k : Int) == 0) = false := by simp; omega
    have hk8 : k ≤ 8 := by omega
    have hkp : 0 < k := by omega
    obtain ⟨n, hn⟩ : ∃ n, n = a1 % 13 := ⟨_, rfl⟩
    have hn12 : n ≤ 12 := by omega
    have r3 : (a1 : Int) % 13 = (n : Int) := by omega
    have hin := chk_inS hchk
    have hpaq := fun (x y : Nat) (hx : x < k) (hy : y < k) => HPA.out k x y n hchk hx hy (by omega)
    have hfrq := HFRO.out k n hchk (by omega)
    have hclq := HCLO.out k n hchk (by omega) (by omega)
    have htoq := HTOT.out k n hchk (by omega)
    have hpwq := fun bm w' h => mpow_any k n bm es w' hkp hk8 hlen hin hn12 h
    have hl10 : es.length ≤ 1024 := by omega
    have hall := fun (s : Nat) (hs : s < k) => cw_all hin n s hs
    have hpo := pw_one es k
    have hof := fun w' => iof_any 1 w' (by decide) (by decide)
    have hof0 := fun w' => iof_any 0 w' (by decide) (by decide)
    have hmr := mkRows k (by omega) (k : Int) rfl
    have hmi := mkI k (by omega) (k : Int) rfl
    have hm30 : m ≤ 30 := by rw [HM.out]; exact hlen
    obtain ⟨S, hSk⟩ : ∃ S : Nat, S = k := ⟨_, rfl⟩
    subst hSk
    have g1 := C0.out
    have hg1l := g1.lt
    have hd0 : RowsD w1.heap.size (w1.alloc (.cells (zarr (.slice none 0 0) S) 38)) w1.heap.size S S (fun _ _ => 0) [] := ⟨Nat.zero_le _, List.nodup_nil, blk_mkRows w1 S, fun i b h => by simp at h⟩
    have s1r := (Below.refl w1.heap.size w1).alloc (Nat.le_refl _) (.cells (zarr (.slice none 0 0) S) 38)
    have bg1 := g1.alloc (.cells (zarr (.slice none 0 0) S) 38)
    have R3 := Lib.hid r3; clear r3
    have HPAQ := Lib.hid hpaq; clear hpaq
    have HFRQ := Lib.hid hfrq; clear hfrq
    have HCLQ := Lib.hid hclq; clear hclq
    have HTOQ := Lib.hid htoq; clear htoq
    have HPWQ := Lib.hid hpwq; clear hpwq
    have HALL := Lib.hid hall; clear hall
    have HPO := Lib.hid hpo; clear hpo
    have HOF := Lib.hid hof; clear hof
    have HOF0 := Lib.hid hof0; clear hof0
    have HIN := Lib.hid hin; clear hin
    have HD0 := Lib.hid hd0; clear hd0
    have S1R := Lib.hid s1r; clear s1r
    have BG1R := Lib.hid bg1; clear bg1
    have G1L := Lib.hid hg1l; clear hg1l
    have hl := hl10
    clear hb hchk hlen hn g1 HPA HFRO HCLO HTOT hS8
    go_wp2_with fail
    rw [R3.out]
    have hG1 := G1L.out
    go_loopw [44] (fun i wr => ∃ (j : Nat) (bs : List Nat), j ≤ S ∧ bs.length = j ∧ i = .int .i64 (j : Int) ∧ Below w1.heap.size w1 wr ∧ Blk wr w.heap.size 24 [.int .i64 L, .int .i64 (S : Int), .slice va m vc] ∧ RowsD w1.heap.size wr w1.heap.size S S (fun _ _ => 0) bs) (fun i _ => S - (intOf i).toNat)
    case atStart => exact ⟨0, [], Nat.zero_le _, rfl, rfl, S1R.out, BG1R.out, HD0.out⟩
    case round =>
      obtain ⟨j, bs, hj, hbl, rfl, hbel, hbg, hrd⟩ := hrel
      obtain ⟨wo, rfl⟩ : ∃ wo : World, wo = wr := ⟨_, rfl⟩
      have hgl := hbg.lt
      by_cases hlt : j < S
      · have hb0 := hrd.2.2.1
        have hlo := hb0.lt
        have f0 := hb0.frozen j
        have hix : (0 : Int) ≤ (j : Int) := by omega
        have hix2 : (j : Int) < (S : Int) := by omega
        have c0 : wo.cell? ⟨w1.heap.size, j, none⟩ = some (.slice none 0 0) := hb0.cell (by
          rw [List.getElem?_append_right (by rw [rowsV_length]; omega), rowsV_length, hbl, Nat.sub_self, List.getElem?_replicate, if_pos (by omega)])
        have y1 := hbg.cell (j := 1) rfl
        have hnext := hrd.next (m := S) (by omega) hbel.size
        rw [hbl] at hnext
        have hne : ¬ w1.heap.size = w.heap.size := by have := G1L.out; omega
        have hne2 : ¬ w.heap.size = w1.heap.size := by have := G1L.out; omega
        have hdone : RowsD w1.heap.size ((wo.setCell ⟨w1.heap.size, j, none⟩ (.slice (some ⟨wo.heap.size, 0, none⟩) S S)).alloc (.cells (zarr (.agg #[.bool false, .string ⟨#[]⟩]) S) 28)) w1.heap.size S S (fun _ _ => 0) (bs ++ [wo.heap.size]) := by
          refine RowsP.done (f := fun _ _ => 0) ?_
          obtain ⟨p1, p2, p3, p4, p5, p6⟩ := hnext
          exact ⟨p1, p2, p3, p4, p5, by rw [prow_const] at p6 ⊢; exact p6⟩
        have hbel2 := (hbel.setCell (p := ⟨w1.heap.size, j, none⟩) (Nat.le_refl _) (.slice (some ⟨wo.heap.size, 0, none⟩) S S)).alloc (by rw [World.size_setCell]; exact hbel.size) (.cells (zarr (.agg #[.bool false, .string ⟨#[]⟩]) S) 28)
        have hbg2 := (hbg.setOther (a := ⟨w1.heap.size, j, none⟩) hne (.slice (some ⟨wo.heap.size, 0, none⟩) S S)).alloc (.cells (zarr (.agg #[.bool false, .string ⟨#[]⟩]) S) 28)
        have HDN := Lib.hid hdone; clear hdone
        have HB2 := Lib.hid hbel2; clear hbel2
        have HBG2 := Lib.hid hbg2; clear hbg2
        clear hnext hb0 hrd hbel hbg
        go_wp2_with fail
        go_roundw
        case rel => exact ⟨j + 1, bs ++ [wo.heap.size], by omega, by simp [hbl], by go_num, HB2.out, HBG2.out, HDN.out⟩
        case measure => simp [intOf]; omega
      · obtain rfl : j = S := by omega
        have hfull := hrd.full (B := w1.heap.size) (by omega) hbl
        have hmat0 : MatB w1.heap.size wo w1.heap.size j (matF j j (adjF (es.take 0))) := by
          have e : (adjF (es.take 0)) = fun _ _ => 0 := by funext i k; simp [adjF]
          rw [e]; exact hfull
        have y2 := hbg.cell (j := 2) rfl
        have hbgz := hbg
        have HBGZ := Lib.hid hbgz; clear hbgz
        have HMAT0 := Lib.hid hmat0; clear hmat0
        have HB3 := Lib.hid hbel; clear hbel
        clear hrd hfull hbg hbl
        go_wp2_with fail
        clear y2
        obtain ⟨S, rfl⟩ : ∃ S : Nat, S = j := ⟨_, rfl⟩
        obtain ⟨mb, hmb⟩ : ∃ mb, mb = w1.heap.size := ⟨_, rfl⟩
        have hmat9 : MatB w1.heap.size wo mb S (matF S S (adjF (es.take 0))) := by rw [hmb]; exact HMAT0.out
        clear HMAT0
        have HMAT0 := Lib.hid hmat9; clear hmat9
        rw [← hmb]
        have HMB := Lib.hid hmb; clear hmb
        go_loopw [57] (fun i wr => ∃ q : Nat, q ≤ m ∧ i = .int .i64 (q : Int) ∧ Below w1.heap.size w1 wr ∧ MatB w1.heap.size wr mb S (matF S S (adjF (es.take q)))) (fun i _ => m - (intOf i).toNat)
        case atStart => exact ⟨0, Nat.zero_le _, rfl, HB3.out, HMAT0.out⟩
        case round =>
          obtain ⟨q, hq, rfl, hbel, hmat⟩ := hrel
          by_cases hlt3 : q < m
          · have ge : es[q]? = some (es[q]'(by rw [← HM.out]; exact hlt3)) := List.getElem?_eq_getElem _
            obtain ⟨e, hedef⟩ : ∃ e, e = es[q]'(by rw [← HM.out]; exact hlt3) := ⟨_, rfl⟩
            rw [← hedef] at ge
            obtain ⟨hf0, hf1, ht0, ht1⟩ := HIN.out e (List.mem_of_getElem? ge)
            obtain ⟨f, hf⟩ : ∃ f : Nat, e.f = f := ⟨e.f.toNat, by omega⟩
            obtain ⟨t, ht⟩ : ∃ t : Nat, e.t = t := ⟨e.t.toNat, by omega⟩
            have hfS : f < S := by omega
            have htS : t < S := by omega
            obtain ⟨b', off, rfl, hbw, hce⟩ := HR.out.at_ (by omega)
            obtain ⟨q0, q1, q2⟩ := edge_cells hce (S1.out.trans (hbel.mono S1.out.size)) hbw ge
            have hql : q < es.length := by rw [← HM.out]; exact hlt3
            have hsu : adjF (es.take (q + 1)) = upd (adjF (es.take q)) f t (adjF (es.take q) f t + 1) := by
              rw [List.take_succ_eq_append_getElem hql, ← hedef]; exact adjF_snoc hf ht
            have hXs : sm 2 (adjF (es.take q) f t) := adjF_sm (by rw [List.length_take]; omega) f t
            obtain ⟨el, hel⟩ : ∃ x, x = e.l := ⟨_, rfl⟩
            rw [hf] at q0
            rw [ht] at q2
            rw [← hel] at q1
            have hmat2 := hmat.keep ((Below.refl wr.heap.size wr).alloc (Nat.le_refl _) (.cells #[.int .i64 (f : Int), .int .i64 el, .int .i64 (t : Int)] 48))
            have bx := Blk.new wr 48 [.int .i64 (f : Int), .int .i64 el, .int .i64 (t : Int)]
            have hb5 := hbel.alloc hbel.size (.cells #[.int .i64 (f : Int), .int .i64 el, .int .i64 (t : Int)] 48)
            obtain ⟨X, hX⟩ : ∃ X, X = adjF (es.take q) f t := ⟨_, rfl⟩
            rw [← hX] at hsu hXs
            obtain ⟨rb, hrb, hmr2, hnb, hrow, hput⟩ := hmat2.put hfS (k := t) (X + 1)
            have hgx : ((List.range S).map (adjF (es.take q) f))[t]? = some X := by simp [htS, hX]
            obtain ⟨wx, hwx⟩ : ∃ wx, wr.alloc (.cells #[.int .i64 (f : Int), .int .i64 el, .int .i64 (t : Int)] 48) = wx := ⟨_, rfl⟩
            rw [hwx] at bx hnb hrow hput hb5 hmat2
            have x0 := bx.cell (j := 0) rfl
            have x2 := bx.cell (j := 2) rfl
            have cN0 := hnb.cell (civ_get hgx).1
            have cN1 := hnb.cell (civ_get hgx).2
            have hmbx : mb < wx.heap.size := by
              obtain ⟨bs, -, -, -, h4, -⟩ := hmat2
              exact h4.lt
            have hnb2 : ¬ wr.heap.size = rb := blk_ne bx hnb (by decide)
            have hmx : ¬ wr.heap.size = mb := by
              obtain ⟨bs, -, -, -, h4, -⟩ := hmat2
              exact blk_ne bx h4 (by decide)
            have hmbl : mb < wr.heap.size := by
              obtain ⟨bs, -, -, -, h4, -⟩ := hmat
              exact h4.lt
            have hadd := fun w' => iadd_any (ineg X) (ineg 1) (imag X) (imag 1) w' (Nat.le_trans hXs.size (by omega)) (by rw [imag_size]; exact Nat.le_trans (bb_length_le (m := 1) (by decide)) (by omega))
            simp only [ival_canon] at hadd
            have hrbl := hnb.lt
            have hxbl := bx.lt
            have hix1 : (0 : Int) ≤ (f : Int) := by omega
            have hix2 : (f : Int) < (S : Int) := by omega
            have hix3 : (0 : Int) ≤ (t : Int) := by omega
            have hix4 : (t : Int) < (S : Int) := by omega
            have hne1 : ¬ mb = rb := hmr2
            have hne2 : ¬ rb = mb := fun e => hmr2 e.symm
            have hne3 : ¬ rb = wr.heap.size := fun e => hnb2 e.symm
            clear hedef hce hf ht hf0 hf1 ht0 ht1 hel hX hmr2 hmat hmat2 hXs hql ge
            have HSU := Lib.hid hsu; clear hsu
            have HPUT := Lib.hid hput; clear hput
            have HADD := Lib.hid hadd; clear hadd
            have HB5 := Lib.hid hb5; clear hb5
            have HNB := Lib.hid hnb; clear hnb
            have BX := Lib.hid bx; clear bx
            go_wp2_with fail
            clear hwx
            refine wp_region_held_drew (S := fun w' => w'.cell? ⟨wr.heap.size, 0, none⟩ = some (.int .i64 (f : Int)) ∧ w'.cell? ⟨wr.heap.size, 2, none⟩ = some (.int .i64 (t : Int)) ∧ w'.cell? ⟨mb, f, none⟩ = some (.slice (some ⟨rb, 0, none⟩) S S)) (by kernel_rfl) ?_ (fun hHeld => ?_)
            · go_keep
            refine wpAnyH_take (i := 0) (v := ?_) rfl (by kernel_rfl) (by kernel_rfl) (by kernel_rfl) (fun _ _ _ h => h) (Or.inl ⟨by rfl, ?_⟩) (by assumption) ?_
            rotate_left
            · (intro wS hSw; (try dsimp only at hSw); go_simp; (try with_reducible rfl))
            (try simp only [Act.put, List.setIfInBounds_toArray, List.set_cons_zero, List.set_cons_succ])
            refine wpAnyH_take (i := 1) (v := ?_) rfl (by kernel_rfl) (by kernel_rfl) (by kernel_rfl) (fun _ _ _ h => h) (Or.inl ⟨by rfl, ?_⟩) (by assumption) ?_
            rotate_left
            · (intro wS hSw; (try dsimp only at hSw); go_simp; (try with_reducible rfl))
            (try simp only [Act.put, List.setIfInBounds_toArray, List.set_cons_zero, List.set_cons_succ])
            refine wpAnyH_take (i := 2) (v := ?_) rfl (by kernel_rfl) (by kernel_rfl) (by kernel_rfl) (fun _ _ _ h => h) (Or.inl ⟨by rfl, ?_⟩) (by assumption) ?_
            rotate_left
            · (intro wS hSw; (try dsimp only at hSw); go_simp; (try with_reducible rfl))
            (try simp only [Act.put, List.setIfInBounds_toArray, List.set_cons_zero, List.set_cons_succ])
            refine wpAnyH_take (i := 3) (v := ?_) rfl (by kernel_rfl) (by kernel_rfl) (by kernel_rfl) (fun _ _ _ h => h) (Or.inl ⟨by rfl, ?_⟩) (by assumption) ?_
            rotate_left
            · (intro wS hSw; (try dsimp only at hSw); go_simp; (try with_reducible rfl))
            (try simp only [Act.put, List.setIfInBounds_toArray, List.set_cons_zero, List.set_cons_succ])
            refine wpAnyH_take (i := 4) (v := ?_) rfl (by kernel_rfl) (by kernel_rfl) (by kernel_rfl) (fun _ _ _ h => h) (Or.inl ⟨by rfl, ?_⟩) (by assumption) ?_
            rotate_left
            · (intro wS hSw; (try dsimp only at hSw); go_simp; (try with_reducible rfl))
            (try simp only [Act.put, List.setIfInBounds_toArray, List.set_cons_zero, List.set_cons_succ])
            refine wpAnyH_take (i := 5) (v := ?_) rfl (by kernel_rfl) (by kernel_rfl) (by kernel_rfl) (fun _ _ _ h => h) (Or.inl ⟨by rfl, ?_⟩) (by assumption) ?_
            rotate_left
            · (intro wS hSw; (try dsimp only at hSw); go_simp; (try with_reducible rfl))
            (try simp only [Act.put, List.setIfInBounds_toArray, List.set_cons_zero, List.set_cons_succ])
            refine wpAnyH_take (i := 6) (v := ?_) rfl (by kernel_rfl) (by kernel_rfl) (by kernel_rfl) (fun _ _ _ h => h) (Or.inl ⟨by rfl, ?_⟩) (by assumption) ?_
            rotate_left
            · (intro wS hSw; (try dsimp only at hSw); go_simp; (try with_reducible rfl))
            (try simp only [Act.put, List.setIfInBounds_toArray, List.set_cons_zero, List.set_cons_succ])
            refine wpAnyH_take (i := 7) (v := ?_) rfl (by kernel_rfl) (by kernel_rfl) (by kernel_rfl) (fun _ _ _ h => h) (Or.inl ⟨by rfl, ?_⟩) (by assumption) ?_
            rotate_left
            · (intro wS hSw; (try dsimp only at hSw); go_simp; (try with_reducible rfl))
            (try simp only [Act.put, List.setIfInBounds_toArray, List.set_cons_zero, List.set_cons_succ])
            refine wpAnyH_take (i := 8) (v := ?_) rfl (by kernel_rfl) (by kernel_rfl) (by kernel_rfl) (fun _ _ _ h => h) (Or.inl ⟨by rfl, ?_⟩) (by assumption) ?_
            rotate_left
            · (intro wS hSw; (try dsimp only at hSw); go_simp; (try with_reducible rfl))
            (try simp only [Act.put, List.setIfInBounds_toArray, List.set_cons_zero, List.set_cons_succ])
            refine wpAnyH_take (i := 9) (v := ?_) rfl (by kernel_rfl) (by kernel_rfl) (by kernel_rfl) (fun _ _ _ h => h) (Or.inl ⟨by rfl, ?_⟩) (by assumption) ?_
            rotate_left
            · (intro wS hSw; (try dsimp only at hSw); go_simp; (try with_reducible rfl))
            (try simp only [Act.put, List.setIfInBounds_toArray, List.set_cons_zero, List.set_cons_succ])
            refine wpAnyH_take (i := 10) (v := ?_) rfl (by kernel_rfl) (by kernel_rfl) (by kernel_rfl) (fun _ _ _ h => h) (Or.inl ⟨by rfl, ?_⟩) (by assumption) ?_
            rotate_left
            · (intro wS hSw; (try dsimp only at hSw); go_simp; (try with_reducible rfl))
            (try simp only [Act.put, List.setIfInBounds_toArray, List.set_cons_zero, List.set_cons_succ])
            refine wpAnyH_take (i := 11) (v := ?_) rfl (by kernel_rfl) (by kernel_rfl) (by kernel_rfl) (fun _ _ _ h => h) (Or.inl ⟨by rfl, ?_⟩) (by assumption) ?_
            rotate_left
            · (intro wS hSw; (try dsimp only at hSw); go_simp; (try with_reducible rfl))
            (try simp only [Act.put, List.setIfInBounds_toArray, List.set_cons_zero, List.set_cons_succ])
            refine wpAnyH_take (i := 12) (v := ?_) rfl (by kernel_rfl) (by kernel_rfl) (by kernel_rfl) (fun _ _ _ h => h) (Or.inl ⟨by rfl, ?_⟩) (by assumption) ?_
            rotate_left
            · (intro wS hSw; (try dsimp only at hSw); go_simp; (try with_reducible rfl))
            (try simp only [Act.put, List.setIfInBounds_toArray, List.set_cons_zero, List.set_cons_succ])
            refine wpAnyH_take (i := 13) (v := ?_) rfl (by kernel_rfl) (by kernel_rfl) (by kernel_rfl) (fun _ _ _ h => h) (Or.inl ⟨by rfl, ?_⟩) (by assumption) ?_
            rotate_left
            · (intro wS hSw; (try dsimp only at hSw); go_simp; (try with_reducible rfl))
            (try simp only [Act.put, List.setIfInBounds_toArray, List.set_cons_zero, List.set_cons_succ])
            refine wpAnyH_take (i := 14) (v := ?_) rfl (by kernel_rfl) (by kernel_rfl) (by kernel_rfl) (fun _ _ _ h => h) (Or.inl ⟨by rfl, ?_⟩) (by assumption) ?_
            rotate_left
            · (intro wS hSw; (try dsimp only at hSw); go_simp; (try with_reducible rfl))
            (try simp only [Act.put, List.setIfInBounds_toArray, List.set_cons_zero, List.set_cons_succ])
            refine wpAnyH_ready (rs := [15, 16]) (by kernel_rfl) (by simp) ?_
            refine AllReadyH.cons rfl (fun K hK => ?_) (AllReadyH.cons rfl (fun K hK => ?_) AllReadyH.nil)
            · go_simp
              refine hK.out _ _ ?_ (fun hH9 => ?_)
              · ((try dsimp only); go_keep)
              clear hK K
              (try simp only [Act.put, List.setIfInBounds_toArray, List.set_cons_zero, List.set_cons_succ])
              refine wpAnyH_ready (rs := [16]) (by kernel_rfl) (by simp) ?_
              refine AllReadyH.cons rfl (fun K hK => ?_) AllReadyH.nil
              go_simp
              go_at_call 11
              refine (HOF.out _).mono ?_
              rintro e' w4 ⟨hq, rfl⟩
              dsimp only
              have z0 := (hq.cell (p := ⟨wr.heap.size, 0, none⟩) (show wr.heap.size < wx.heap.size by omega)).trans hH9.1
              have z1 := (hq.cell (p := ⟨wr.heap.size, 2, none⟩) (show wr.heap.size < wx.heap.size by omega)).trans hH9.2.1
              have z2 := (hq.cell (p := ⟨mb, f, none⟩) (show mb < wx.heap.size by omega)).trans hH9.2.2
              refine hK.out _ _ ⟨z0, z1, z2⟩ (fun hH4 => ?_)
              clear hK K z0 z1 z2
              (try simp only [Act.put, List.setIfInBounds_toArray, List.set_cons_zero, List.set_cons_succ])
              have s4w : Below wx.heap.size wx w4 := ((Below.refl wx.heap.size wx).drew).trans hq
              have n4 := Blk.keep (w := wx.drew) HNB.out hq
              clear hq
              have hl4 := s4w.size
              refine wpAnyH_ready (rs := [17]) (by kernel_rfl) (by simp) ?_
              refine AllReadyH.cons rfl (fun K hK => ?_) AllReadyH.nil
              go_simp
              go_at_call 14
              refine (HADD.out _).mono ?_
              rintro e' w5 ⟨hq, rfl⟩
              dsimp only
              have z0 := (hq.cell (p := ⟨wr.heap.size, 0, none⟩) (show wr.heap.size < w4.heap.size by omega)).trans hH4.1
              have z1 := (hq.cell (p := ⟨wr.heap.size, 2, none⟩) (show wr.heap.size < w4.heap.size by omega)).trans hH4.2.1
              have z2 := (hq.cell (p := ⟨mb, f, none⟩) (show mb < w4.heap.size by omega)).trans hH4.2.2
              refine hK.out _ _ ⟨z0, z1, z2⟩ (fun hH5 => ?_)
              clear hK K z0 z1 z2
              (try simp only [Act.put, List.setIfInBounds_toArray, List.set_cons_zero, List.set_cons_succ])
              have s5w := s4w.trans (hq.mono s4w.size)
              have n5 := n4.keep hq
              have fr0 := n5.frozen (t * 2)
              have fr1 := n5.frozen (t * 2 + 1)
              have cn0 := n5.cell (civ_get hgx).1
              have cn1 := n5.cell (civ_get hgx).2
              have hput := HPUT.out _ s5w
              clear hq cN0 cN1
              have hl5 := s5w.size
              have HPT := Lib.hid hput; clear hput
              have S5 := Lib.hid s5w; clear s5w
              refine wpAnyH_take (i := 18) (v := ?_) rfl (by kernel_rfl) (by kernel_rfl) (by kernel_rfl) (fun _ _ _ h => h) (Or.inl ⟨by rfl, ?_⟩) (by assumption) ?_
              rotate_left
              · (intro wS hSw; (try dsimp only at hSw); go_simp; (try with_reducible rfl))
              (try simp only [Act.put, List.setIfInBounds_toArray, List.set_cons_zero, List.set_cons_succ])
              refine wpAnyH_ready (rs := [19]) (by kernel_rfl) (by simp) ?_
              refine AllReadyH.cons rfl (fun K hK => ?_) AllReadyH.nil
              go_simp
              refine hK.out _ _ ?_ (fun hH9 => ?_)
              · ((try dsimp only); go_keep)
              clear hK K
              (try simp only [Act.put, List.setIfInBounds_toArray, List.set_cons_zero, List.set_cons_succ])
              refine wpAnyH_done (by kernel_rfl) ?_ _
              (try simp only [List.getElem_toArray, List.getElem_cons_zero, List.getElem_cons_succ, Act.put, List.setIfInBounds_toArray, List.set_cons_zero, List.set_cons_succ])
              clear hH9
              go_wp2_with fail
              go_roundw
              case rel => exact ⟨q + 1, by omega, by go_num, ((HB5.out.trans (S5.out.mono HB5.out.size)).setCell (p := ⟨rb, t * 2, none⟩) hrb _).setCell (p := ⟨rb, t * 2 + 1, none⟩) hrb _, by rw [HSU.out]; exact HPT.out⟩
              case measure => simp [intOf]; omega
            · go_simp
              go_at_call 11
              refine (HOF.out _).mono ?_
              rintro e' w4 ⟨hq, rfl⟩
              dsimp only
              have z0 := (hq.cell (p := ⟨wr.heap.size, 0, none⟩) (show wr.heap.size < wx.heap.size by omega)).trans hHeld.1
              have z1 := (hq.cell (p := ⟨wr.heap.size, 2, none⟩) (show wr.heap.size < wx.heap.size by omega)).trans hHeld.2.1
              have z2 := (hq.cell (p := ⟨mb, f, none⟩) (show mb < wx.heap.size by omega)).trans hHeld.2.2
              refine hK.out _ _ ⟨z0, z1, z2⟩ (fun hH4 => ?_)
              clear hK K z0 z1 z2
              (try simp only [Act.put, List.setIfInBounds_toArray, List.set_cons_zero, List.set_cons_succ])
              have s4w : Below wx.heap.size wx w4 := ((Below.refl wx.heap.size wx).drew).trans hq
              have n4 := Blk.keep (w := wx.drew) HNB.out hq
              clear hq cN0 cN1
              have cN0 := n4.cell (civ_get hgx).1
              have cN1 := n4.cell (civ_get hgx).2
              have hl4 := s4w.size
              refine wpAnyH_ready (rs := [15]) (by kernel_rfl) (by simp) ?_
              refine AllReadyH.cons rfl (fun K hK => ?_) AllReadyH.nil
              go_simp
              refine hK.out _ _ ?_ (fun hH9 => ?_)
              · ((try dsimp only); go_keep)
              clear hK K
              (try simp only [Act.put, List.setIfInBounds_toArray, List.set_cons_zero, List.set_cons_succ])
              refine wpAnyH_ready (rs := [17]) (by kernel_rfl) (by simp) ?_
              refine AllReadyH.cons rfl (fun K hK => ?_) AllReadyH.nil
              go_simp
              go_at_call 14
              refine (HADD.out _).mono ?_
              rintro e' w5 ⟨hq, rfl⟩
              dsimp only
              have z0 := (hq.cell (p := ⟨wr.heap.size, 0, none⟩) (show wr.heap.size < w4.heap.size by omega)).trans hH9.1
              have z1 := (hq.cell (p := ⟨wr.heap.size, 2, none⟩) (show wr.heap.size < w4.heap.size by omega)).trans hH9.2.1
              have z2 := (hq.cell (p := ⟨mb, f, none⟩) (show mb < w4.heap.size by omega)).trans hH9.2.2
              refine hK.out _ _ ⟨z0, z1, z2⟩ (fun hH5 => ?_)
              clear hK K z0 z1 z2
              (try simp only [Act.put, List.setIfInBounds_toArray, List.set_cons_zero, List.set_cons_succ])
              have s5w := s4w.trans (hq.mono s4w.size)
              have n5 := n4.keep hq
              have fr0 := n5.frozen (t * 2)
              have fr1 := n5.frozen (t * 2 + 1)
              have cn0 := n5.cell (civ_get hgx).1
              have cn1 := n5.cell (civ_get hgx).2
              have hput := HPUT.out _ s5w
              clear hq cN0 cN1
              have hl5 := s5w.size
              have HPT := Lib.hid hput; clear hput
              have S5 := Lib.hid s5w; clear s5w
              refine wpAnyH_take (i := 18) (v := ?_) rfl (by kernel_rfl) (by kernel_rfl) (by kernel_rfl) (fun _ _ _ h => h) (Or.inl ⟨by rfl, ?_⟩) (by assumption) ?_
              rotate_left
              · (intro wS hSw; (try dsimp only at hSw); go_simp; (try with_reducible rfl))
              (try simp only [Act.put, List.setIfInBounds_toArray, List.set_cons_zero, List.set_cons_succ])
              refine wpAnyH_ready (rs := [19]) (by kernel_rfl) (by simp) ?_
              refine AllReadyH.cons rfl (fun K hK => ?_) AllReadyH.nil
              go_simp
              refine hK.out _ _ ?_ (fun hH9 => ?_)
              · ((try dsimp only); go_keep)
              clear hK K
              (try simp only [Act.put, List.setIfInBounds_toArray, List.set_cons_zero, List.set_cons_succ])
              refine wpAnyH_done (by kernel_rfl) ?_ _
              (try simp only [List.getElem_toArray, List.getElem_cons_zero, List.getElem_cons_succ, Act.put, List.setIfInBounds_toArray, List.set_cons_zero, List.set_cons_succ])
              clear hH9
              go_wp2_with fail
              go_roundw
              case rel => exact ⟨q + 1, by omega, by go_num, ((HB5.out.trans (S5.out.mono HB5.out.size)).setCell (p := ⟨rb, t * 2, none⟩) hrb _).setCell (p := ⟨rb, t * 2 + 1, none⟩) hrb _, by rw [HSU.out]; exact HPT.out⟩
              case measure => simp [intOf]; omega
          · have hqm : q = m := by omega
            rw [hqm, List.take_of_length_le (by rw [← HM.out]; exact Nat.le_refl _), HPO.out] at hmat
            have tq : decide ((q : Int) < (m : Int)) = false := by simp; omega
            have hmat0 := hmat.mono (Nat.zero_le _)
            have d1 := C0.out.below hbel G1L.out
            have hr2 := HR1.out.below hbel (Nat.le_refl _)
            have s2 := S1.out.trans (hbel.mono S1.out.size)
            have hpw := HPWQ.out mb wr hmat0
            have g8 : ((S : Int) != (S : Int)) = false := by simp
            have HPW := Lib.hid hpw; clear hpw
            have D1 := Lib.hid d1; clear d1
            have HR2 := Lib.hid hr2; clear hr2
            have S2 := Lib.hid s2; clear s2
            clear hmat hmat0 hbel hqm
            go_wp2_with fail
            go_at_call 22
            refine HPW.out.mono ?_
            rintro e w3 ⟨hq, pb, rfl, hP⟩
            have s3 := S2.out.trans (hq.mono S2.out.size)
            have hr3 := HR2.out.below hq (Nat.le_refl _)
            have d3 := D1.out.keep hq
            have x0 := d3.cell (j := 0) rfl
            have x1 := d3.cell (j := 1) rfl
            have x2 := d3.cell (j := 2) rfl
            have S3 := Lib.hid s3; clear s3
            have HR3 := Lib.hid hr3; clear hr3
            have D3 := Lib.hid d3; clear d3
            have HP3 := Lib.hid hP; clear hP
            clear hq
            go_wp2_with fail
            go_at_call 20
            refine (HFRQ.out _ HR3.out).mono ?_
            rintro e w4 ⟨hq, fb, rfl, hbr⟩
            have s4 := S3.out.trans (hq.mono S3.out.size)
            have hr4 := HR3.out.below hq (Nat.le_refl _)
            have d4 := D3.out.keep hq
            have hP4 := HP3.out.keep hq
            clear x0 x1 x2
            have x1 := d4.cell (j := 1) rfl
            have S4 := Lib.hid s4; clear s4
            have HR4 := Lib.hid hr4; clear hr4
            have D4 := Lib.hid d4; clear d4
            have HP4 := Lib.hid hP4; clear hP4
            have HBR4 := Lib.hid hbr; clear hbr
            clear hq
            go_wp2_with fail
            go_at_call 11
            refine (HOF0.out _).mono ?_
            rintro e w5 ⟨hq5, rfl⟩
            go_wp2_with fail
            go_at_call 11
            refine (HOF0.out _).mono ?_
            rintro e w6 ⟨hq6, rfl⟩
            have hq46 := hq5.trans (hq6.mono hq5.size)
            have s6 := S4.out.trans (hq46.mono S4.out.size)
            have hr6 := HR4.out.below hq46 (Nat.le_refl _)
            have d6 := D4.out.keep hq46
            have hP6 := HP4.out.keep hq46
            have hbr6 := HBR4.out.keep hq46
            clear x1 hq5 hq6 hq46
            have S6 := Lib.hid s6; clear s6
            have HR6 := Lib.hid hr6; clear hr6
            have D6 := Lib.hid d6; clear d6
            have hP6' := hP6
            have HP6 := Lib.hid hP6; clear hP6
            have HBR6 := Lib.hid hbr6; clear hbr6
            have hTl := matB_tab hP6' (by omega) (by omega)
            have b14 := (Blk.new w6 28 [.bool false, .string ⟨#[]⟩]).alloc (.cells #[.bool false, .string ⟨#[]⟩] 28)
            have b15 := Blk.new (w6.alloc (.cells #[.bool false, .string ⟨#[]⟩] 28)) 28 [.bool false, .string ⟨#[]⟩]
            simp only [World.size_alloc] at b15
            have sZ := ((Below.refl w6.heap.size w6).alloc (Nat.le_refl _) (.cells #[.bool false, .string ⟨#[]⟩] 28)).alloc (by simp) (.cells #[.bool false, .string ⟨#[]⟩] 28)
            have hgl6 := D6.out.lt
            have hfl6 := HBR6.out.lt
            have HTL := Lib.hid hTl; clear hTl
            have B14 := Lib.hid b14; clear b14
            have B15 := Lib.hid b15; clear b15
            have SZ := Lib.hid sZ; clear sZ
            have hz0 := ineg_zero
            have hz1 := imag_zero
            go_wp2_with fail
            clear hz0 hz1
            go_loopw [117] (fun i wr => ∃ i' : Nat, i' ≤ S ∧ i = .int .i64 (i' : Int) ∧ Below w6.heap.size w6 wr ∧ Blk wr w6.heap.size 28 [.bool (ineg (trP es n i')), .string (imag (trP es n i'))] ∧ Blk wr (w6.heap.size + 1) 28 [.bool (ineg (totS es n i')), .string (imag (totS es n i'))]) (fun i _ => S - (intOf i).toNat)
            case atStart => exact ⟨0, Nat.zero_le _, rfl, SZ.out, by rw [show trP es n 0 = 0 from rfl, ineg_zero, imag_zero]; exact B14.out, by rw [show totS es n 0 = 0 from rfl, ineg_zero, imag_zero]; exact B15.out⟩
            case round =>
              obtain ⟨i, hi, rfl, hbel, hA, hB⟩ := hrel
              obtain ⟨wo, rfl⟩ : ∃ wo : World, wo = wr := ⟨_, rfl⟩
              have hszo := hbel.size
              have hAl := hA.lt
              have hBl := hB.lt
              by_cases hiS : i < S
              · have ti : decide ((i : Int) < (S : Int)) = true := by simp; omega
                obtain ⟨rvs, p1, p2, p3⟩ := HTL.out
                rw [matF_length] at p2
                obtain ⟨b6, o6, he6, hb6, hc6⟩ := p2.at_ (by omega)
                obtain ⟨rfl, rfl⟩ : pb = b6 ∧ 0 = o6 := by simpa using he6
                obtain ⟨rv, k1, k2⟩ := p3 i _ (matF_get hiS)
                obtain ⟨ra, rc, rfl, -⟩ := k2.slice
                rw [List.length_map, List.length_range] at k2 k1
                obtain ⟨rb, ro, rfl, hrb, hcr⟩ := k2.at_ (by omega)
                have c0 := (hbel.cell (p := ⟨pb, 0 + i, none⟩) hb6).trans (hc6 i _ k1)
                rw [Nat.zero_add] at c0
                have dO := D6.out.below hbel hgl6
                have x1 := dO.cell (j := 1) rfl
                have hix1 : (0 : Int) ≤ (i : Int) := by omega
                have hix2 : (i : Int) < (S : Int) := by omega
                have HCR := Lib.hid hcr; clear hcr
                have HBEL := Lib.hid hbel; clear hbel
                have HA := Lib.hid hA; clear hA
                have HB := Lib.hid hB; clear hB
                clear p1 p2 p3 hc6 k1 k2 he6 dO
                go_wp2_with fail
                go_at_call 11
                refine (HOF0.out _).mono ?_
                rintro e w7 ⟨hq, rfl⟩
                have hb7 := HBEL.out.trans (hq.mono hszo)
                have hA7 := HA.out.keep hq
                have hB7 := HB.out.keep hq
                have hsz7 := hq.size
                have bD := Blk.new w7 28 [.bool (ineg 0), .string (imag 0)]
                have sD := (Below.refl w7.heap.size w7).alloc (Nat.le_refl _) (.cells #[.bool (ineg 0), .string (imag 0)] 28)
                have HB7 := Lib.hid hb7; clear hb7
                have HA7 := Lib.hid hA7; clear hA7
                have HBB7 := Lib.hid hB7; clear hB7
                have BD := Lib.hid bD; clear bD
                have SD := Lib.hid sD; clear sD
                clear hq x1 c0
                go_wp2_with fail
                go_loopw [130] (fun x wv => ∃ j : Nat, j ≤ S ∧ x = .int .i64 (j : Int) ∧ Below w7.heap.size w7 wv ∧ Blk wv w7.heap.size 28 [.bool (ineg (rowS es n i j)), .string (imag (rowS es n i j))]) (fun x _ => S - (intOf x).toNat)
                case atStart => exact ⟨0, Nat.zero_le _, rfl, SD.out, BD.out⟩
                case round =>
                  obtain ⟨j, hj, rfl, hbe, hblk⟩ := hrel
                  obtain ⟨wv, rfl⟩ : ∃ wv : World, wv = wr := ⟨_, rfl⟩
                  have hszv := hbe.size
                  have hbl := hblk.lt
                  have hb6v := HB7.out.trans (hbe.mono (by omega))
                  by_cases hjS : j < S
                  · have tj : decide ((j : Int) < (S : Int)) = true := by simp; omega
                    have hpq := HPAQ.out i j hiS hjS
                    have hz : ((List.range S).map (pwF es n i))[j]? = some (pwF es n i j) := by simp [hjS]
                    have hsu := rowS_succ es n i j
                    have sM := rowS_sm hl n i j (by omega)
                    have sX := pw_sm hl n i j
                    rw [pth_eq] at hpq
                    obtain ⟨X, hX⟩ : ∃ X, X = pwF es n i j := ⟨_, rfl⟩
                    have hX2 : cw es (ind (j : Int)) n (i : Int) = X := hX.symm
                    rw [hX2] at hpq
                    rw [← hX] at hz hsu sX
                    obtain ⟨M, hM⟩ : ∃ M, M = rowS es n i j := ⟨_, rfl⟩
                    rw [← hM] at hsu sM hblk
                    have hMS := hsu.symm
                    have hadd := fun w' => iadd_any (ineg M) (ineg X) (imag M) (imag X) w' (Nat.le_trans sM.size (by omega)) (Nat.le_trans sX.size (by omega))
                    simp only [ival_canon] at hadd
                    have hneq : ∀ w', (binOp .neq 28 (.agg #[.bool (ineg X), .string (imag X)]) (.agg #[.bool (ineg X), .string (imag X)])).run Try.prog w' = .ok (.bool false) w' := fun w' => neqI_self X w'
                    obtain ⟨q0, q1⟩ := int_cells HCR.out hb6v hrb hz
                    have bX := Blk.new wv 28 [.bool (ineg X), .string (imag X)]
                    have sX1 := (Below.refl wv.heap.size wv).alloc (Nat.le_refl _) (.cells #[.bool (ineg X), .string (imag X)] 28)
                    have dX := (D6.out.below hb6v hgl6).keep sX1
                    have hrX := HR6.out.below (hb6v.trans (sX1.mono (by omega))) (Nat.le_refl _)
                    have kX := hblk.keep sX1
                    have hbX := hbe.trans (sX1.mono hszv)
                    have x0 := dX.cell (j := 0) rfl
                    have x1 := dX.cell (j := 1) rfl
                    have x2 := dX.cell (j := 2) rfl
                    have hjx1 : (0 : Int) ≤ (j : Int) := by omega
                    have hjx2 : (j : Int) < (S : Int) := by omega
                    have HPQ := Lib.hid hpq; clear hpq
                    have HMS := Lib.hid hMS; clear hMS
                    have HADD := Lib.hid hadd; clear hadd
                    have BX := Lib.hid bX; clear bX
                    have DX := Lib.hid dX; clear dX
                    have HRX := Lib.hid hrX; clear hrX
                    have KX := Lib.hid kX; clear kX
                    have HBX := Lib.hid hbX; clear hbX
                    clear hz hsu sM sX hX hX2 hM hblk hbe hb6v sX1
                    go_wp2_with fail
                    go_at_call 17
                    refine (HPQ.out _ HRX.out).mono ?_
                    rintro e w8 ⟨hq, rfl⟩
                    have bY := Blk.new w8 28 [.bool (ineg X), .string (imag X)]
                    have hqa := hq.alloc hq.size (.cells #[.bool (ineg X), .string (imag X)] 28)
                    have kY := KX.out.keep hqa
                    have bX2 := BX.out.keep hqa
                    have hbY := HBX.out.trans (hqa.mono HBX.out.size)
                    have c0 := kY.cell (j := 0) rfl
                    have c1 := kY.cell (j := 1) rfl
                    have u0 := bX2.cell (j := 0) rfl
                    have u1 := bX2.cell (j := 1) rfl
                    have v0 := bY.cell (j := 0) rfl
                    have v1 := bY.cell (j := 1) rfl
                    have KY := Lib.hid kY; clear kY
                    have HBY := Lib.hid hbY; clear hbY
                    clear hq hqa bX2 bY x0 x1 x2 q0 q1
                    go_wp2_with fail
                    go_at_call 14
                    refine (HADD.out _).mono ?_
                    rintro e w9 ⟨hq, rfl⟩
                    have k9 := KY.out.keep hq
                    have hb9 := HBY.out.trans (hq.mono HBY.out.size)
                    have f0 := k9.frozen 0
                    have f1 := k9.frozen 1
                    have d0 := k9.cell (j := 0) rfl
                    have d1 := k9.cell (j := 1) rfl
                    have k10 := (k9.set 0 (.bool (ineg (M + X)))).set 1 (.string (imag (M + X)))
                    have K10 := Lib.hid k10; clear k10
                    have HB9 := Lib.hid hb9; clear hb9
                    clear hq k9 c0 c1 u0 u1 v0 v1
                    go_wp2_with fail
                    go_roundw
                    case rel => exact ⟨j + 1, by omega, by go_num, (HB9.out.setCell (p := ⟨w7.heap.size, 0, none⟩) (Nat.le_refl _) _).setCell (p := ⟨w7.heap.size, 1, none⟩) (Nat.le_refl _) _, by rw [← HMS.out]; exact K10.out⟩
                    case measure => simp [intOf]; omega
                  · have hjS2 : j = S := by omega
                    have tj : decide ((j : Int) < (S : Int)) = false := by simp; omega
                    rw [hjS2, show rowS es n i S = cw es allP n (i : Int) from (HALL.out i hiS).symm] at hblk
                    have hgr : (rowK es S allP n)[i]? = some (cw es allP n (i : Int)) := rowK_get hiS
                    have hts := totS_succ es n i
                    have htr := trP_succ es n i
                    have sR := cw_sm hl allP n (i : Int)
                    have sT := totS_sm hl n i (by omega)
                    have sU := trP_sm hl n i (by omega)
                    have sX := pw_sm hl n i i
                    have hz : ((List.range S).map (pwF es n i))[i]? = some (pwF es n i i) := by simp [hiS]
                    obtain ⟨X, hX⟩ : ∃ X, X = pwF es n i i := ⟨_, rfl⟩
                    rw [← hX] at htr sX hz
                    obtain ⟨R, hR⟩ : ∃ R, R = cw es allP n (i : Int) := ⟨_, rfl⟩
                    rw [← hR] at hblk hgr hts sR
                    obtain ⟨T, hT⟩ : ∃ T, T = totS es n i := ⟨_, rfl⟩
                    obtain ⟨U, hU⟩ : ∃ U, U = trP es n i := ⟨_, rfl⟩
                    have hA8 := HA7.out.below hbe (by omega)
                    have hB8 := HBB7.out.below hbe (by omega)
                    rw [← hT] at hts sT hB8
                    rw [← hU] at htr sU hA8
                    have htr2 := htr.symm
                    have hts2 := hts.symm
                    have hadd1 := fun w' => iadd_any (ineg U) (ineg X) (imag U) (imag X) w' (Nat.le_trans sU.size (by omega)) (Nat.le_trans sX.size (by omega))
                    simp only [ival_canon] at hadd1
                    have hadd2 := fun w' => iadd_any (ineg T) (ineg R) (imag T) (imag R) w' (Nat.le_trans sT.size (by omega)) (Nat.le_trans sR.size (by omega))
                    simp only [ival_canon] at hadd2
                    have hneq : ∀ w', (binOp .neq 28 (.agg #[.bool (ineg R), .string (imag R)]) (.agg #[.bool (ineg R), .string (imag R)])).run Try.prog w' = .ok (.bool false) w' := fun w' => neqI_self R w'
                    have br8 := HBR6.out.below hb6v hfl6
                    obtain ⟨q0, q1⟩ := int_cells HCR.out hb6v hrb hz
                    have y0 := br8.cell (civ_get hgr).1
                    have y1 := br8.cell (civ_get hgr).2
                    have c0 := hblk.cell (j := 0) rfl
                    have c1 := hblk.cell (j := 1) rfl
                    have hfv : fb < wv.heap.size := by omega
                    have hrv : rb < wv.heap.size := by omega
                    have HTR := Lib.hid htr2; clear htr2
                    have HTS := Lib.hid hts2; clear hts2
                    have HAD1 := Lib.hid hadd1; clear hadd1
                    have HAD2 := Lib.hid hadd2; clear hadd2
                    have HA8 := Lib.hid hA8; clear hA8
                    have HB8 := Lib.hid hB8; clear hB8
                    have HB6V := Lib.hid hb6v; clear hb6v
                    have HBLK := Lib.hid hblk; clear hblk
                    clear hts htr sR sT sU sX hz hX hR hT hU hbe br8 hgr hjS2
                    go_wp2_with fail
                    refine wp_region_held_drew (S := fun w' => w'.cell? ⟨w7.heap.size, 0, none⟩ = some (.bool (ineg R)) ∧ w'.cell? ⟨w7.heap.size, 1, none⟩ = some (.string (imag R)) ∧ w'.cell? ⟨fb, i * 2, none⟩ = some (.bool (ineg R)) ∧ w'.cell? ⟨fb, i * 2 + 1, none⟩ = some (.string (imag R))) (by kernel_rfl) ?_ (fun hHeld => ?_)
                    · go_keep
                    refine wpAnyH_take (i := 0) (v := ?_) rfl (by kernel_rfl) (by kernel_rfl) (by kernel_rfl) (fun _ _ _ h => h) (Or.inl ⟨by rfl, ?_⟩) (by assumption) ?_
                    rotate_left
                    · (intro wS hSw; (try dsimp only at hSw); go_simp; (try with_reducible rfl))
                    (try simp only [Act.put, List.setIfInBounds_toArray, List.set_cons_zero, List.set_cons_succ])
                    refine wpAnyH_take (i := 1) (v := ?_) rfl (by kernel_rfl) (by kernel_rfl) (by kernel_rfl) (fun _ _ _ h => h) (Or.inl ⟨by rfl, ?_⟩) (by assumption) ?_
                    rotate_left
                    · (intro wS hSw; (try dsimp only at hSw); go_simp; (try with_reducible rfl))
                    (try simp only [Act.put, List.setIfInBounds_toArray, List.set_cons_zero, List.set_cons_succ])
                    refine wpAnyH_take (i := 2) (v := ?_) rfl (by kernel_rfl) (by kernel_rfl) (by kernel_rfl) (fun _ _ _ h => h) (Or.inl ⟨by rfl, ?_⟩) (by assumption) ?_
                    rotate_left
                    · (intro wS hSw; (try dsimp only at hSw); go_simp; (try with_reducible rfl))
                    (try simp only [Act.put, List.setIfInBounds_toArray, List.set_cons_zero, List.set_cons_succ])
                    refine wpAnyH_take (i := 3) (v := ?_) rfl (by kernel_rfl) (by kernel_rfl) (by kernel_rfl) (fun _ _ _ h => h) (Or.inl ⟨by rfl, ?_⟩) (by assumption) ?_
                    rotate_left
                    · (intro wS hSw; (try dsimp only at hSw); go_simp; (try with_reducible rfl))
                    (try simp only [Act.put, List.setIfInBounds_toArray, List.set_cons_zero, List.set_cons_succ])
                    refine wpAnyH_take (i := 4) (v := ?_) rfl (by kernel_rfl) (by kernel_rfl) (by kernel_rfl) (fun _ _ _ h => h) (Or.inl ⟨by rfl, ?_⟩) (by assumption) ?_
                    rotate_left
                    · (intro wS hSw; (try dsimp only at hSw); go_simp; (try with_reducible rfl))
                    (try simp only [Act.put, List.setIfInBounds_toArray, List.set_cons_zero, List.set_cons_succ])
                    refine wpAnyH_take (i := 5) (v := ?_) rfl (by kernel_rfl) (by kernel_rfl) (by kernel_rfl) (fun _ _ _ h => h) (Or.inl ⟨by rfl, ?_⟩) (by assumption) ?_
                    rotate_left
                    · (intro wS hSw; (try dsimp only at hSw); go_simp; (try with_reducible rfl))
                    (try simp only [Act.put, List.setIfInBounds_toArray, List.set_cons_zero, List.set_cons_succ])
                    refine wpAnyH_done (by kernel_rfl) ?_ _
                    (try simp only [List.getElem_toArray, List.getElem_cons_zero, List.getElem_cons_succ, Act.put, List.setIfInBounds_toArray, List.set_cons_zero, List.set_cons_succ])
                    clear y0 y1 hHeld
                    obtain ⟨V, hV⟩ : ∃ V, V = wv.drew := ⟨_, rfl⟩
                    have q0' : V.cell? ⟨rb, ro + i * 2, none⟩ = some (.bool (ineg X)) := by rw [hV]; exact q0
                    have q1' : V.cell? ⟨rb, ro + i * 2 + 1, none⟩ = some (.string (imag X)) := by rw [hV]; exact q1
                    have c0' : V.cell? ⟨w7.heap.size, 0, none⟩ = some (.bool (ineg R)) := by rw [hV]; exact c0
                    have c1' : V.cell? ⟨w7.heap.size, 1, none⟩ = some (.string (imag R)) := by rw [hV]; exact c1
                    have nA9 : Blk V w6.heap.size 28 [.bool (ineg U), .string (imag U)] := by rw [hV]; exact HA8.out.drew
                    have nB9 : Blk V (w6.heap.size + 1) 28 [.bool (ineg T), .string (imag T)] := by rw [hV]; exact HB8.out.drew
                    have hBV : Below w6.heap.size w6 V := by rw [hV]; exact HB6V.out.drew
                    have hVs : V.heap.size = wv.heap.size := by rw [hV]; rfl
                    (try rw [← hV])
                    clear hV c0 c1 q0 q1
                    have cA0 := nA9.cell (j := 0) rfl
                    have cA1 := nA9.cell (j := 1) rfl
                    have cB0 := nB9.cell (j := 0) rfl
                    have cB1 := nB9.cell (j := 1) rfl
                    have fA0 := nA9.frozen 0
                    have fA1 := nA9.frozen 1
                    have fB0 := nB9.frozen 0
                    have fB1 := nB9.frozen 1
                    have nA := nA9.drew
                    have nB := nB9.drew
                    have sV := (Below.refl V.heap.size V).drew
                    have HBV := Lib.hid hBV; clear hBV
                    clear nA9 nB9
                    have hAV : w6.heap.size + 1 < V.heap.size := by omega
                    have hrV : rb < V.heap.size := by omega
                    have hDV : w7.heap.size < V.heap.size := by omega
                    have neAB : ¬ w6.heap.size = w6.heap.size + 1 := by omega
                    have neBA : ¬ w6.heap.size + 1 = w6.heap.size := by omega
                    have m1 : ¬ w6.heap.size = w7.heap.size := by omega
                    have m2 : ¬ w7.heap.size = w6.heap.size := by omega
                    have m3 : ¬ w6.heap.size + 1 = w7.heap.size := by omega
                    have m4 : ¬ w7.heap.size = w6.heap.size + 1 := by omega
                    have m5 : ¬ w6.heap.size = rb := by omega
                    have m6 : ¬ rb = w6.heap.size := by omega
                    have m7 : ¬ w6.heap.size + 1 = rb := by omega
                    have m8 : ¬ rb = w6.heap.size + 1 := by omega
                    clear hVs
                    go_wp2_with fail
                    refine wp_region_held_drew (S := fun w' => w'.cell? ⟨rb, ro + i * 2, none⟩ = some (.bool (ineg X)) ∧ w'.cell? ⟨rb, ro + i * 2 + 1, none⟩ = some (.string (imag X)) ∧ w'.cell? ⟨w7.heap.size, 0, none⟩ = some (.bool (ineg R)) ∧ w'.cell? ⟨w7.heap.size, 1, none⟩ = some (.string (imag R))) (by kernel_rfl) ?_ (fun hHeld => ?_)
                    · go_keep
                    refine wpAnyH_take (i := 1) (v := ?_) rfl (by kernel_rfl) (by kernel_rfl) (by kernel_rfl) (fun _ _ _ h => h) (Or.inl ⟨by rfl, ?_⟩) (by assumption) ?_
                    rotate_left
                    · (intro wS hSw; (try dsimp only at hSw); go_simp; (try with_reducible rfl))
                    (try simp only [Act.put, List.setIfInBounds_toArray, List.set_cons_zero, List.set_cons_succ])
                    refine wpAnyH_take (i := 2) (v := ?_) rfl (by kernel_rfl) (by kernel_rfl) (by kernel_rfl) (fun _ _ _ h => h) (Or.inl ⟨by rfl, ?_⟩) (by assumption) ?_
                    rotate_left
                    · (intro wS hSw; (try dsimp only at hSw); go_simp; (try with_reducible rfl))
                    (try simp only [Act.put, List.setIfInBounds_toArray, List.set_cons_zero, List.set_cons_succ])
                    refine wpAnyH_take (i := 3) (v := ?_) rfl (by kernel_rfl) (by kernel_rfl) (by kernel_rfl) (fun _ _ _ h => h) (Or.inl ⟨by rfl, ?_⟩) (by assumption) ?_
                    rotate_left
                    · (intro wS hSw; (try dsimp only at hSw); go_simp; (try with_reducible rfl))
                    (try simp only [Act.put, List.setIfInBounds_toArray, List.set_cons_zero, List.set_cons_succ])
                    refine wpAnyH_take (i := 4) (v := ?_) rfl (by kernel_rfl) (by kernel_rfl) (by kernel_rfl) (fun _ _ _ h => h) (Or.inl ⟨by rfl, ?_⟩) (by assumption) ?_
                    rotate_left
                    · (intro wS hSw; (try dsimp only at hSw); go_simp; (try with_reducible rfl))
                    (try simp only [Act.put, List.setIfInBounds_toArray, List.set_cons_zero, List.set_cons_succ])
                    refine wpAnyH_take (i := 7) (v := ?_) rfl (by kernel_rfl) (by kernel_rfl) (by kernel_rfl) (fun _ _ _ h => h) (Or.inl ⟨by rfl, ?_⟩) (by assumption) ?_
                    rotate_left
                    · (intro wS hSw; (try dsimp only at hSw); go_simp; (try with_reducible rfl))
                    (try simp only [Act.put, List.setIfInBounds_toArray, List.set_cons_zero, List.set_cons_succ])
                    refine wpAnyH_ready (rs := [0, 6]) (by kernel_rfl) (by simp) ?_
                    refine AllReadyH.cons rfl (fun K hK => ?_) (AllReadyH.cons rfl (fun K hK => ?_) (AllReadyH.nil))
                    · go_simp
                      refine hK.out _ _ ?_ (fun hH1 => ?_)
                      · ((try dsimp only); go_keep)
                      clear hK K
                      (try simp only [Act.put, List.setIfInBounds_toArray, List.set_cons_zero, List.set_cons_succ])
                      refine wpAnyH_ready (rs := [5, 6]) (by kernel_rfl) (by simp) ?_
                      refine AllReadyH.cons rfl (fun K hK => ?_) (AllReadyH.cons rfl (fun K hK => ?_) (AllReadyH.nil))
                      · go_simp
                        go_at_call 14
                        refine (HAD1.out _).mono ?_
                        rintro e' wa2 ⟨hq, rfl⟩
                        dsimp only
                        have z0 := (hq.cell (p := ⟨rb, ro + i * 2, none⟩) (show rb < V.heap.size by omega)).trans hH1.1
                        have z1 := (hq.cell (p := ⟨rb, ro + i * 2 + 1, none⟩) (show rb < V.heap.size by omega)).trans hH1.2.1
                        have z2 := (hq.cell (p := ⟨w7.heap.size, 0, none⟩) (show w7.heap.size < V.heap.size by omega)).trans hH1.2.2.1
                        have z3 := (hq.cell (p := ⟨w7.heap.size, 1, none⟩) (show w7.heap.size < V.heap.size by omega)).trans hH1.2.2.2
                        refine hK.out _ _ ⟨z0, z1, z2, z3⟩ (fun hH3 => ?_)
                        clear hK K z0  z1  z2  z3
                        (try simp only [Act.put, List.setIfInBounds_toArray, List.set_cons_zero, List.set_cons_succ])
                        have sa4 : Below V.heap.size V wa2 := sV.trans (hq.mono sV.size)
                        have nA5 := Blk.keep (w := V.drew) nA hq
                        have nB6 := Blk.keep (w := V.drew) nB hq
                        clear hq
                        have hlwa2 : V.heap.size ≤ wa2.heap.size := sa4.size
                        clear cA0 cA1
                        have cA0 := nA5.cell (j := 0) rfl
                        have cA1 := nA5.cell (j := 1) rfl
                        have fA0 := nA5.frozen 0
                        have fA1 := nA5.frozen 1
                        clear cB0 cB1
                        have cB0 := nB6.cell (j := 0) rfl
                        have cB1 := nB6.cell (j := 1) rfl
                        have fB0 := nB6.frozen 0
                        have fB1 := nB6.frozen 1
                        refine wpAnyH_ready (rs := [6]) (by kernel_rfl) (by simp) ?_
                        refine AllReadyH.cons rfl (fun K hK => ?_) AllReadyH.nil
                        go_simp
                        refine hK.out _ _ ?_ (fun hH7 => ?_)
                        · ((try dsimp only); go_keep)
                        clear hK K
                        (try simp only [Act.put, List.setIfInBounds_toArray, List.set_cons_zero, List.set_cons_succ])
                        refine wpAnyH_ready (rs := [8]) (by kernel_rfl) (by simp) ?_
                        refine AllReadyH.cons rfl (fun K hK => ?_) AllReadyH.nil
                        go_simp
                        go_at_call 14
                        refine (HAD2.out _).mono ?_
                        rintro e' wa8 ⟨hq, rfl⟩
                        dsimp only
                        have z0 := (hq.cell (p := ⟨rb, ro + i * 2, none⟩) (show rb < wa2.heap.size by omega)).trans hH7.1
                        have z1 := (hq.cell (p := ⟨rb, ro + i * 2 + 1, none⟩) (show rb < wa2.heap.size by omega)).trans hH7.2.1
                        have z2 := (hq.cell (p := ⟨w7.heap.size, 0, none⟩) (show w7.heap.size < wa2.heap.size by omega)).trans hH7.2.2.1
                        have z3 := (hq.cell (p := ⟨w7.heap.size, 1, none⟩) (show w7.heap.size < wa2.heap.size by omega)).trans hH7.2.2.2
                        refine hK.out _ _ ⟨z0, z1, z2, z3⟩ (fun hH9 => ?_)
                        clear hK K z0  z1  z2  z3
                        (try simp only [Act.put, List.setIfInBounds_toArray, List.set_cons_zero, List.set_cons_succ])
                        have sa10 : Below V.heap.size V wa8 := sa4.trans (hq.mono sa4.size)
                        have nA11 := Blk.keep (w := wa2) nA5 hq
                        have nB12 := Blk.keep (w := wa2) nB6 hq
                        clear hq
                        have hlwa8 : V.heap.size ≤ wa8.heap.size := sa10.size
                        clear cA0 cA1
                        have cA0 := nA11.cell (j := 0) rfl
                        have cA1 := nA11.cell (j := 1) rfl
                        have fA0 := nA11.frozen 0
                        have fA1 := nA11.frozen 1
                        clear cB0 cB1
                        have cB0 := nB12.cell (j := 0) rfl
                        have cB1 := nB12.cell (j := 1) rfl
                        have fB0 := nB12.frozen 0
                        have fB1 := nB12.frozen 1
                        refine wpAnyH_ready (rs := [9]) (by kernel_rfl) (by simp) ?_
                        refine AllReadyH.cons rfl (fun K hK => ?_) AllReadyH.nil
                        go_simp
                        refine hK.out _ _ ?_ (fun hH13 => ?_)
                        · ((try dsimp only); go_keep)
                        clear hK K
                        (try simp only [Act.put, List.setIfInBounds_toArray, List.set_cons_zero, List.set_cons_succ])
                        refine wpAnyH_ready (rs := [10]) (by kernel_rfl) (by simp) ?_
                        refine AllReadyH.cons rfl (fun K hK => ?_) AllReadyH.nil
                        go_simp
                        refine hK.out _ _ ?_ (fun hH14 => ?_)
                        · ((try dsimp only); go_keep)
                        clear hK K
                        (try simp only [Act.put, List.setIfInBounds_toArray, List.set_cons_zero, List.set_cons_succ])
                        refine wpAnyH_done (by kernel_rfl) ?_ _
                        (try simp only [List.getElem_toArray, List.getElem_cons_zero, List.getElem_cons_succ, Act.put, List.setIfInBounds_toArray, List.set_cons_zero, List.set_cons_succ])
                        go_wp2_with fail
                        go_roundw
                        case rel => exact ⟨i + 1, by omega, by go_num, ((((((HBV.out.trans (sa10.mono HBV.out.size))).setCell (p := ⟨w6.heap.size, 0, none⟩) (Nat.le_refl _) (.bool (ineg (U + X)))).setCell (p := ⟨w6.heap.size, 1, none⟩) (Nat.le_refl _) (.string (imag (U + X)))).setCell (p := ⟨w6.heap.size + 1, 0, none⟩) (Nat.le_succ _) (.bool (ineg (T + R)))).setCell (p := ⟨w6.heap.size + 1, 1, none⟩) (Nat.le_succ _) (.string (imag (T + R)))), by rw [← HTR.out]; exact ((((nA11.set 0 (.bool (ineg (U + X)))).set 1 (.string (imag (U + X)))).setOther (a := ⟨w6.heap.size + 1, 0, none⟩) neBA (.bool (ineg (T + R)))).setOther (a := ⟨w6.heap.size + 1, 1, none⟩) neBA (.string (imag (T + R)))), by rw [← HTS.out]; exact ((((nB12.setOther (a := ⟨w6.heap.size, 0, none⟩) neAB (.bool (ineg (U + X)))).setOther (a := ⟨w6.heap.size, 1, none⟩) neAB (.string (imag (U + X)))).set 0 (.bool (ineg (T + R)))).set 1 (.string (imag (T + R))))⟩
                        case measure => simp [intOf]; omega
                      · go_simp
                        refine hK.out _ _ ?_ (fun hH15 => ?_)
                        · ((try dsimp only); go_keep)
                        clear hK K
                        (try simp only [Act.put, List.setIfInBounds_toArray, List.set_cons_zero, List.set_cons_succ])
                        refine wpAnyH_ready (rs := [5]) (by kernel_rfl) (by simp) ?_
                        refine AllReadyH.cons rfl (fun K hK => ?_) AllReadyH.nil
                        go_simp
                        go_at_call 14
                        refine (HAD1.out _).mono ?_
                        rintro e' wa16 ⟨hq, rfl⟩
                        dsimp only
                        have z0 := (hq.cell (p := ⟨rb, ro + i * 2, none⟩) (show rb < V.heap.size by omega)).trans hH15.1
                        have z1 := (hq.cell (p := ⟨rb, ro + i * 2 + 1, none⟩) (show rb < V.heap.size by omega)).trans hH15.2.1
                        have z2 := (hq.cell (p := ⟨w7.heap.size, 0, none⟩) (show w7.heap.size < V.heap.size by omega)).trans hH15.2.2.1
                        have z3 := (hq.cell (p := ⟨w7.heap.size, 1, none⟩) (show w7.heap.size < V.heap.size by omega)).trans hH15.2.2.2
                        refine hK.out _ _ ⟨z0, z1, z2, z3⟩ (fun hH17 => ?_)
                        clear hK K z0  z1  z2  z3
                        (try simp only [Act.put, List.setIfInBounds_toArray, List.set_cons_zero, List.set_cons_succ])
                        have sa18 : Below V.heap.size V wa16 := sV.trans (hq.mono sV.size)
                        have nA19 := Blk.keep (w := V.drew) nA hq
                        have nB20 := Blk.keep (w := V.drew) nB hq
                        clear hq
                        have hlwa16 : V.heap.size ≤ wa16.heap.size := sa18.size
                        clear cA0 cA1
                        have cA0 := nA19.cell (j := 0) rfl
                        have cA1 := nA19.cell (j := 1) rfl
                        have fA0 := nA19.frozen 0
                        have fA1 := nA19.frozen 1
                        clear cB0 cB1
                        have cB0 := nB20.cell (j := 0) rfl
                        have cB1 := nB20.cell (j := 1) rfl
                        have fB0 := nB20.frozen 0
                        have fB1 := nB20.frozen 1
                        refine wpAnyH_ready (rs := [8]) (by kernel_rfl) (by simp) ?_
                        refine AllReadyH.cons rfl (fun K hK => ?_) AllReadyH.nil
                        go_simp
                        go_at_call 14
                        refine (HAD2.out _).mono ?_
                        rintro e' wa21 ⟨hq, rfl⟩
                        dsimp only
                        have z0 := (hq.cell (p := ⟨rb, ro + i * 2, none⟩) (show rb < wa16.heap.size by omega)).trans hH17.1
                        have z1 := (hq.cell (p := ⟨rb, ro + i * 2 + 1, none⟩) (show rb < wa16.heap.size by omega)).trans hH17.2.1
                        have z2 := (hq.cell (p := ⟨w7.heap.size, 0, none⟩) (show w7.heap.size < wa16.heap.size by omega)).trans hH17.2.2.1
                        have z3 := (hq.cell (p := ⟨w7.heap.size, 1, none⟩) (show w7.heap.size < wa16.heap.size by omega)).trans hH17.2.2.2
                        refine hK.out _ _ ⟨z0, z1, z2, z3⟩ (fun hH22 => ?_)
                        clear hK K z0  z1  z2  z3
                        (try simp only [Act.put, List.setIfInBounds_toArray, List.set_cons_zero, List.set_cons_succ])
                        have sa23 : Below V.heap.size V wa21 := sa18.trans (hq.mono sa18.size)
                        have nA24 := Blk.keep (w := wa16) nA19 hq
                        have nB25 := Blk.keep (w := wa16) nB20 hq
                        clear hq
                        have hlwa21 : V.heap.size ≤ wa21.heap.size := sa23.size
                        clear cA0 cA1
                        have cA0 := nA24.cell (j := 0) rfl
                        have cA1 := nA24.cell (j := 1) rfl
                        have fA0 := nA24.frozen 0
                        have fA1 := nA24.frozen 1
                        clear cB0 cB1
                        have cB0 := nB25.cell (j := 0) rfl
                        have cB1 := nB25.cell (j := 1) rfl
                        have fB0 := nB25.frozen 0
                        have fB1 := nB25.frozen 1
                        refine wpAnyH_ready (rs := [9]) (by kernel_rfl) (by simp) ?_
                        refine AllReadyH.cons rfl (fun K hK => ?_) AllReadyH.nil
                        go_simp
                        refine hK.out _ _ ?_ (fun hH26 => ?_)
                        · ((try dsimp only); go_keep)
                        clear hK K
                        (try simp only [Act.put, List.setIfInBounds_toArray, List.set_cons_zero, List.set_cons_succ])
                        refine wpAnyH_ready (rs := [10]) (by kernel_rfl) (by simp) ?_
                        refine AllReadyH.cons rfl (fun K hK => ?_) AllReadyH.nil
                        go_simp
                        refine hK.out _ _ ?_ (fun hH27 => ?_)
                        · ((try dsimp only); go_keep)
                        clear hK K
                        (try simp only [Act.put, List.setIfInBounds_toArray, List.set_cons_zero, List.set_cons_succ])
                        refine wpAnyH_done (by kernel_rfl) ?_ _
                        (try simp only [List.getElem_toArray, List.getElem_cons_zero, List.getElem_cons_succ, Act.put, List.setIfInBounds_toArray, List.set_cons_zero, List.set_cons_succ])
                        go_wp2_with fail
                        go_roundw
                        case rel => exact ⟨i + 1, by omega, by go_num, ((((((HBV.out.trans (sa23.mono HBV.out.size))).setCell (p := ⟨w6.heap.size, 0, none⟩) (Nat.le_refl _) (.bool (ineg (U + X)))).setCell (p := ⟨w6.heap.size, 1, none⟩) (Nat.le_refl _) (.string (imag (U + X)))).setCell (p := ⟨w6.heap.size + 1, 0, none⟩) (Nat.le_succ _) (.bool (ineg (T + R)))).setCell (p := ⟨w6.heap.size + 1, 1, none⟩) (Nat.le_succ _) (.string (imag (T + R)))), by rw [← HTR.out]; exact ((((nA24.set 0 (.bool (ineg (U + X)))).set 1 (.string (imag (U + X)))).setOther (a := ⟨w6.heap.size + 1, 0, none⟩) neBA (.bool (ineg (T + R)))).setOther (a := ⟨w6.heap.size + 1, 1, none⟩) neBA (.string (imag (T + R)))), by rw [← HTS.out]; exact ((((nB25.setOther (a := ⟨w6.heap.size, 0, none⟩) neAB (.bool (ineg (U + X)))).setOther (a := ⟨w6.heap.size, 1, none⟩) neAB (.string (imag (U + X)))).set 0 (.bool (ineg (T + R)))).set 1 (.string (imag (T + R))))⟩
                        case measure => simp [intOf]; omega
                    · go_simp
                      refine hK.out _ _ ?_ (fun hH28 => ?_)
                      · ((try dsimp only); go_keep)
                      clear hK K
                      (try simp only [Act.put, List.setIfInBounds_toArray, List.set_cons_zero, List.set_cons_succ])
                      refine wpAnyH_ready (rs := [0]) (by kernel_rfl) (by simp) ?_
                      refine AllReadyH.cons rfl (fun K hK => ?_) AllReadyH.nil
                      go_simp
                      refine hK.out _ _ ?_ (fun hH29 => ?_)
                      · ((try dsimp only); go_keep)
                      clear hK K
                      (try simp only [Act.put, List.setIfInBounds_toArray, List.set_cons_zero, List.set_cons_succ])
                      refine wpAnyH_ready (rs := [5]) (by kernel_rfl) (by simp) ?_
                      refine AllReadyH.cons rfl (fun K hK => ?_) AllReadyH.nil
                      go_simp
                      go_at_call 14
                      refine (HAD1.out _).mono ?_
                      rintro e' wa30 ⟨hq, rfl⟩
                      dsimp only
                      have z0 := (hq.cell (p := ⟨rb, ro + i * 2, none⟩) (show rb < V.heap.size by omega)).trans hH29.1
                      have z1 := (hq.cell (p := ⟨rb, ro + i * 2 + 1, none⟩) (show rb < V.heap.size by omega)).trans hH29.2.1
                      have z2 := (hq.cell (p := ⟨w7.heap.size, 0, none⟩) (show w7.heap.size < V.heap.size by omega)).trans hH29.2.2.1
                      have z3 := (hq.cell (p := ⟨w7.heap.size, 1, none⟩) (show w7.heap.size < V.heap.size by omega)).trans hH29.2.2.2
                      refine hK.out _ _ ⟨z0, z1, z2, z3⟩ (fun hH31 => ?_)
                      clear hK K z0  z1  z2  z3
                      (try simp only [Act.put, List.setIfInBounds_toArray, List.set_cons_zero, List.set_cons_succ])
                      have sa32 : Below V.heap.size V wa30 := sV.trans (hq.mono sV.size)
                      have nA33 := Blk.keep (w := V.drew) nA hq
                      have nB34 := Blk.keep (w := V.drew) nB hq
                      clear hq
                      have hlwa30 : V.heap.size ≤ wa30.heap.size := sa32.size
                      clear cA0 cA1
                      have cA0 := nA33.cell (j := 0) rfl
                      have cA1 := nA33.cell (j := 1) rfl
                      have fA0 := nA33.frozen 0
                      have fA1 := nA33.frozen 1
                      clear cB0 cB1
                      have cB0 := nB34.cell (j := 0) rfl
                      have cB1 := nB34.cell (j := 1) rfl
                      have fB0 := nB34.frozen 0
                      have fB1 := nB34.frozen 1
                      refine wpAnyH_ready (rs := [8]) (by kernel_rfl) (by simp) ?_
                      refine AllReadyH.cons rfl (fun K hK => ?_) AllReadyH.nil
                      go_simp
                      go_at_call 14
                      refine (HAD2.out _).mono ?_
                      rintro e' wa35 ⟨hq, rfl⟩
                      dsimp only
                      have z0 := (hq.cell (p := ⟨rb, ro + i * 2, none⟩) (show rb < wa30.heap.size by omega)).trans hH31.1
                      have z1 := (hq.cell (p := ⟨rb, ro + i * 2 + 1, none⟩) (show rb < wa30.heap.size by omega)).trans hH31.2.1
                      have z2 := (hq.cell (p := ⟨w7.heap.size, 0, none⟩) (show w7.heap.size < wa30.heap.size by omega)).trans hH31.2.2.1
                      have z3 := (hq.cell (p := ⟨w7.heap.size, 1, none⟩) (show w7.heap.size < wa30.heap.size by omega)).trans hH31.2.2.2
                      refine hK.out _ _ ⟨z0, z1, z2, z3⟩ (fun hH36 => ?_)
                      clear hK K z0  z1  z2  z3
                      (try simp only [Act.put, List.setIfInBounds_toArray, List.set_cons_zero, List.set_cons_succ])
                      have sa37 : Below V.heap.size V wa35 := sa32.trans (hq.mono sa32.size)
                      have nA38 := Blk.keep (w := wa30) nA33 hq
                      have nB39 := Blk.keep (w := wa30) nB34 hq
                      clear hq
                      have hlwa35 : V.heap.size ≤ wa35.heap.size := sa37.size
                      clear cA0 cA1
                      have cA0 := nA38.cell (j := 0) rfl
                      have cA1 := nA38.cell (j := 1) rfl
                      have fA0 := nA38.frozen 0
                      have fA1 := nA38.frozen 1
                      clear cB0 cB1
                      have cB0 := nB39.cell (j := 0) rfl
                      have cB1 := nB39.cell (j := 1) rfl
                      have fB0 := nB39.frozen 0
                      have fB1 := nB39.frozen 1
                      refine wpAnyH_ready (rs := [9]) (by kernel_rfl) (by simp) ?_
                      refine AllReadyH.cons rfl (fun K hK => ?_) AllReadyH.nil
                      go_simp
                      refine hK.out _ _ ?_ (fun hH40 => ?_)
                      · ((try dsimp only); go_keep)
                      clear hK K
                      (try simp only [Act.put, List.setIfInBounds_toArray, List.set_cons_zero, List.set_cons_succ])
                      refine wpAnyH_ready (rs := [10]) (by kernel_rfl) (by simp) ?_
                      refine AllReadyH.cons rfl (fun K hK => ?_) AllReadyH.nil
                      go_simp
                      refine hK.out _ _ ?_ (fun hH41 => ?_)
                      · ((try dsimp only); go_keep)
                      clear hK K
                      (try simp only [Act.put, List.setIfInBounds_toArray, List.set_cons_zero, List.set_cons_succ])
                      refine wpAnyH_done (by kernel_rfl) ?_ _
                      (try simp only [List.getElem_toArray, List.getElem_cons_zero, List.getElem_cons_succ, Act.put, List.setIfInBounds_toArray, List.set_cons_zero, List.set_cons_succ])
                      go_wp2_with fail
                      go_roundw
                      case rel => exact ⟨i + 1, by omega, by go_num, ((((((HBV.out.trans (sa37.mono HBV.out.size))).setCell (p := ⟨w6.heap.size, 0, none⟩) (Nat.le_refl _) (.bool (ineg (U + X)))).setCell (p := ⟨w6.heap.size, 1, none⟩) (Nat.le_refl _) (.string (imag (U + X)))).setCell (p := ⟨w6.heap.size + 1, 0, none⟩) (Nat.le_succ _) (.bool (ineg (T + R)))).setCell (p := ⟨w6.heap.size + 1, 1, none⟩) (Nat.le_succ _) (.string (imag (T + R)))), by rw [← HTR.out]; exact ((((nA38.set 0 (.bool (ineg (U + X)))).set 1 (.string (imag (U + X)))).setOther (a := ⟨w6.heap.size + 1, 0, none⟩) neBA (.bool (ineg (T + R)))).setOther (a := ⟨w6.heap.size + 1, 1, none⟩) neBA (.string (imag (T + R)))), by rw [← HTS.out]; exact ((((nB39.setOther (a := ⟨w6.heap.size, 0, none⟩) neAB (.bool (ineg (U + X)))).setOther (a := ⟨w6.heap.size, 1, none⟩) neAB (.string (imag (U + X)))).set 0 (.bool (ineg (T + R)))).set 1 (.string (imag (T + R))))⟩
                      case measure => simp [intOf]; omega
              · have hiS2 : i = S := by omega
                have ti : decide ((i : Int) < (S : Int)) = false := by simp; omega
                have hCQ := HCLQ.out
                have hTQ := HTOQ.out
                have eT : (rowK es S allP n).sum = totS es n S := rfl
                have eC : clN es S n = trP es n S := rfl
                rw [eT] at hTQ
                rw [eC] at hCQ
                rw [hiS2] at hA hB
                obtain ⟨U, hU⟩ : ∃ U, U = trP es n S := ⟨_, rfl⟩
                obtain ⟨T, hT⟩ : ∃ T, T = totS es n S := ⟨_, rfl⟩
                rw [← hU] at hA hCQ
                rw [← hT] at hB hTQ
                have heqU : ∀ w', (binOp .eql 28 (.agg #[.bool (ineg U), .string (imag U)]) (.agg #[.bool (ineg U), .string (imag U)])).run Try.prog w' = .ok (.bool true) w' := fun w' => by rw [eql_int, beq_toListBytes]; simp
                have heqT : ∀ w', (binOp .eql 28 (.agg #[.bool (ineg T), .string (imag T)]) (.agg #[.bool (ineg T), .string (imag T)])).run Try.prog w' = .ok (.bool true) w' := fun w' => by rw [eql_int, beq_toListBytes]; simp
                have dO := D6.out.below hbel hgl6
                have hrO := HR6.out.below hbel (Nat.le_refl _)
                have sO := S6.out.trans (hbel.mono S6.out.size)
                have x0 := dO.cell (j := 0) rfl
                have x1 := dO.cell (j := 1) rfl
                have x2 := dO.cell (j := 2) rfl
                have HCQ := Lib.hid hCQ; clear hCQ
                have HTQ := Lib.hid hTQ; clear hTQ
                have DO := Lib.hid dO; clear dO
                have HRO := Lib.hid hrO; clear hrO
                have SO := Lib.hid sO; clear sO
                have HA := Lib.hid hA; clear hA
                have HB := Lib.hid hB; clear hB
                clear hbel hU hT eT eC hiS2
                go_wp2_with fail
                go_at_call 16
                refine (HCQ.out _ HRO.out).mono ?_
                rintro e w7 ⟨hq, rfl⟩
                have hqa := hq.alloc hq.size (.cells #[.bool (ineg U), .string (imag U)] 28)
                have bU := Blk.new w7 28 [.bool (ineg U), .string (imag U)]
                have d7 := DO.out.keep hqa
                have hr7 := HRO.out.below hqa (Nat.le_refl _)
                have s7 := SO.out.trans (hqa.mono SO.out.size)
                have hA7 := HA.out.keep hqa
                have hB7 := HB.out.keep hqa
                clear x0 x1 x2
                have x0 := d7.cell (j := 0) rfl
                have x1 := d7.cell (j := 1) rfl
                have x2 := d7.cell (j := 2) rfl
                have BU := Lib.hid bU; clear bU
                have HR7 := Lib.hid hr7; clear hr7
                have S7 := Lib.hid s7; clear s7
                have HA7 := Lib.hid hA7; clear hA7
                have HB7 := Lib.hid hB7; clear hB7
                clear hq hqa d7
                go_wp2_with fail
                go_at_call 23
                refine (HTQ.out _ HR7.out).mono ?_
                rintro e w8 ⟨hq, rfl⟩
                have hqa := hq.alloc hq.size (.cells #[.bool (ineg T), .string (imag T)] 28)
                have bT := Blk.new w8 28 [.bool (ineg T), .string (imag T)]
                have bU8 := BU.out.keep hqa
                have hA8 := HA7.out.keep hqa
                have hB8 := HB7.out.keep hqa
                have s8 := S7.out.trans (hqa.mono S7.out.size)
                have u0 := bU8.cell (j := 0) rfl
                have u1 := bU8.cell (j := 1) rfl
                have u2 := bT.cell (j := 0) rfl
                have u3 := bT.cell (j := 1) rfl
                have v0 := hA8.cell (j := 0) rfl
                have v1 := hA8.cell (j := 1) rfl
                have v2 := hB8.cell (j := 0) rfl
                have v3 := hB8.cell (j := 1) rfl
                have S8 := Lib.hid s8; clear s8
                clear hq hqa bT bU8 hA8 hB8 x0 x1 x2
                go_wp2_with fail
                go_at_call 10
                refine (HAW.out _).mono ?_
                rintro e w9 ⟨hq, rfl⟩
                have sF := S8.out.trans (hq.mono S8.out.size)
                have SF := Lib.hid sF; clear sF
                clear hq
                go_wp2_with fail
                go_ret
                exact ⟨SF.out, rfl⟩
end Go.Proofs.Ythpgeeaccmgbkaa

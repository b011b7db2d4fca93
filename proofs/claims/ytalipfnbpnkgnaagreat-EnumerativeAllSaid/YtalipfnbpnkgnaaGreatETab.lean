/- enumerative.table. -/
import Derived.Deep.RegionHeld3
import Derived.Deep.QuietTactic
import Derived.Test.YtalipfnbpnkgnaaGreatPart5
import Derived.Test.YtalipfnbpnkgnaaGreatPart11
namespace Go.Proofs.YtalipfnbpnkgnaaGreat
open Go.RowKit

set_option maxRecDepth 100000 in
set_option maxHeartbeats 8000000 in
theorem table_any (L : Int) (S n : Nat) (es : List E3) (v : Value) (F : Nat) (cb : Array Value) (p : Int → Bool) (w : World) (hr : Row w v es.length (ce es)) (hS : S ≤ 64) (hn : n ≤ 4096) (hl : es.length ≤ 1024) (hin : InS S es)
    (hent : ∀ args w, (callFunc F args).run Tryz.prog w = .ok (.enter F args) w)
    (hIs : ∀ (s : Nat) (w' : World), s < S → Below w.heap.size w w' → Calls Tryz.prog F (#[.int .i64 (s : Int)] ++ cb) w' (Ret w' (.bool (p (s : Int))))) :
    Calls Tryz.prog 34 #[.agg #[.int .i64 L, .int .i64 (S : Int), v], .func (.func F) #[] cb, .int .i64 (n : Int)] w (TabRet w (tabL es S p n)) := by
  obtain ⟨va, vc, rfl, hle⟩ := hr.slice
  obtain ⟨m, hm⟩ : ∃ m, m = es.length := ⟨_, rfl⟩
  rw [← hm] at hr hl hle ⊢
  have bg := Blk.new w 24 [.int .i64 L, .int .i64 (S : Int), .slice va m vc]
  have s0 := (Below.refl w.heap.size w).alloc (Nat.le_refl _) (.cells #[.int .i64 L, .int .i64 (S : Int), .slice va m vc] 24)
  have hmk := mkI S (by omega) (S : Int) rfl
  have HR := Lib.hid hr; clear hr
  have BG := Lib.hid bg; clear bg
  have S0 := Lib.hid s0; clear s0
  have HM := Lib.hid hm; clear hm
  have HIN := Lib.hid hin; clear hin
  have HIS := Lib.hid hIs; clear hIs
  go_enter Tryz.func34, Tryz.ntmps34
  go_wp2_with fail
  go_loopw [19] (fun i wr => ∃ j : Nat, j ≤ S ∧ i = .int .i64 j ∧ Below (w.heap.size + 1) (w.alloc (.cells #[.int .i64 L, .int .i64 (S : Int), .slice va m vc] 24)) wr ∧ Blk wr (w.heap.size + 1) 33 (civ (row0 S p j))) (fun i _ => S - (intOf i).toNat)
  case atStart =>
    refine ⟨0, Nat.zero_le _, rfl, (Below.refl _ _).alloc (by simp) _, ?_⟩
    have h := blk_mkI (w.alloc (.cells #[.int .i64 L, .int .i64 (S : Int), .slice va m vc] 24)) S
    rw [World.size_alloc] at h
    rw [row0_zero]; exact h
  case round =>
    obtain ⟨j, hj, rfl, hbel, hblk⟩ := hrel
    have HB := Lib.hid hbel; clear hbel
    by_cases hlt : j < S
    · have hbw : Below w.heap.size w wr := S0.out.trans (HB.out.mono (by omega))
      have his := HIS.out j wr hlt hbw
      have hg := row0_length S p j
      cases hpj : p (j : Int) with
      | true =>
        rw [hpj] at his
        have hst := row0_yes hlt hpj
        have hx : (row0 S p j)[j]? = some ((row0 S p j)[j]'(by omega)) := List.getElem?_eq_getElem _
        obtain ⟨x, hxx⟩ : ∃ x, x = (row0 S p j)[j]'(by omega) := ⟨_, rfl⟩
        rw [← hxx] at hx
        obtain ⟨hx0, hx1⟩ := civ_get hx
        have HIS1 := Lib.hid his; clear his
        have HST := Lib.hid hst; clear hst
        have HBW := Lib.hid hbw; clear hbw
        clear hxx hx hpj hg
        go_wp2_with fail
        refine HIS1.out.mono ?_
        rintro e w1 ⟨hq1, rfl⟩
        have hk1 := hblk.keep hq1
        clear hblk
        have HQ1 := Lib.hid hq1; clear hq1
        go_wp2_with fail
        go_at_call 20
        refine (iof_any 1 _ (by decide) (by decide)).mono ?_
        rintro e w2 ⟨hq2, rfl⟩
        have hk2 := hk1.keep hq2
        clear hk1
        have c0 := hk2.cell hx0
        have c1 := hk2.cell hx1
        have f0 := hk2.frozen (j * 2)
        have f1 := hk2.frozen (j * 2 + 1)
        have HQ2 := Lib.hid hq2; clear hq2
        have HK2 := Lib.hid hk2; clear hk2
        clear hx0 hx1
        go_wp2_with fail
        go_roundw
        case rel =>
          have s1 := HB.out.trans (HQ1.out.mono (by have := HB.out.size; simpa using this))
          have s2 := s1.trans (HQ2.out.mono (by have := s1.size; simpa using this))
          refine ⟨j + 1, by omega, by go_num, (s2.setCell (p := ⟨w.heap.size + 1, j * 2, none⟩) (Nat.le_refl _) _).setCell (p := ⟨w.heap.size + 1, j * 2 + 1, none⟩) (Nat.le_refl _) _, ?_⟩
          rw [← HST.out, ← civ_set]
          exact (HK2.out.set _ _).set _ _
        case measure => simp [intOf]; omega
      | false =>
        rw [hpj] at his
        have hst := row0_no (S := S) hpj
        have HIS1 := Lib.hid his; clear his
        have HST := Lib.hid hst; clear hst
        have HBW := Lib.hid hbw; clear hbw
        clear hpj hg
        go_wp2_with fail
        refine HIS1.out.mono ?_
        rintro e w1 ⟨hq1, rfl⟩
        have hk1 := hblk.keep hq1
        clear hblk
        have HQ1 := Lib.hid hq1; clear hq1
        have HK1 := Lib.hid hk1; clear hk1
        go_wp2_with fail
        go_roundw
        case rel =>
          exact ⟨j + 1, by omega, by go_num, HB.out.trans (HQ1.out.mono (by have := HB.out.size; simpa using this)), by rw [← HST.out]; exact HK1.out⟩
        case measure => simp [intOf]; omega
    · obtain rfl : j = S := by omega
      clear hlt hj
      rw [row0_full es] at hblk
      obtain ⟨wo, rfl⟩ : ∃ wo : World, wo = wr := ⟨_, rfl⟩
      have hszo : w.heap.size + 1 < wo.heap.size := hblk.lt
      have HBK := Lib.hid hblk; clear hblk
      go_wp2_with fail
      go_loopw [9, 33] (fun u i wr => ∃ (k : Nat) (rvs : List Value), k ≤ n ∧ i = .int .i64 k ∧ Below (w.heap.size + 1) (w.alloc (.cells #[.int .i64 L, .int .i64 (j : Int), .slice va m vc] 24)) wr ∧ wo.heap.size < wr.heap.size ∧ wr.ownsRow wo.heap.size 28 1 u (k + 1) rvs ∧ RowsAt w.heap.size wr es j p k rvs) (fun _ i _ => n - (intOf i).toNat)
      case atStart =>
        refine ⟨0, [.slice (some ⟨w.heap.size + 1, 0, none⟩) j j], Nat.zero_le _, rfl, HB.out.alloc (by omega) _, by simp, ?_, ?_⟩
        · exact World.ownsRow_lit (base := wo.heap.size) (e := 28) (size := 1) wo #[.slice (some ⟨w.heap.size + 1, 0, none⟩) j j] 1 (Nat.le_refl _) (by decide) rfl
        · intro i hi
          obtain rfl : i = 0 := by omega
          exact ⟨_, by omega, rfl, HBK.out.alloc _⟩
      case round =>
        obtain ⟨k, rvs, hk, rfl, hbel, hszr, hown, hrows⟩ := hrel
        obtain ⟨wq, rfl⟩ : ∃ wq : World, wq = wr := ⟨_, rfl⟩
        obtain ⟨g, oc, rfl, hg1, hg2⟩ := World.ownsRow.form hown (by omega)
        have hbg := BG.out.below hbel (by omega)
        have hbw0 : Below w.heap.size w wq := S0.out.trans (hbel.mono (by omega))
        have hsq : w.heap.size < wq.heap.size := by omega
        have hrl : rvs.length = k + 1 := by have := hown.1; omega
        have HB2 := Lib.hid hbel; clear hbel
        have HBG := Lib.hid hbg; clear hbg
        have HBW0 := Lib.hid hbw0; clear hbw0
        have HO := Lib.hid hown; clear hown
        have HRS := Lib.hid hrows; clear hrows
        have HRL := Lib.hid hrl; clear hrl
        by_cases hlt2 : k < n
        · have hmk2 := mkI j (by omega) (j : Int) rfl
          have g1 := HBG.out.cell (j := 1) rfl
          have g2 := (below_new wq (.cells (zarr (.agg #[.bool false, .string ⟨#[]⟩]) j) 33) hsq 2).trans (HBG.out.cell (j := 2) rfl)
          go_wp2_with fail
          clear g1 g2 hmk2
          go_loopw [42] (fun i wr => ∃ q : Nat, q ≤ m ∧ i = .int .i64 q ∧ Below wq.heap.size wq wr ∧ Blk wr wq.heap.size 33 (civ (rowP es j p k q))) (fun i _ => m - (intOf i).toNat)
          case atStart => exact ⟨0, Nat.zero_le _, rfl, (Below.refl _ _).alloc (Nat.le_refl _) _, by rw [rowP_zero]; exact blk_mkI wq j⟩
          case round =>
            obtain ⟨q, hq, rfl, hbel, hblk⟩ := hrel
            have HB3 := Lib.hid hbel; clear hbel
            have hs3 : wq.heap.size < wr.heap.size := hblk.lt
            by_cases hlt3 : q < m
            · have ge : es[q]? = some (es[q]'(by rw [← HM.out]; exact hlt3)) := List.getElem?_eq_getElem _
              obtain ⟨e, hedef⟩ : ∃ e, e = es[q]'(by rw [← HM.out]; exact hlt3) := ⟨_, rfl⟩
              rw [← hedef] at ge
              obtain ⟨hf0, hf1, ht0, ht1⟩ := HIN.out e (by rw [hedef]; exact List.getElem_mem _)
              clear hedef
              obtain ⟨f, hf⟩ : ∃ f : Nat, e.f = f := ⟨e.f.toNat, by omega⟩
              obtain ⟨t, ht⟩ : ∃ t : Nat, e.t = t := ⟨e.t.toNat, by omega⟩
              have hfS : f < j := by omega
              have htS : t < j := by omega
              obtain ⟨b, off, rfl, hbw, hce⟩ := HR.out.at_ (by omega)
              have hb3 : Below w.heap.size w wr := HBW0.out.trans (HB3.out.mono (by omega))
              obtain ⟨q0, q1, q2⟩ := edge_cells hce hb3 hbw ge
              rw [hf] at q0
              rw [ht] at q2
              obtain ⟨l, hl⟩ : ∃ l, l = e.l := ⟨_, rfl⟩
              rw [← hl] at q1
              clear hce hl
              obtain ⟨bk, -, hbk1, hbk2⟩ := HRS.out k (Nat.le_refl _)
              have hrw := own_row HO.out
              obtain ⟨g', off', hge, hgl, hcg⟩ := hrw.at_ (by omega)
              simp only [Option.some.injEq, Addr.mk.injEq, and_true] at hge
              obtain ⟨rfl, rfl⟩ := hge
              have r0 := (HB3.out.cell (p := ⟨g, 0 + k, none⟩) hgl).trans (hcg k _ hbk1)
              rw [Nat.zero_add] at r0
              have hbk3 := hbk2.keep HB3.out
              have hbkl := hbk2.lt
              have gx : (rowP es j p k q)[f]? = some ((rowP es j p k q)[f]'(by rw [rowP_length]; exact hfS)) := List.getElem?_eq_getElem _
              obtain ⟨X, hX⟩ : ∃ X, X = (rowP es j p k q)[f]'(by rw [rowP_length]; exact hfS) := ⟨_, rfl⟩
              rw [← hX] at gx
              have gy : (rowK es j p k)[t]? = some (cw es p k (t : Int)) := rowK_get htS
              obtain ⟨Y, hY⟩ : ∃ Y, Y = cw es p k (t : Int) := ⟨_, rfl⟩
              have sY : small Y := by rw [hY]; exact cw_small (by rw [← HM.out]; omega) p k (by omega) _
              have sX : small X := rowP_small (by rw [← HM.out]; omega) j p k q (by omega) gx
              rw [← hY] at gy
              have hsucc := rowP_succ ge hf ht hfS htS gx gy
              clear hX hY ge hf ht hf0 hf1 ht0 ht1
              have hadd := fun w' => iadd_any (ineg X) (ineg Y) (imag X) (imag Y) w' sX sY
              simp only [ival_canon] at hadd
              have hnow := hblk.alloc (.cells #[.int .i64 (f : Int), .int .i64 l, .int .i64 (t : Int)] 111)
              have n0 := hnow.cell (civ_get gx).1
              have n1 := hnow.cell (civ_get gx).2
              have hrk := hbk3.alloc (.cells #[.int .i64 (f : Int), .int .i64 l, .int .i64 (t : Int)] 111)
              have y0 := hrk.cell (civ_get gy).1
              have y1 := hrk.cell (civ_get gy).2
              have hgr : g < wr.heap.size := by omega
              have r1 := (below_new wr (.cells #[.int .i64 (f : Int), .int .i64 l, .int .i64 (t : Int)] 111) hgr k).trans r0
              have hx := Blk.new wr 111 [.int .i64 (f : Int), .int .i64 l, .int .i64 (t : Int)]
              have x0 := hx.cell (j := 0) rfl
              have x2 := hx.cell (j := 2) rfl
              have hix1 : (0 : Int) ≤ (f : Int) := by omega
              have hix2 : (f : Int) < (j : Int) := by omega
              have hix3 : (0 : Int) ≤ (t : Int) := by omega
              have hix4 : (t : Int) < (j : Int) := by omega
              have hix5 : (k : Int) < (k : Int) + 1 := by omega
              have gx0 := (civ_get gx).1
              have gx1 := (civ_get gx).2
              have HADD := Lib.hid hadd; clear hadd
              have HSU := Lib.hid hsucc; clear hsucc
              have HNOW := Lib.hid hnow; clear hnow
              have GX0 := Lib.hid gx0; clear gx0
              have GX1 := Lib.hid gx1; clear gx1
              clear r0 hrk hx hrw hcg hgl hbk1 hbk2 hbk3 hblk gx gy sX sY hb3
              go_wp2_with fail
              refine wp_region_held_drew (S := fun w' => w'.cell? ⟨wr.heap.size, 0, none⟩ = some (.int .i64 (f : Int)) ∧ w'.cell? ⟨wr.heap.size, 2, none⟩ = some (.int .i64 (t : Int)) ∧ w'.cell? ⟨g, k, none⟩ = some (.slice (some ⟨bk, 0, none⟩) j j) ∧ w'.cell? ⟨bk, t * 2, none⟩ = some (.bool (ineg Y)) ∧ w'.cell? ⟨bk, t * 2 + 1, none⟩ = some (.string (imag Y))) (by kernel_rfl) ?_ (fun hHeld => ?_)
              · go_keep
              refine wpAnyH_take (i := 0) (v := ?_) rfl (by kernel_rfl) (by kernel_rfl) (by kernel_rfl) (fun _ _ _ h => h) (Or.inl ⟨by rfl, ?_⟩) (by assumption) ?_
              rotate_left
              · (intro wS hSw; (try dsimp only at hSw); go_simp; (try with_reducible rfl))
              (try simp only [Act.put, List.setIfInBounds_toArray, List.set_cons_zero, List.set_cons_succ])
              refine wpAnyH_take (i := 1) (v := ?_) rfl (by kernel_rfl) (by kernel_rfl) (by kernel_rfl) (fun _ _ _ h => h) (Or.inl ⟨by rfl, ?_⟩) (by assumption) ?_
              rotate_left
              · (intro wS hSw; (try dsimp only at hSw); go_simp; (try with_reducible rfl))
              (try simp only [Act.put, List.setIfInBounds_toArray, List.set_cons_zero, List.set_cons_succ])
              refine wpAnyH_take (i := 2) (v := ?_) rfl (by kernel_rfl) (by kernel_rfl) (by kernel_rfl) (fun _ _ _ h => h) (Or.inl ⟨by rfl, ?_⟩) (by assumption) ?_
              rotate_left
              · (intro wS hSw; (try dsimp only at hSw); go_simp; (try with_reducible rfl))
              (try simp only [Act.put, List.setIfInBounds_toArray, List.set_cons_zero, List.set_cons_succ])
              refine wpAnyH_take (i := 3) (v := ?_) rfl (by kernel_rfl) (by kernel_rfl) (by kernel_rfl) (fun _ _ _ h => h) (Or.inl ⟨by rfl, ?_⟩) (by assumption) ?_
              rotate_left
              · (intro wS hSw; (try dsimp only at hSw); go_simp; (try with_reducible rfl))
              (try simp only [Act.put, List.setIfInBounds_toArray, List.set_cons_zero, List.set_cons_succ])
              refine wpAnyH_take (i := 4) (v := ?_) rfl (by kernel_rfl) (by kernel_rfl) (by kernel_rfl) (fun _ _ _ h => h) (Or.inl ⟨by rfl, ?_⟩) (by assumption) ?_
              rotate_left
              · (intro wS hSw; (try dsimp only at hSw); go_simp; (try with_reducible rfl))
              (try simp only [Act.put, List.setIfInBounds_toArray, List.set_cons_zero, List.set_cons_succ])
              refine wpAnyH_take (i := 5) (v := ?_) rfl (by kernel_rfl) (by kernel_rfl) (by kernel_rfl) (fun _ _ _ h => h) (Or.inl ⟨by rfl, ?_⟩) (by assumption) ?_
              rotate_left
              · (intro wS hSw; (try dsimp only at hSw); go_simp; (try with_reducible rfl))
              (try simp only [Act.put, List.setIfInBounds_toArray, List.set_cons_zero, List.set_cons_succ])
              refine wpAnyH_take (i := 6) (v := ?_) rfl (by kernel_rfl) (by kernel_rfl) (by kernel_rfl) (fun _ _ _ h => h) (Or.inl ⟨by rfl, ?_⟩) (by assumption) ?_
              rotate_left
              · (intro wS hSw; (try dsimp only at hSw); go_simp; (try with_reducible rfl))
              (try simp only [Act.put, List.setIfInBounds_toArray, List.set_cons_zero, List.set_cons_succ])
              refine wpAnyH_take (i := 8) (v := ?_) rfl (by kernel_rfl) (by kernel_rfl) (by kernel_rfl) (fun _ _ _ h => h) (Or.inl ⟨by rfl, ?_⟩) (by assumption) ?_
              rotate_left
              · (intro wS hSw; (try dsimp only at hSw); go_simp; (try with_reducible rfl))
              (try simp only [Act.put, List.setIfInBounds_toArray, List.set_cons_zero, List.set_cons_succ])
              refine wpAnyH_take (i := 9) (v := ?_) rfl (by kernel_rfl) (by kernel_rfl) (by kernel_rfl) (fun _ _ _ h => h) (Or.inl ⟨by rfl, ?_⟩) (by assumption) ?_
              rotate_left
              · (intro wS hSw; (try dsimp only at hSw); go_simp; (try with_reducible rfl))
              (try simp only [Act.put, List.setIfInBounds_toArray, List.set_cons_zero, List.set_cons_succ])
              refine wpAnyH_take (i := 10) (v := ?_) rfl (by kernel_rfl) (by kernel_rfl) (by kernel_rfl) (fun _ _ _ h => h) (Or.inl ⟨by rfl, ?_⟩) (by assumption) ?_
              rotate_left
              · (intro wS hSw; (try dsimp only at hSw); go_simp; (try with_reducible rfl))
              (try simp only [Act.put, List.setIfInBounds_toArray, List.set_cons_zero, List.set_cons_succ])
              refine wpAnyH_take (i := 11) (v := ?_) rfl (by kernel_rfl) (by kernel_rfl) (by kernel_rfl) (fun _ _ _ h => h) (Or.inl ⟨by rfl, ?_⟩) (by assumption) ?_
              rotate_left
              · (intro wS hSw; (try dsimp only at hSw); go_simp; (try with_reducible rfl))
              (try simp only [Act.put, List.setIfInBounds_toArray, List.set_cons_zero, List.set_cons_succ])
              refine wpAnyH_take (i := 12) (v := ?_) rfl (by kernel_rfl) (by kernel_rfl) (by kernel_rfl) (fun _ _ _ h => h) (Or.inl ⟨by rfl, ?_⟩) (by assumption) ?_
              rotate_left
              · (intro wS hSw; (try dsimp only at hSw); go_simp; (try with_reducible rfl))
              (try simp only [Act.put, List.setIfInBounds_toArray, List.set_cons_zero, List.set_cons_succ])
              refine wpAnyH_take (i := 13) (v := ?_) rfl (by kernel_rfl) (by kernel_rfl) (by kernel_rfl) (fun _ _ _ h => h) (Or.inl ⟨by rfl, ?_⟩) (by assumption) ?_
              rotate_left
              · (intro wS hSw; (try dsimp only at hSw); go_simp; (try with_reducible rfl))
              (try simp only [Act.put, List.setIfInBounds_toArray, List.set_cons_zero, List.set_cons_succ])
              refine wpAnyH_take (i := 14) (v := ?_) rfl (by kernel_rfl) (by kernel_rfl) (by kernel_rfl) (fun _ _ _ h => h) (Or.inl ⟨by rfl, ?_⟩) (by assumption) ?_
              rotate_left
              · (intro wS hSw; (try dsimp only at hSw); go_simp; (try with_reducible rfl))
              (try simp only [Act.put, List.setIfInBounds_toArray, List.set_cons_zero, List.set_cons_succ])
              refine wpAnyH_take (i := 15) (v := ?_) rfl (by kernel_rfl) (by kernel_rfl) (by kernel_rfl) (fun _ _ _ h => h) (Or.inl ⟨by rfl, ?_⟩) (by assumption) ?_
              rotate_left
              · (intro wS hSw; (try dsimp only at hSw); go_simp; (try with_reducible rfl))
              (try simp only [Act.put, List.setIfInBounds_toArray, List.set_cons_zero, List.set_cons_succ])
              refine wpAnyH_ready (rs := [7]) (by kernel_rfl) (by simp) ?_
              refine AllReadyH.cons rfl (fun K hK => ?_) AllReadyH.nil
              go_simp
              refine hK.out _ _ ?_ (fun hHeld => ?_)
              · ((try dsimp only); go_keep)
              clear hK K
              (try simp only [Act.put, List.setIfInBounds_toArray, List.set_cons_zero, List.set_cons_succ])
              refine wpAnyH_ready (rs := [16]) (by kernel_rfl) (by simp) ?_
              refine AllReadyH.cons rfl (fun K hK => ?_) AllReadyH.nil
              go_simp
              go_at_call 70
              refine (HADD.out _).mono ?_
              rintro e w2 ⟨hq2, rfl⟩
              dsimp only
              have z0 := (hq2.cell (p := ⟨wr.heap.size, 0, none⟩) (by simp)).trans hHeld.1
              have z1 := (hq2.cell (p := ⟨wr.heap.size, 2, none⟩) (by simp)).trans hHeld.2.1
              have z2 := (hq2.cell (p := ⟨g, k, none⟩) (by simp; omega)).trans hHeld.2.2.1
              have z3 := (hq2.cell (p := ⟨bk, t * 2, none⟩) (by simp; omega)).trans hHeld.2.2.2.1
              have z4 := (hq2.cell (p := ⟨bk, t * 2 + 1, none⟩) (by simp; omega)).trans hHeld.2.2.2.2
              refine hK.out _ _ ⟨z0, z1, z2, z3, z4⟩ (fun hHeld2 => ?_)
              clear hK K
              have hn2 := HNOW.out.drew.keep hq2
              have u0 := hn2.cell GX0.out
              have u1 := hn2.cell GX1.out
              have v0 := hn2.frozen (f * 2)
              have v1 := hn2.frozen (f * 2 + 1)
              have hne1 : ¬ wq.heap.size = wr.heap.size := by omega
              have hne2 : ¬ wq.heap.size = g := by omega
              have hne3 : ¬ wq.heap.size = bk := by omega
              have HN2 := Lib.hid hn2; clear hn2
              have HQ2 := Lib.hid hq2; clear hq2
              (try simp only [Act.put, List.setIfInBounds_toArray, List.set_cons_zero, List.set_cons_succ])
              refine wpAnyH_take (i := 17) (v := ?_) rfl (by kernel_rfl) (by kernel_rfl) (by kernel_rfl) (fun _ _ _ h => h) (Or.inl ⟨by rfl, ?_⟩) (by assumption) ?_
              rotate_left
              · (intro wS hSw; (try dsimp only at hSw); go_simp; (try with_reducible rfl))
              (try simp only [Act.put, List.setIfInBounds_toArray, List.set_cons_zero, List.set_cons_succ])
              refine wpAnyH_ready (rs := [18]) (by kernel_rfl) (by simp) ?_
              refine AllReadyH.cons rfl (fun K hK => ?_) AllReadyH.nil
              go_simp
              refine hK.out _ _ ?_ (fun hHeld => ?_)
              · ((try dsimp only); go_keep)
              clear hK K
              (try simp only [Act.put, List.setIfInBounds_toArray, List.set_cons_zero, List.set_cons_succ])
              refine wpAnyH_done (by kernel_rfl) ?_ _
              go_wp2_with fail
              go_roundw
              case rel =>
                have s1 := (HB3.out.alloc (Nat.le_of_lt hs3) (.cells #[.int .i64 (f : Int), .int .i64 l, .int .i64 (t : Int)] 111)).drew
                have s2 := s1.trans (HQ2.out.mono s1.size)
                refine ⟨q + 1, by omega, by go_num, (s2.setCell (p := ⟨wq.heap.size, f * 2, none⟩) (Nat.le_refl _) _).setCell (p := ⟨wq.heap.size, f * 2 + 1, none⟩) (Nat.le_refl _) _, ?_⟩
                rw [← HSU.out, ← civ_set]
                exact (HN2.out.set _ _).set _ _
              case measure => simp [intOf]; omega
            · obtain rfl : q = m := by omega
              rw [HM.out, rowP_full] at hblk
              have hown3 := own_below HO.out HB3.out
              have hrows3 := HRS.out.keep HB3.out
              obtain ⟨i0, hi, hz0, hz1', hz2'⟩ := info_parts infoRow
              have HO3 := Lib.hid hown3; clear hown3
              have HRS3 := Lib.hid hrows3; clear hrows3
              have HBN := Lib.hid hblk; clear hblk
              have hsz3 : wo.heap.size ≤ wr.heap.size := by omega
              go_wp2_with (at_builtin; refine wpList_append_lies _ rfl (.tmp 65) (.tmp 67) 69 rfl wo.heap.size 28 i0 _ 1 24 Tryz.underlying69 hi hz0 hz1' hz2' rfl (by decide) _ _ _ rfl (HO3.out.alloc _) _ 1 1 [.slice (some ⟨wq.heap.size, 0, none⟩) j j] rfl rfl (World.news_of_block (heap_alloc_new _ _)) (by simp [Value.oneCell']) (by omega) (by unfold maxLen; omega) (by omega) (by simp; omega) _ rfl ?_; intro g' cap' w4 hown' hg hat hlt'; have HG := Lib.hid hg; clear hg; have HO4 := Lib.hid hown'; clear hown'; have HAT := Lib.hid hat; clear hat)
              go_roundw
              case rel =>
                have s1 := HB2.out.trans (HB3.out.mono (by omega))
                have s2 := s1.alloc (by omega) (.cells #[.slice (some ⟨wq.heap.size, 0, none⟩) j j] 28)
                have s3 := s2.grown HG.out (by simp; omega) (fun jj hj => by obtain rfl := Option.some.inj hj; exact Nat.le_trans (Nat.le_of_lt hszo) hg1)
                refine ⟨k + 1, rvs ++ [.slice (some ⟨wq.heap.size, 0, none⟩) j j], by omega, by go_num, s3, by have := HG.out.size; simp at this; omega, HO4.out, ?_⟩
                have hrs := HRS3.out.snoc HRL.out (by omega) HBN.out
                refine (hrs.keep ((Below.refl _ wr).alloc (Nat.le_refl _) (.cells #[.slice (some ⟨wq.heap.size, 0, none⟩) j j] 28))).grown HG.out fun b ys hb => ?_
                exact own_ne_blk (HO3.out.alloc (.cells #[.slice (some ⟨wq.heap.size, 0, none⟩) j j] 28)) hb (by decide)
              case measure => simp [intOf]; omega
        · obtain rfl : k = n := by omega
          have hbw : Below w.heap.size w wq := HBW0.out
          go_wp2_with fail
          go_ret
          have hob : ∀ kk, Value.ownBlock (.slice (some ⟨g, 0, none⟩) (k + 1) oc) = some kk → w.heap.size ≤ kk := fun kk hkk => by
            obtain rfl : g = kk := Option.some.inj hkk
            omega
          refine ⟨hbw, _, rfl, rvs, by rw [tabL_length]; exact HRL.out, ⟨by rw [tabL_length]; exact own_row HO.out, hob⟩, ?_⟩
          intro i r hir
          have hi : i < k + 1 := by
            have := (List.getElem?_eq_some_iff.1 hir).1
            rwa [tabL_length] at this
          rw [tabL_get hi] at hir
          obtain rfl := Option.some.inj hir
          obtain ⟨b, hb0, hb1, hb2⟩ := HRS.out i (by omega)
          have hob2 : ∀ kk, Value.ownBlock (.slice (some ⟨b, 0, none⟩) j j) = some kk → w.heap.size ≤ kk := fun kk hkk => by
            obtain rfl : b = kk := Option.some.inj hkk
            exact hb0
          refine ⟨_, hb1, ?_, hob2⟩
          have h := blk_row hb2 (by rw [rowK_length]; omega)
          rw [rowK_length] at h ⊢
          exact h
end Go.Proofs.YtalipfnbpnkgnaaGreat

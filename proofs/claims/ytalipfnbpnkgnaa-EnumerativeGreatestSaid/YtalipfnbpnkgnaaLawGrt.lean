/- Contracts and plain laws of several functions, one after the other: Cnt, Paths, PlainP, Choose, LPrc, Cont, LGrt. -/
import Derived.Test.YtalipfnbpnkgnaaETab
import Derived.Test.YtalipfnbpnkgnaaEPrc
import Derived.Test.YtalipfnbpnkgnaaEPrin
import Derived.Test.YtalipfnbpnkgnaaLawBits
import Derived.Test.YtalipfnbpnkgnaaPart10
import Derived.Test.YtalipfnbpnkgnaaDel
import Derived.Test.YtalipfnbpnkgnaaLPriD
/- counting.count: the table's rows, along edges that a function turns. -/
namespace Go.Proofs.Ytalipfnbpnkgnaa
open Go.RowKit

def CntRet (S : Nat) (l : List Int) (w : World) (e : Ending) (w' : World) : Prop := Below w.heap.size w w' ∧ ∃ b, e = .returned (.slice (some ⟨b, 0, none⟩) S S) ∧ Blk w' b 26 (civ l)
set_option maxRecDepth 100000 in
set_option maxHeartbeats 8000000 in
theorem count_any (L : Int) (S n bl : Nat) (es : List E3) (v : Value) (F : Nat) (sw : E3 → E3) (p : Int → Bool) (w : World) (hr : Row w v es.length (ce es)) (hS : S ≤ 64) (hn : n ≤ 4096) (hl : es.length ≤ 1024) (hin : InS S (es.map sw))
    (hent : ∀ args w, (callFunc F args).run Try.prog w = .ok (.enter F args) w)
    (hal : ∀ (e : E3) (w' : World), Calls Try.prog F #[.agg #[.int .i64 e.f, .int .i64 e.l, .int .i64 e.t]] w' (Ret w' (.tuple #[.int .i64 (sw e).t, .int .i64 (sw e).f])))
    (hb : Blk w bl 26 (civ (rowK (es.map sw) S p 0))) :
    Calls Try.prog 91 #[.agg #[.int .i64 L, .int .i64 (S : Int), v], .slice (some ⟨bl, 0, none⟩) S S, .int .i64 (n : Int), .func (.func F) #[] #[]] w (CntRet S (rowK (es.map sw) S p n) w) := by
  obtain ⟨va, vc, rfl, hle⟩ := hr.slice
  obtain ⟨m, hm⟩ : ∃ m, m = es.length := ⟨_, rfl⟩
  obtain ⟨es', hes⟩ : ∃ es', es' = es.map sw := ⟨_, rfl⟩
  have hes' : ∀ (q : Nat) (e : E3), es[q]? = some e → es'[q]? = some (sw e) := fun q e h => by rw [hes, List.getElem?_map, h]; rfl
  have hel : es'.length = m := by rw [hes, List.length_map, hm]
  rw [← hes] at hin hb ⊢
  rw [← hm] at hr hl hle ⊢
  have bg := Blk.new w 24 [.int .i64 L, .int .i64 (S : Int), .slice va m vc]
  have s0 := (Below.refl w.heap.size w).alloc (Nat.le_refl _) (.cells #[.int .i64 L, .int .i64 (S : Int), .slice va m vc] 24)
  have hb0 := hb.alloc (.cells #[.int .i64 L, .int .i64 (S : Int), .slice va m vc] 24)
  have hmk := mkI S (by omega) (S : Int) rfl
  have HR := Lib.hid hr; clear hr
  have BG := Lib.hid bg; clear bg
  have S0 := Lib.hid s0; clear s0
  have HM := Lib.hid hm; clear hm
  have HEL := Lib.hid hel; clear hel
  have HIN := Lib.hid hin; clear hin
  have HAL := Lib.hid hal; clear hal
  have HES := Lib.hid hes'; clear hes'
  have HB0 := Lib.hid hb0; clear hb0
  clear hes hb
  go_enter Try.func91, Try.ntmps91
  go_wp2_with fail
  go_loopw [1, 15] (fun u i wr => ∃ k b : Nat, k ≤ n ∧ i = .int .i64 k ∧ u = .slice (some ⟨b, 0, none⟩) S S ∧ Below (w.heap.size + 1) (w.alloc (.cells #[.int .i64 L, .int .i64 (S : Int), .slice va m vc] 24)) wr ∧ Blk wr b 26 (civ (rowK es' S p k))) (fun _ i _ => n - (intOf i).toNat)
  case atStart => exact ⟨0, bl, Nat.zero_le _, rfl, rfl, by have := Below.refl (w.heap.size + 1) (w.alloc (.cells #[.int .i64 L, .int .i64 (S : Int), .slice va m vc] 24)); exact this, HB0.out⟩
  case round =>
    obtain ⟨k, b, hk, rfl, rfl, hbel, hblk⟩ := hrel
    obtain ⟨wq, rfl⟩ : ∃ wq : World, wq = wr := ⟨_, rfl⟩
    have hszq := hbel.size
    have hsq : w.heap.size < wq.heap.size := by simp at hszq; omega
    have hbg := BG.out.below hbel (by omega)
    have hbw0 : Below w.heap.size w wq := S0.out.trans (hbel.mono (by omega))
    have hbb := hblk.lt
    have HB2 := Lib.hid hbel; clear hbel
    have HBG := Lib.hid hbg; clear hbg
    have HBW0 := Lib.hid hbw0; clear hbw0
    have HBK := Lib.hid hblk; clear hblk
    by_cases hlt2 : k < n
    · have g2 := (below_new wq (.cells (zarr (.agg #[.bool false, .string ⟨#[]⟩]) S) 26) hsq 2).trans (HBG.out.cell (j := 2) rfl)
      go_wp2_with fail
      clear g2
      go_loopw [23] (fun i wr => ∃ q : Nat, q ≤ m ∧ i = .int .i64 q ∧ Below wq.heap.size wq wr ∧ Blk wr wq.heap.size 26 (civ (rowP es' S p k q))) (fun i _ => m - (intOf i).toNat)
      case atStart => exact ⟨0, Nat.zero_le _, rfl, (Below.refl _ _).alloc (Nat.le_refl _) _, by rw [rowP_zero]; exact blk_mkI wq S⟩
      case round =>
        obtain ⟨q, hq, rfl, hbel, hblk⟩ := hrel
        have HB3 := Lib.hid hbel; clear hbel
        have hs3 : wq.heap.size < wr.heap.size := hblk.lt
        by_cases hlt3 : q < m
        · have ge0 : es[q]? = some (es[q]'(by rw [← HM.out]; exact hlt3)) := List.getElem?_eq_getElem _
          obtain ⟨e, hedef⟩ : ∃ e, e = es[q]'(by rw [← HM.out]; exact hlt3) := ⟨_, rfl⟩
          rw [← hedef] at ge0
          have ge := HES.out q e ge0
          obtain ⟨hf0, hf1, ht0, ht1⟩ := HIN.out (sw e) (List.mem_of_getElem? ge)
          clear hedef
          obtain ⟨f, hf⟩ : ∃ f : Nat, (sw e).f = f := ⟨(sw e).f.toNat, by omega⟩
          obtain ⟨t, ht⟩ : ∃ t : Nat, (sw e).t = t := ⟨(sw e).t.toNat, by omega⟩
          have hfS : f < S := by omega
          have htS : t < S := by omega
          obtain ⟨b', off, rfl, hbw, hce⟩ := HR.out.at_ (by omega)
          have hb3 : Below w.heap.size w wr := HBW0.out.trans (HB3.out.mono (by omega))
          obtain ⟨q0, q1, q2⟩ := edge_cells hce hb3 hbw ge0
          have hcall := HAL.out e (wr.alloc (.cells #[.int .i64 e.f, .int .i64 e.l, .int .i64 e.t] 110))
          rw [hf, ht] at hcall
          have hbkr := HBK.out.keep HB3.out
          have gx : (rowP es' S p k q)[f]? = some ((rowP es' S p k q)[f]'(by rw [rowP_length]; exact hfS)) := List.getElem?_eq_getElem _
          obtain ⟨X, hX⟩ : ∃ X, X = (rowP es' S p k q)[f]'(by rw [rowP_length]; exact hfS) := ⟨_, rfl⟩
          rw [← hX] at gx
          have gy : (rowK es' S p k)[t]? = some (cw es' p k (t : Int)) := rowK_get htS
          obtain ⟨Y, hY⟩ : ∃ Y, Y = cw es' p k (t : Int) := ⟨_, rfl⟩
          have sY : small Y := by rw [hY]; exact cw_small (by rw [HEL.out]; omega) p k (by omega) _
          have sX : small X := rowP_small (by rw [HEL.out]; omega) S p k q (by omega) gx
          rw [← hY] at gy
          have hsucc := rowP_succ ge hf ht hfS htS gx gy
          clear hX hY ge ge0 hf ht hf0 hf1 ht0 ht1
          have hadd := fun w' => iadd_any (ineg X) (ineg Y) (imag X) (imag Y) w' sX sY
          simp only [ival_canon] at hadd
          obtain ⟨ef, hef⟩ : ∃ x, x = e.f := ⟨_, rfl⟩
          obtain ⟨el, hel⟩ : ∃ x, x = e.l := ⟨_, rfl⟩
          obtain ⟨et, het⟩ : ∃ x, x = e.t := ⟨_, rfl⟩
          rw [← hef] at q0 hcall
          rw [← hel] at q1 hcall
          rw [← het] at q2 hcall
          clear hce hef hel het
          have hx := Blk.new wr 110 [.int .i64 ef, .int .i64 el, .int .i64 et]
          have x0 := hx.cell (j := 0) rfl
          have x1 := hx.cell (j := 1) rfl
          have x2 := hx.cell (j := 2) rfl
          have hnow := hblk.alloc (.cells #[.int .i64 ef, .int .i64 el, .int .i64 et] 110)
          have hbk3 := hbkr.alloc (.cells #[.int .i64 ef, .int .i64 el, .int .i64 et] 110)
          have hbl3 : b < wq.heap.size := hbb
          have HNOW := Lib.hid hnow; clear hnow
          have HBK3 := Lib.hid hbk3; clear hbk3
          have HCALL := Lib.hid hcall; clear hcall
          have HADD := Lib.hid hadd; clear hadd
          have HSU := Lib.hid hsucc; clear hsucc
          have GX := Lib.hid gx; clear gx
          have GY := Lib.hid gy; clear gy
          clear hblk hbkr sX sY hb3 hx
          go_wp2_with fail
          refine HCALL.out.mono ?_
          rintro e' w2 ⟨hq2, rfl⟩
          have hn2 := HNOW.out.keep hq2
          have hb2 := HBK3.out.keep hq2
          have n0 := hn2.cell (civ_get GX.out).1
          have n1 := hn2.cell (civ_get GX.out).2
          have y0 := hb2.cell (civ_get GY.out).1
          have y1 := hb2.cell (civ_get GY.out).2
          have hw2 : wr.heap.size < w2.heap.size := by have := hq2.size; simp at this; omega
          have hix1 : (0 : Int) ≤ (f : Int) := by omega
          have hix2 : (f : Int) < (S : Int) := by omega
          have hix3 : (0 : Int) ≤ (t : Int) := by omega
          have hix4 : (t : Int) < (S : Int) := by omega
          have HN2 := Lib.hid hn2; clear hn2
          have HB2' := Lib.hid hb2; clear hb2
          have HQ2 := Lib.hid hq2; clear hq2
          clear x0 x1 x2 q0 q1 q2
          go_wp2_with fail
          refine wp_region_held_drew (S := fun w' => w'.cell? ⟨b, t * 2, none⟩ = some (.bool (ineg Y)) ∧ w'.cell? ⟨b, t * 2 + 1, none⟩ = some (.string (imag Y))) (by kernel_rfl) ?_ (fun hHeld => ?_)
          · go_keep
          refine wpAnyH_take (i := 0) (v := ?_) rfl (by kernel_rfl) (by kernel_rfl) (by kernel_rfl) (fun _ _ _ h => h) (Or.inl ⟨by rfl, ?_⟩) (by assumption) ?_
          rotate_left
          · (intro wS hSw; (try dsimp only at hSw); go_simp; (try with_reducible rfl))
          (try simp only [Act.put, List.setIfInBounds_toArray, List.set_cons_zero, List.set_cons_succ])
          refine wpAnyH_take (i := 1) (v := ?_) rfl (by kernel_rfl) (by kernel_rfl) (by kernel_rfl) (fun _ _ _ h => h) (Or.inl ⟨by rfl, ?_⟩) (by assumption) ?_
          rotate_left
          · (intro wS hSw; (try dsimp only at hSw); go_simp; (try with_reducible rfl))
          (try simp only [Act.put, List.setIfInBounds_toArray, List.set_cons_zero, List.set_cons_succ])
          refine wpAnyH_take (i := 2) (v := ?_) rfl (by kernel_rfl) (by kernel_rfl) (by kernel_rfl) (fun _ _ _ h => h) (Or.inl ⟨by rfl, ?_⟩) (by assumption) ?_
          rotate_left
          · (intro wS hSw; (try dsimp only at hSw); go_simp; (try with_reducible rfl))
          (try simp only [Act.put, List.setIfInBounds_toArray, List.set_cons_zero, List.set_cons_succ])
          refine wpAnyH_take (i := 3) (v := ?_) rfl (by kernel_rfl) (by kernel_rfl) (by kernel_rfl) (fun _ _ _ h => h) (Or.inl ⟨by rfl, ?_⟩) (by assumption) ?_
          rotate_left
          · (intro wS hSw; (try dsimp only at hSw); go_simp; (try with_reducible rfl))
          (try simp only [Act.put, List.setIfInBounds_toArray, List.set_cons_zero, List.set_cons_succ])
          refine wpAnyH_take (i := 4) (v := ?_) rfl (by kernel_rfl) (by kernel_rfl) (by kernel_rfl) (fun _ _ _ h => h) (Or.inl ⟨by rfl, ?_⟩) (by assumption) ?_
          rotate_left
          · (intro wS hSw; (try dsimp only at hSw); go_simp; (try with_reducible rfl))
          (try simp only [Act.put, List.setIfInBounds_toArray, List.set_cons_zero, List.set_cons_succ])
          refine wpAnyH_take (i := 6) (v := ?_) rfl (by kernel_rfl) (by kernel_rfl) (by kernel_rfl) (fun _ _ _ h => h) (Or.inl ⟨by rfl, ?_⟩) (by assumption) ?_
          rotate_left
          · (intro wS hSw; (try dsimp only at hSw); go_simp; (try with_reducible rfl))
          (try simp only [Act.put, List.setIfInBounds_toArray, List.set_cons_zero, List.set_cons_succ])
          refine wpAnyH_take (i := 7) (v := ?_) rfl (by kernel_rfl) (by kernel_rfl) (by kernel_rfl) (fun _ _ _ h => h) (Or.inl ⟨by rfl, ?_⟩) (by assumption) ?_
          rotate_left
          · (intro wS hSw; (try dsimp only at hSw); go_simp; (try with_reducible rfl))
          (try simp only [Act.put, List.setIfInBounds_toArray, List.set_cons_zero, List.set_cons_succ])
          refine wpAnyH_take (i := 8) (v := ?_) rfl (by kernel_rfl) (by kernel_rfl) (by kernel_rfl) (fun _ _ _ h => h) (Or.inl ⟨by rfl, ?_⟩) (by assumption) ?_
          rotate_left
          · (intro wS hSw; (try dsimp only at hSw); go_simp; (try with_reducible rfl))
          (try simp only [Act.put, List.setIfInBounds_toArray, List.set_cons_zero, List.set_cons_succ])
          refine wpAnyH_take (i := 9) (v := ?_) rfl (by kernel_rfl) (by kernel_rfl) (by kernel_rfl) (fun _ _ _ h => h) (Or.inl ⟨by rfl, ?_⟩) (by assumption) ?_
          rotate_left
          · (intro wS hSw; (try dsimp only at hSw); go_simp; (try with_reducible rfl))
          (try simp only [Act.put, List.setIfInBounds_toArray, List.set_cons_zero, List.set_cons_succ])
          refine wpAnyH_ready (rs := [5]) (by kernel_rfl) (by simp) ?_
          refine AllReadyH.cons rfl (fun K hK => ?_) AllReadyH.nil
          go_simp
          refine hK.out _ _ ?_ (fun hHeld => ?_)
          · ((try dsimp only); go_keep)
          clear hK K
          (try simp only [Act.put, List.setIfInBounds_toArray, List.set_cons_zero, List.set_cons_succ])
          refine wpAnyH_ready (rs := [10]) (by kernel_rfl) (by simp) ?_
          refine AllReadyH.cons rfl (fun K hK => ?_) AllReadyH.nil
          go_simp
          go_at_call 21
          refine (HADD.out _).mono ?_
          rintro e' w3 ⟨hq3, rfl⟩
          dsimp only
          have z3 := (hq3.cell (p := ⟨b, t * 2, none⟩) (show b < w2.heap.size by omega)).trans hHeld.1
          have z4 := (hq3.cell (p := ⟨b, t * 2 + 1, none⟩) (show b < w2.heap.size by omega)).trans hHeld.2
          refine hK.out _ _ ⟨z3, z4⟩ (fun hHeld2 => ?_)
          clear hK K n0 n1
          have hn3 := HN2.out.drew.keep hq3
          have u0 := hn3.cell (civ_get GX.out).1
          have u1 := hn3.cell (civ_get GX.out).2
          have v0 := hn3.frozen (f * 2)
          have v1 := hn3.frozen (f * 2 + 1)
          have hne1 : ¬ wq.heap.size = b := by omega
          have HN3 := Lib.hid hn3; clear hn3
          have HQ3 := Lib.hid hq3; clear hq3
          (try simp only [Act.put, List.setIfInBounds_toArray, List.set_cons_zero, List.set_cons_succ])
          refine wpAnyH_take (i := 11) (v := ?_) rfl (by kernel_rfl) (by kernel_rfl) (by kernel_rfl) (fun _ _ _ h => h) (Or.inl ⟨by rfl, ?_⟩) (by assumption) ?_
          rotate_left
          · (intro wS hSw; (try dsimp only at hSw); go_simp; (try with_reducible rfl))
          (try simp only [Act.put, List.setIfInBounds_toArray, List.set_cons_zero, List.set_cons_succ])
          refine wpAnyH_ready (rs := [12]) (by kernel_rfl) (by simp) ?_
          refine AllReadyH.cons rfl (fun K hK => ?_) AllReadyH.nil
          go_simp
          refine hK.out _ _ ?_ (fun hHeld => ?_)
          · ((try dsimp only); go_keep)
          clear hK K
          (try simp only [Act.put, List.setIfInBounds_toArray, List.set_cons_zero, List.set_cons_succ])
          refine wpAnyH_done (by kernel_rfl) ?_ _
          go_wp2_with fail
          go_roundw
          case rel =>
            have s1 := HB3.out.alloc (Nat.le_of_lt hs3) (.cells #[.int .i64 ef, .int .i64 el, .int .i64 et] 110)
            have s2 := (s1.trans (HQ2.out.mono s1.size)).drew
            have s3 := s2.trans (HQ3.out.mono s2.size)
            refine ⟨q + 1, by omega, by go_num, (s3.setCell (p := ⟨wq.heap.size, f * 2, none⟩) (Nat.le_refl _) _).setCell (p := ⟨wq.heap.size, f * 2 + 1, none⟩) (Nat.le_refl _) _, ?_⟩
            rw [← HSU.out, ← civ_set]
            exact (HN3.out.set _ _).set _ _
          case measure => simp [intOf]; omega
        · obtain rfl : q = m := by omega
          rw [← HEL.out, rowP_full] at hblk
          have HBN := Lib.hid hblk; clear hblk
          go_wp2_with fail
          go_roundw
          case rel =>
            have s1 := HB2.out.trans (HB3.out.mono (by omega))
            exact ⟨k + 1, wq.heap.size, by omega, by go_num, rfl, s1, HBN.out⟩
          case measure => simp [intOf]; omega
    · obtain rfl : k = n := by omega
      go_wp2_with fail
      go_ret
      exact ⟨HBW0.out, _, rfl, HBK.out⟩
end Go.Proofs.Ytalipfnbpnkgnaa

/- counting.Paths at valid graphs, states and lengths. -/
namespace Go.Proofs.Ytalipfnbpnkgnaa
open Go.RowKit

/-- An edge turned round. -/
def swp (e : E3) : E3 := ⟨e.t, e.l, e.f⟩
theorem swp_inS {S : Nat} {es : List E3} (h : InS S es) : InS S (es.map swp) := fun e he => by
  obtain ⟨x, hx, rfl⟩ := List.mem_map.1 he
  have := h x hx
  exact ⟨this.2.2.1, this.2.2.2, this.1, this.2.1⟩
/-- The number of paths of length n from s to t. -/
def pth (es : List E3) (n : Nat) (s t : Int) : Int := cw (es.map swp) (fun x => x == s) n t
theorem row_one (es : List E3) {S s : Nat} (hs : s < S) : (List.replicate S (0 : Int)).set s 1 = rowK es S (fun x => x == (s : Int)) 0 := by
  apply List.ext_getElem?
  intro i
  by_cases hi : i < S
  · rw [rowK_get hi]
    by_cases e : i = s
    · subst e
      rw [List.getElem?_set_self (by simpa using hi)]
      simp [cw]
    · rw [List.getElem?_set_ne (fun h => e h.symm), List.getElem?_replicate, if_pos hi]
      have : ¬ ((i : Int) = (s : Int)) := by omega
      simp [cw, this]
  · rw [List.getElem?_eq_none (by simp; omega), List.getElem?_eq_none (by rw [rowK_length]; omega)]
set_option maxRecDepth 100000 in
set_option maxHeartbeats 3200000 in
theorem paths1_any (e : E3) (w : World) :
    Calls Try.prog 92 #[.agg #[.int .i64 e.f, .int .i64 e.l, .int .i64 e.t]] w (Ret w (.tuple #[.int .i64 (swp e).t, .int .i64 (swp e).f])) := by
  have s0 := (Below.refl w.heap.size w).alloc (Nat.le_refl _) (.cells #[.int .i64 e.f, .int .i64 e.l, .int .i64 e.t] 110)
  have hx := Blk.new w 110 [.int .i64 e.f, .int .i64 e.l, .int .i64 e.t]
  have x0 := hx.cell (j := 0) rfl
  have x2 := hx.cell (j := 2) rfl
  have hs : (swp e).t = e.f ∧ (swp e).f = e.t := ⟨rfl, rfl⟩
  rw [hs.1, hs.2]
  have S0 := Lib.hid s0; clear s0
  clear hx hs
  go_enter Try.func92, Try.ntmps92
  go_wp2_with fail
  refine wp_region_held_drew (S := fun w' => w'.cell? ⟨w.heap.size, 0, none⟩ = some (.int .i64 e.f) ∧ w'.cell? ⟨w.heap.size, 2, none⟩ = some (.int .i64 e.t)) (by kernel_rfl) ?_ (fun hHeld => ?_)
  · go_keep
  refine wpAnyH_take (i := 0) (v := ?_) rfl (by kernel_rfl) (by kernel_rfl) (by kernel_rfl) (fun _ _ _ h => h) (Or.inl ⟨by rfl, ?_⟩) (by assumption) ?_
  rotate_left
  · (intro wS hSw; (try dsimp only at hSw); go_simp; (try with_reducible rfl))
  (try simp only [Act.put, List.setIfInBounds_toArray, List.set_cons_zero, List.set_cons_succ])
  refine wpAnyH_take (i := 1) (v := ?_) rfl (by kernel_rfl) (by kernel_rfl) (by kernel_rfl) (fun _ _ _ h => h) (Or.inl ⟨by rfl, ?_⟩) (by assumption) ?_
  rotate_left
  · (intro wS hSw; (try dsimp only at hSw); go_simp; (try with_reducible rfl))
  (try simp only [Act.put, List.setIfInBounds_toArray, List.set_cons_zero, List.set_cons_succ])
  refine wpAnyH_take (i := 2) (v := ?_) rfl (by kernel_rfl) (by kernel_rfl) (by kernel_rfl) (fun _ _ _ h => h) (Or.inl ⟨by rfl, ?_⟩) (by assumption) ?_
  rotate_left
  · (intro wS hSw; (try dsimp only at hSw); go_simp; (try with_reducible rfl))
  (try simp only [Act.put, List.setIfInBounds_toArray, List.set_cons_zero, List.set_cons_succ])
  refine wpAnyH_take (i := 3) (v := ?_) rfl (by kernel_rfl) (by kernel_rfl) (by kernel_rfl) (fun _ _ _ h => h) (Or.inl ⟨by rfl, ?_⟩) (by assumption) ?_
  rotate_left
  · (intro wS hSw; (try dsimp only at hSw); go_simp; (try with_reducible rfl))
  (try simp only [Act.put, List.setIfInBounds_toArray, List.set_cons_zero, List.set_cons_succ])
  refine wpAnyH_take (i := 4) (v := ?_) rfl (by kernel_rfl) (by kernel_rfl) (by kernel_rfl) (fun _ _ _ h => h) (Or.inl ⟨by rfl, ?_⟩) (by assumption) ?_
  rotate_left
  · (intro wS hSw; (try dsimp only at hSw); go_simp; (try with_reducible rfl))
  (try simp only [Act.put, List.setIfInBounds_toArray, List.set_cons_zero, List.set_cons_succ])
  refine wpAnyH_take (i := 5) (v := ?_) rfl (by kernel_rfl) (by kernel_rfl) (by kernel_rfl) (fun _ _ _ h => h) (Or.inl ⟨by rfl, ?_⟩) (by assumption) ?_
  rotate_left
  · (intro wS hSw; (try dsimp only at hSw); go_simp; (try with_reducible rfl))
  (try simp only [Act.put, List.setIfInBounds_toArray, List.set_cons_zero, List.set_cons_succ])
  refine wpAnyH_done (by kernel_rfl) ?_ _
  (try simp only [List.getElem_toArray, List.getElem_cons_zero, List.getElem_cons_succ, Act.put, List.setIfInBounds_toArray, List.set_cons_zero, List.set_cons_succ])
  go_wp2_with fail
  go_ret2
  exact ⟨S0.out.drew, rfl⟩
set_option maxRecDepth 100000 in
set_option maxHeartbeats 3200000 in
theorem ccheck_ok0 (L S : Int) (n : Nat) (es : List E3) (v : Value) (w : World) (hr : Row w v es.length (ce es)) (hok : okEs es) (hc : chk L S es = 0) (hn : n ≤ 4096) :
    Calls Try.prog 67 #[.agg #[.int .i64 L, .int .i64 S, v], .int .i64 0, .int .i64 (n : Int)] w (Ret w (.int .i64 0)) := by
  have s0 := (Below.refl w.heap.size w).alloc (Nat.le_refl _) (.cells #[.int .i64 L, .int .i64 S, v] 24)
  have hck := check_any L S es v _ (hr.below s0 (Nat.le_refl _)) hok
  rw [hc] at hck
  have t1 : decide ((n : Int) < 0) = false := decide_eq_false (by omega)
  have t2 : decide (4096 < (n : Int)) = false := decide_eq_false (by omega)
  have b0 := Blk.new w 24 [.int .i64 L, .int .i64 S, v]
  have x0 := b0.cell (j := 0) rfl
  have x1 := b0.cell (j := 1) rfl
  have x2 := b0.cell (j := 2) rfl
  have HCK := Lib.hid hck; clear hck
  have S0 := Lib.hid s0; clear s0
  clear hr hok hc b0
  go_enter Try.func67, Try.ntmps67
  go_wp2_with fail
  go_at_call 86
  refine HCK.out.mono ?_
  rintro e w1 ⟨hq, rfl⟩
  have HQ := Lib.hid hq; clear hq
  go_wp2_with fail
  go_ret
  exact ⟨S0.out.trans (HQ.out.mono S0.out.size), rfl⟩
set_option maxRecDepth 100000 in
set_option maxHeartbeats 3200000 in
theorem paths_ok (L : Int) (S s t n : Nat) (es : List E3) (v : Value) (w : World) (hr : Row w v es.length (ce es)) (hok : okEs es) (hc : chk L (S : Int) es = 0) (hs : s < S) (ht : t < S) (hn : n ≤ 4096) :
    Calls Try.prog 54 #[.agg #[.int .i64 L, .int .i64 (S : Int), v], .int .i64 (s : Int), .int .i64 (t : Int), .int .i64 (n : Int)] w (Ret w (.tuple #[IntV (pth es n (s : Int) (t : Int)), .int .i64 0])) := by
  obtain ⟨va, vc, rfl, hle⟩ := hr.slice
  obtain ⟨mm, hmm⟩ : ∃ mm, mm = es.length := ⟨_, rfl⟩
  have hca := chk_all hc
  have hinS := swp_inS (chk_inS hc)
  have s0 := ((Below.refl w.heap.size w).alloc (Nat.le_refl _) (.cells #[.int .i64 L, .int .i64 (S : Int), .slice va es.length vc] 24)).alloc (by simp) (.cells #[.bool false, .string ⟨#[]⟩] 26)
  have b0 := (Blk.new w 24 [.int .i64 L, .int .i64 (S : Int), .slice va es.length vc]).alloc (.cells #[.bool false, .string ⟨#[]⟩] 26)
  have b1 := Blk.new (w.alloc (.cells #[.int .i64 L, .int .i64 (S : Int), .slice va es.length vc] 24)) 26 [.bool false, .string ⟨#[]⟩]
  simp only [World.size_alloc] at b1
  have hr0 := hr.below s0 (Nat.le_refl _)
  have hck := check_any L (S : Int) es (.slice va es.length vc) _ hr0 hok
  rw [hc] at hck
  have hcc := fun w' h => ccheck_ok0 L (S : Int) n es (.slice va es.length vc) w' h hok hc hn
  have hof := fun w' => iof_any 1 w' (by decide) (by decide)
  have hct := fun bl w' (h : Row w' (.slice va es.length vc) es.length (ce es)) hb => count_any L S n bl es (.slice va es.length vc) 92 swp (fun x => x == (s : Int)) w' h (by omega) hn (by omega) hinS (fun args w => enters_of Try.func92 (by kernel_rfl) rfl args w) paths1_any hb
  have gx : (rowK (es.map swp) S (fun x => x == (s : Int)) n)[t]? = some (pth es n (s : Int) (t : Int)) := rowK_get ht
  obtain ⟨R, hR⟩ : ∃ R, R = rowK (es.map swp) S (fun x => x == (s : Int)) n := ⟨_, rfl⟩
  obtain ⟨X, hX⟩ : ∃ X, X = pth es n (s : Int) (t : Int) := ⟨_, rfl⟩
  rw [← hR] at hct gx
  rw [← hX] at gx ⊢
  rw [← row_one (es.map swp) hs] at hct
  rw [← hmm] at s0 b0 b1 hr0 hck hle hcc hct
  have hmk := mkI S (by omega) (S : Int) rfl
  have t1 : decide ((s : Int) < 0) = false := decide_eq_false (by omega)
  have t2 : decide ((S : Int) ≤ (s : Int)) = false := decide_eq_false (by omega)
  have t3 : decide ((t : Int) < 0) = false := decide_eq_false (by omega)
  have t4 : decide ((S : Int) ≤ (t : Int)) = false := decide_eq_false (by omega)
  have HMM := Lib.hid hmm; clear hmm
  have HCK := Lib.hid hck; clear hck
  have HCC := Lib.hid hcc; clear hcc
  have HOF := Lib.hid hof; clear hof
  have HCT := Lib.hid hct; clear hct
  have S0 := Lib.hid s0; clear s0
  have B0 := Lib.hid b0; clear b0
  have B1 := Lib.hid b1; clear b1
  have HR := Lib.hid hr0; clear hr0
  have GX := Lib.hid gx; clear gx
  clear hr hok hc hca hinS hR hX
  go_enter Try.func54, Try.ntmps54
  rw [← HMM.out]
  go_wp2_with fail
  go_at_call 86
  refine HCK.out.mono ?_
  rintro e w1 ⟨hq1, rfl⟩
  have s1 := S0.out.trans (hq1.mono S0.out.size)
  have hr1 := HR.out.below hq1 (Nat.le_refl _)
  have tk := B0.out.keep hq1; have x0 := tk.cell (j := 0) rfl; have x1 := tk.cell (j := 1) rfl; have x2 := tk.cell (j := 2) rfl; have C0 := Lib.hid tk; clear tk
  have y0 := B1.out.keep hq1
  have C1 := Lib.hid y0; clear y0
  have S1 := Lib.hid s1; clear s1
  have HR1 := Lib.hid hr1; clear hr1
  clear hq1
  go_wp2_with fail
  go_at_call 67
  refine (HCC.out _ HR1.out).mono ?_
  rintro e w2 ⟨hq1, rfl⟩
  have s1 := S1.out.trans (hq1.mono S1.out.size)
  have hr1 := HR1.out.below hq1 (Nat.le_refl _)
  clear x0 x1 x2
  have tk := C0.out.keep hq1; have x0 := tk.cell (j := 0) rfl; have x1 := tk.cell (j := 1) rfl; have x2 := tk.cell (j := 2) rfl; have D0 := Lib.hid tk; clear tk
  have y0 := C1.out.keep hq1
  have D1 := Lib.hid y0; clear y0
  have S2 := Lib.hid s1; clear s1
  have HR2 := Lib.hid hr1; clear hr1
  clear hq1 t1 t2 t3 t4
  have hw2 : w.heap.size + 1 < w2.heap.size := D1.out.lt
  go_wp2_with fail
  go_at_call 18
  refine (HOF.out _).mono ?_
  rintro e w3 ⟨hq1, rfl⟩
  have nb := (blk_mkI w2 S).keep hq1
  have bl := Below.alloc (Below.refl w2.heap.size w2) (Nat.le_refl _) (.cells (zarr (.agg #[.bool false, .string ⟨#[]⟩]) S) 26)
  have bq := bl.trans (hq1.mono bl.size)
  have s1 := S2.out.trans (bq.mono S2.out.size)
  have hr1 := HR2.out.below bq (Nat.le_refl _)
  have e0 := D0.out.below bq (by omega)
  have e1 := D1.out.below bq (by omega)
  have hl3 := nb.lt
  have hss : (civ (List.replicate S 0))[s * 2]? = some (.bool (ineg 0)) ∧ (civ (List.replicate S 0))[s * 2 + 1]? = some (.string (imag 0)) := civ_get (by rw [List.getElem?_replicate, if_pos hs])
  have n0 := nb.cell hss.1
  have n1 := nb.cell hss.2
  have f0 := nb.frozen (s * 2)
  have f1 := nb.frozen (s * 2 + 1)
  have hix1 : (0 : Int) ≤ (s : Int) := by omega
  have hix2 : (s : Int) < (S : Int) := by omega
  have hix3 : (0 : Int) ≤ (t : Int) := by omega
  have hix4 : (t : Int) < (S : Int) := by omega
  have nz := (nb.set (s * 2) (.bool (ineg 1))).set (s * 2 + 1) (.string (imag 1))
  rw [civ_set] at nz
  have sz := (s1.setCell (p := ⟨w2.heap.size, s * 2, none⟩) (show w.heap.size ≤ w2.heap.size by omega) (.bool (ineg 1))).setCell (p := ⟨w2.heap.size, s * 2 + 1, none⟩) (show w.heap.size ≤ w2.heap.size by omega) (.string (imag 1))
  have bz := (bq.setCell (p := ⟨w2.heap.size, s * 2, none⟩) (Nat.le_refl _) (.bool (ineg 1))).setCell (p := ⟨w2.heap.size, s * 2 + 1, none⟩) (Nat.le_refl _) (.string (imag 1))
  have rz := HR2.out.below bz (Nat.le_refl _)
  have ez := D0.out.below bz (by omega)
  have fz := D1.out.below bz (by omega)
  obtain ⟨wz, hwz⟩ : ∃ wz, (w3.setCell ⟨w2.heap.size, s * 2, none⟩ (.bool (ineg 1))).setCell ⟨w2.heap.size, s * 2 + 1, none⟩ (.string (imag 1)) = wz := ⟨_, rfl⟩
  rw [hwz] at nz sz bz rz ez fz
  have x0' := ez.cell (j := 0) rfl
  have x1' := ez.cell (j := 1) rfl
  have x2' := ez.cell (j := 2) rfl
  have NZ := Lib.hid nz; clear nz
  have SZ := Lib.hid sz; clear sz
  have RZ := Lib.hid rz; clear rz
  have FZ := Lib.hid fz; clear fz
  clear hq1 x0 x1 x2 nb s1 hr1 e0 e1 bq bl bz ez hss
  go_wp2_with fail
  go_at_call 91
  refine (HCT.out _ _ RZ.out NZ.out).mono ?_
  rintro e w4 ⟨hq, b, rfl, hb⟩
  have s4 := SZ.out.trans (hq.mono SZ.out.size)
  have fz := FZ.out.keep hq
  have c0 := hb.cell (civ_get GX.out).1
  have c1 := hb.cell (civ_get GX.out).2
  have r0 := fz.cell (j := 0) rfl
  have r1 := fz.cell (j := 1) rfl
  have g0 := fz.frozen 0
  have g1 := fz.frozen 1
  have S4 := Lib.hid s4; clear s4
  have HB := Lib.hid hb; clear hb
  clear hq n0 n1 f0 f1 x0' x1' x2' hwz
  go_wp2_with fail
  refine bodyPost_ret (v := .tuple #[IntV X, .int .i64 0]) ?_ rfl ?_
  · have e0 := ((fz.set 0 (.bool (ineg X))).set 1 (.string (imag X))).cell (j := 0) rfl
    have e1 := ((fz.set 0 (.bool (ineg X))).set 1 (.string (imag X))).cell (j := 1) rfl
    simp [results, Try.results54, go_sem, e0, e1, IntV]
  · exact ⟨(S4.out.setCell (p := ⟨w.heap.size + 1, 0, none⟩) (show w.heap.size ≤ w.heap.size + 1 by omega) _).setCell (p := ⟨w.heap.size + 1, 1, none⟩) (show w.heap.size ≤ w.heap.size + 1 by omega) _, rfl⟩
end Go.Proofs.Ytalipfnbpnkgnaa

/- Paths to the states of a set add up to the words to it, in plain Lean. -/
namespace Go.Proofs.Ytalipfnbpnkgnaa
open Go.RowKit

theorem sum_zero' {α : Type} (l : List α) : (l.map fun _ => (0 : Int)).sum = 0 := by
  induction l with
  | nil => rfl
  | cons x l ih => simp [ih]
theorem sum_add' {α : Type} (l : List α) (f g : α → Int) : (l.map fun x => f x + g x).sum = (l.map f).sum + (l.map g).sum := by
  induction l with
  | nil => rfl
  | cons x l ih => simp only [List.map_cons, List.sum_cons, ih]; omega
theorem sum_swap {α β : Type} (l : List α) (m : List β) (f : α → β → Int) : (l.map fun x => (m.map fun y => f x y).sum).sum = (m.map fun y => (l.map fun x => f x y).sum).sum := by
  induction l with
  | nil => simp only [List.map_nil, List.sum_nil]; exact (sum_zero' m).symm
  | cons x l ih => simp only [List.map_cons, List.sum_cons, ih]; exact (sum_add' m _ _).symm
theorem sum_filter' {α : Type} (l : List α) (q : α → Bool) (f : α → Int) : ((l.filter q).map f).sum = (l.map fun x => if q x = true then f x else 0).sum := by
  induction l with
  | nil => rfl
  | cons x l ih =>
    cases h : q x with
    | true => simp [List.filter_cons, h, ih]
    | false => simp [List.filter_cons, h, ih]
def ind (t : Int) : Int → Bool := fun x => x == t
theorem cw_ind0 (es : List E3) (s t : Int) : cw es (ind t) 0 s = if s = t then 1 else 0 := by
  unfold ind; rw [cw]; simp
/-- By the last edge. -/
theorem cw_last (es : List E3) : ∀ (n : Nat) (s t : Int), cw es (ind t) (n + 1) s = ((es.filter fun e => e.t == t).map fun e => cw es (ind e.f) n s).sum
  | 0, s, t => by
    rw [cw, sum_filter', sum_filter']
    congr 1
    apply List.map_congr_left
    intro e _
    rw [cw_ind0, cw_ind0]
    by_cases h1 : e.f = s
    · by_cases h2 : e.t = t
      · simp [h1, h2]
      · simp [h1, h2]
    · have h1' : ¬ s = e.f := fun h => h1 h.symm
      by_cases h2 : e.t = t
      · simp [h1, h1', h2]
      · simp [h1, h2]
  | n + 1, s, t => by
    rw [cw]
    rw [show (fun e : E3 => cw es (ind t) (n + 1) e.t) = fun e => ((es.filter fun e' => e'.t == t).map fun e' => cw es (ind e'.f) n e.t).sum from funext fun e => cw_last es n e.t t]
    rw [sum_swap]
    rfl
/-- Turned round, the paths lead back. -/
theorem cw_turn (es : List E3) : ∀ (n : Nat) (s t : Int), cw (es.map swp) (ind s) n t = cw es (ind t) n s
  | 0, s, t => by rw [cw_ind0, cw_ind0]; by_cases h : s = t <;> simp [h, eq_comm]
  | n + 1, s, t => by
    rw [cw_last es n s t, cw, List.filter_map, List.map_map]
    congr 1
    apply List.map_congr_left
    intro e _
    exact cw_turn es n s e.f
theorem pth_eq (es : List E3) (n : Nat) (s t : Int) : pth es n s t = cw es (ind t) n s := cw_turn es n s t
/-- To the states of a set. -/
theorem cw_set (es : List E3) {l : List Int} (hl : l.Pairwise (· < ·)) : ∀ (n : Nat) (s : Int), (l.map fun t => cw es (ind t) n s).sum = cw es (pin l) n s
  | 0, s => by
    rw [cw]
    induction l with
    | nil => simp [pin]
    | cons x l ih =>
      obtain ⟨h1, h2⟩ := List.pairwise_cons.1 hl
      rw [List.map_cons, List.sum_cons, ih h2, cw_ind0]
      unfold pin
      by_cases hx : s = x
      · have : s ∉ l := fun h => by have := h1 s h; omega
        simp [hx]
        rw [hx] at this
        simp [this]
      · simp [hx]
  | n + 1, s => by
    rw [cw]
    rw [show (fun t : Int => cw es (ind t) (n + 1) s) = fun t => ((es.filter fun e => e.f == s).map fun e => cw es (ind t) n e.t).sum from rfl]
    rw [sum_swap]
    congr 1
    apply List.map_congr_left
    intro e _
    exact cw_set es hl n e.t
theorem pth_set (es : List E3) {l : List Int} (hl : l.Pairwise (· < ·)) (n : Nat) (s : Int) : (l.map fun t => pth es n s t).sum = cw es (pin l) n s := by
  rw [← cw_set es hl]
  congr 1
  apply List.map_congr_left
  intro t _
  exact pth_eq es n s t
end Go.Proofs.Ytalipfnbpnkgnaa

/- groovelaw29.choose: some of the states, in order; slices.Contains at a row of ints. -/
namespace Go.Proofs.Ytalipfnbpnkgnaa
open Go.RowKit

/-- Some of the states below k, in order. -/
def SomeS (k : Nat) (l : List Int) : Prop := InR k l ∧ l.Pairwise (· < ·)
theorem SomeS.nil : SomeS 0 [] := ⟨fun x hx => (by cases hx), List.Pairwise.nil⟩
theorem SomeS.skip {k : Nat} {l : List Int} (h : SomeS k l) : SomeS (k + 1) l := ⟨fun x hx => by have := h.1 x hx; omega, h.2⟩
theorem SomeS.take {k : Nat} {l : List Int} (h : SomeS k l) : SomeS (k + 1) (l ++ [(k : Int)]) := by
  refine ⟨fun x hx => ?_, ?_⟩
  · rcases List.mem_append.1 hx with h1 | h1
    · have := h.1 x h1; omega
    · obtain rfl : x = (k : Int) := by simpa using h1
      omega
  · rw [List.pairwise_append]
    refine ⟨h.2, List.pairwise_singleton _ _, fun a ha b hb => ?_⟩
    obtain rfl : b = (k : Int) := by simpa using hb
    have := h.1 a ha; omega
theorem asc_len {k : Nat} {l : List Int} (h : SomeS k l) : l.length ≤ k := by
  have h1 : ∀ (l : List Int) (a b : Int), (∀ x ∈ l, a ≤ x ∧ x < b) → l.Pairwise (· < ·) → (l.length : Int) ≤ max 0 (b - a) := by
    intro l
    induction l with
    | nil => intro a b _ _; simp; omega
    | cons x l ih =>
      intro a b h hp
      have h1 := h x (by simp)
      obtain ⟨h2, h3⟩ := List.pairwise_cons.1 hp
      have := ih (x + 1) b (fun y hy => ⟨by have := h2 y hy; omega, (h y (by simp [hy])).2⟩) h3
      rw [List.length_cons]
      omega
  have := h1 l 0 k (fun x hx => h.1 x hx) h.2
  omega
def SomeRet (S : Nat) (w : World) (e : Ending) (w' : World) : Prop := Below w.heap.size w w' ∧ ∃ v l, e = .returned v ∧ SomeS S l ∧ Row w' v l.length (ci l)
set_option maxRecDepth 100000 in
set_option maxHeartbeats 3200000 in
theorem choose_any (L : Int) (S nb : Nat) (v : Value) (w : World) (hS : S ≤ 64) (hnb : nb ≤ 65535) :
    Calls Try.prog 24 #[.agg #[.int .i64 L, .int .i64 (S : Int), v], .int .u16 (nb : Int)] w (SomeRet S w) := by
  obtain ⟨i0, hi, hz0, hz1', hz2'⟩ := info_parts infoIntP
  have b0 := Blk.new w 24 [.int .i64 L, .int .i64 (S : Int), v]
  have x1 := b0.cell (j := 1) rfl
  have s0 := (Below.refl w.heap.size w).alloc (Nat.le_refl _) (.cells #[.int .i64 L, .int .i64 (S : Int), v] 24)
  have B0 := Lib.hid b0; clear b0
  have S0 := Lib.hid s0; clear s0
  go_enter Try.func24, Try.ntmps24
  go_wp2_with fail
  clear x1
  go_loopw [5, 9] (fun u i wr => ∃ (k : Nat) (l : List Int), k ≤ S ∧ i = .int .i64 k ∧ SomeS k l ∧ wr.ownsRow (w.heap.size + 1) 3 1 u l.length (ci l) ∧ Below (w.heap.size + 1) (w.alloc (.cells #[.int .i64 L, .int .i64 (S : Int), v] 24)) wr) (fun _ i _ => S - (intOf i).toNat)
  case atStart => exact ⟨0, [], by omega, rfl, SomeS.nil, World.ownsRow_nil _ _ _ _, Below.refl _ _⟩
  case round =>
    obtain ⟨k, l, hk, rfl, hsl, hown, hbel⟩ := hrel
    have hsz : w.heap.size + 1 ≤ wr.heap.size := by have := hbel.size; simp at this; omega
    have hln := asc_len hsl
    obtain ⟨a, cap, rfl⟩ := own_slice hown
    have HO := Lib.hid hown; clear hown
    have HB := Lib.hid hbel; clear hbel
    have HSL := Lib.hid hsl; clear hsl
    by_cases hlt : k < S
    · have hk0 : (0 : Int) ≤ (k : Int) := by omega
      obtain ⟨tb, htb⟩ : ∃ tb, (bits BinOp.and IntKind.u16 ((nb : Int) / 2 ^ min k 16) 1 == 1) = tb := ⟨_, rfl⟩
      cases tb with
      | true =>
        have hci := ci_snoc l (k : Int)
        have HCI := Lib.hid hci; clear hci
        go_wp2_with (at_builtin; refine wpList_append_lies _ rfl (.tmp 17) (.tmp 19) 31 rfl (w.heap.size + 1) 3 i0 _ 1 8 Try.underlying31 hi hz0 hz1' hz2' rfl (by decide) _ _ _ rfl (HO.out.alloc _) _ 1 1 [.int .i64 (k : Int)] rfl rfl (World.news_of_block (heap_alloc_new _ _)) (by simp [Value.oneCell']) (by omega) (by unfold maxLen; omega) (by omega) (by simp; omega) _ rfl ?_; intro g cap' w3 hown' hg hat hlt'; have HG := Lib.hid hg; clear hg; have HO4 := Lib.hid hown'; clear hown'; have HAT := Lib.hid hat; clear hat)
        go_roundw
        case rel =>
          refine ⟨k + 1, l ++ [(k : Int)], by omega, by go_num, HSL.out.take, ?_, (HB.out.alloc hsz _).grown HG.out (by simp; omega) (fun j hj => (HO.out.lt j hj).1)⟩
          rw [List.length_append, List.length_singleton, HCI.out]; exact HO4.out
        case measure => simp [intOf]; omega
      | false =>
        go_wp2_with fail
        go_roundw
        case rel => exact ⟨k + 1, l, by omega, by go_num, HSL.out.skip, HO.out, HB.out⟩
        case measure => simp [intOf]; omega
    · obtain rfl : k = S := by omega
      have hbw : Below w.heap.size w wr := S0.out.trans (HB.out.mono (by omega))
      have HBW := Lib.hid hbw; clear hbw
      go_wp2_with fail
      go_ret
      exact ⟨HBW.out, _, l, rfl, HSL.out, own_row HO.out⟩
end Go.Proofs.Ytalipfnbpnkgnaa

/- groovelaw29.principal: whether a set is principal. -/
namespace Go.Proofs.Ytalipfnbpnkgnaa
open Go.RowKit

def PrcRet (es : List E3) (n : Nat) (m : Int) (set : List Int) (w : World) (e : Ending) (w' : World) : Prop := Below w.heap.size w w' ∧ ∃ b, e = .returned (.bool b) ∧ (b = true ↔ Prcp es n m set)
theorem inR_take {S : Nat} {l : List Int} (h : InR S l) {j : Nat} {x : Int} (hx : l[j]? = some x) : ∃ s : Nat, s < S ∧ x = s := by
  have := h x (List.mem_of_getElem? hx)
  exact ⟨x.toNat, by omega, by omega⟩
set_option maxRecDepth 100000 in
set_option maxHeartbeats 8000000 in
theorem lprc_any (L : Int) (S n : Nat) (m : Int) (es : List E3) (v vs : Value) (set : List Int) (w : World) (hr : Row w v es.length (ce es)) (hrs : Row w vs set.length (ci set)) (hok : okEs es) (hc : chk L (S : Int) es = 0) (hset : SomeS S set) (hn : n ≤ 4096) (hm : small m) :
    Calls Try.prog 22 #[.agg #[.int .i64 L, .int .i64 (S : Int), v], vs, .int .i64 (n : Int), .agg #[.bool (ineg m), .string (imag m)]] w (PrcRet es n m set w) := by
  obtain ⟨va, vc, rfl, hle⟩ := hr.slice
  obtain ⟨sa, sc, rfl, hsle⟩ := hrs.slice
  have hlen := asc_len hset
  have hca := chk_all hc
  obtain ⟨mm, hmm⟩ : ∃ mm, mm = es.length := ⟨_, rfl⟩
  obtain ⟨K, hK⟩ : ∃ K, K = set.length := ⟨_, rfl⟩
  have s0 := ((Below.refl w.heap.size w).alloc (Nat.le_refl _) (.cells #[.int .i64 L, .int .i64 (S : Int), .slice va es.length vc] 24)).alloc (by simp) (.cells #[.bool (ineg m), .string (imag m)] 26)
  have b0 := (Blk.new w 24 [.int .i64 L, .int .i64 (S : Int), .slice va es.length vc]).alloc (.cells #[.bool (ineg m), .string (imag m)] 26)
  have b1 := Blk.new (w.alloc (.cells #[.int .i64 L, .int .i64 (S : Int), .slice va es.length vc] 24)) 26 [.bool (ineg m), .string (imag m)]
  simp only [World.size_alloc] at b1
  have hpt := fun (s t : Nat) (hs : s < S) (ht : t < S) w' h => paths_ok L S s t n es (.slice va es.length vc) w' h hok hc hs ht hn
  have hbd : ∀ s t : Int, 0 ≤ pth es n s t ∧ pth es n s t ≤ bigM := fun s t => cw_bigM (es := es.map swp) (by rw [List.length_map]; omega) _ n hn t
  have hsm := fun s => pth_set es hset.2 n s
  rw [← hmm] at s0 b0 b1 hr hpt hle
  rw [← hK] at hrs hsle hlen
  have hK64 : K ≤ 64 := by omega
  have HMM := Lib.hid hmm; clear hmm
  have HK := Lib.hid hK; clear hK
  have S0 := Lib.hid s0; clear s0
  have B0 := Lib.hid b0; clear b0
  have B1 := Lib.hid b1; clear b1
  have HR := Lib.hid hr; clear hr
  have HRS := Lib.hid hrs; clear hrs
  have HPT := Lib.hid hpt; clear hpt
  have HBD := Lib.hid hbd; clear hbd
  have HSM := Lib.hid hsm; clear hsm
  have HSET := Lib.hid hset; clear hset
  clear hok hc
  go_enter Try.func22, Try.ntmps22
  rw [← HMM.out, ← HK.out]
  go_wp2_with fail
  go_loopw [18] (fun i wr => ∃ a : Nat, a ≤ K ∧ i = .int .i64 a ∧ Below (w.heap.size + 2) ((w.alloc (.cells #[.int .i64 L, .int .i64 (S : Int), .slice va mm vc] 24)).alloc (.cells #[.bool (ineg m), .string (imag m)] 26)) wr ∧ ∀ x ∈ set.take a, m ≤ cw es (pin set) n x) (fun i _ => K - (intOf i).toNat)
  case atStart => exact ⟨0, Nat.zero_le _, rfl, Below.refl _ _, by simp⟩
  case round =>
    obtain ⟨a, ha, rfl, hbel, hall⟩ := hrel
    obtain ⟨wq, rfl⟩ : ∃ wq : World, wq = wr := ⟨_, rfl⟩
    have hszq : w.heap.size + 2 ≤ wq.heap.size := by have := hbel.size; simp at this; omega
    have hbw0 : Below w.heap.size w wq := S0.out.trans (hbel.mono (by omega))
    have bgq := B0.out.below hbel (by simp)
    have bmq := B1.out.below hbel (by simp)
    have HALL := Lib.hid hall; clear hall
    have HBEL := Lib.hid hbel; clear hbel
    have HBW := Lib.hid hbw0; clear hbw0
    have BGQ := Lib.hid bgq; clear bgq
    have BMQ := Lib.hid bmq; clear bmq
    by_cases hlt : a < K
    · have hal : a < set.length := by rw [← HK.out]; exact hlt
      obtain ⟨x, hx⟩ : ∃ x, set[a]? = some x := ⟨set[a], List.getElem?_eq_getElem hal⟩
      obtain ⟨s, hsS, rfl⟩ := inR_take HSET.out.1 hx
      obtain ⟨b', off, rfl, hbw, hce⟩ := HRS.out.at_ (by omega)
      have c0 := (HBW.out.cell (p := ⟨b', off + a, none⟩) hbw).trans (hce a _ (ci_at hx))
      have HCE := Lib.hid hce; clear hce
      have HX := Lib.hid hx; clear hx
      go_wp2_with fail
      clear c0
      go_loopw [24] (fun i wr => ∃ b : Nat, b ≤ K ∧ i = .int .i64 b ∧ Below wq.heap.size wq wr ∧ ∃ sm : Int, sm = ((set.take b).map fun t => pth es n (s : Int) t).sum ∧ SumOk b sm ∧ Blk wr wq.heap.size 26 [.bool (ineg sm), .string (imag sm)]) (fun i _ => K - (intOf i).toNat)
      case atStart =>
        refine ⟨0, Nat.zero_le _, rfl, (Below.refl _ _).alloc (Nat.le_refl _) _, 0, by simp, ⟨by omega, by simp⟩, ?_⟩
        rw [imag_zero]
        exact Blk.new wq 26 [.bool false, .string ⟨#[]⟩]
      case round =>
        obtain ⟨b, hb, rfl, hbel2, sm, hsmd, hsmok, hblk⟩ := hrel
        have HB2 := Lib.hid hbel2; clear hbel2
        have HSMD := Lib.hid hsmd; clear hsmd
        have hs3 : wq.heap.size < wr.heap.size := hblk.lt
        have hbw2 : Below w.heap.size w wr := HBW.out.trans (HB2.out.mono (by omega))
        by_cases hlt3 : b < K
        · have hbl : b < set.length := by rw [← HK.out]; exact hlt3
          obtain ⟨y, hy⟩ : ∃ y, set[b]? = some y := ⟨set[b], List.getElem?_eq_getElem hbl⟩
          obtain ⟨t, htS, rfl⟩ := inR_take HSET.out.1 hy
          have c1 := (hbw2.cell (p := ⟨b', off + b, none⟩) hbw).trans (HCE.out b _ (ci_at hy))
          have bg3 := BGQ.out.keep HB2.out
          have x0 := bg3.cell (j := 0) rfl
          have x1 := bg3.cell (j := 1) rfl
          have x2 := bg3.cell (j := 2) rfl
          have hrr := HR.out.below hbw2 (Nat.le_refl _)
          have hcall := HPT.out s t hsS htS wr hrr
          obtain ⟨hp0, hp1⟩ := HBD.out (s : Int) (t : Int)
          have hnext : ((set.take (b + 1)).map fun t => pth es n (s : Int) t).sum = sm + pth es n (s : Int) (t : Int) := by
            rw [List.take_succ_eq_append_getElem hbl, List.map_append, List.map_singleton, sum_snoc, ← HSMD.out, (List.getElem?_eq_some_iff.1 hy).2]
          obtain ⟨Y, hY⟩ : ∃ Y, Y = pth es n (s : Int) (t : Int) := ⟨_, rfl⟩
          rw [← hY] at hcall hp0 hp1 hnext
          have hok2 := hsmok.add ⟨hp0, hp1⟩
          have sX : small sm := hsmok.small (by omega)
          have sY : small Y := SumOk.small (j := 1) ⟨hp0, by omega⟩ (by omega)
          have hadd := fun w' => iadd_any (ineg sm) (ineg Y) (imag sm) (imag Y) w' sX sY
          simp only [ival_canon] at hadd
          have HADD := Lib.hid hadd; clear hadd
          have HCALL := Lib.hid hcall; clear hcall
          have HNX := Lib.hid hnext; clear hnext
          have HOK2 := Lib.hid hok2; clear hok2
          have HBLK := Lib.hid hblk; clear hblk
          have HBW2 := Lib.hid hbw2; clear hbw2
          clear hY hy hp0 hp1 sX sY bg3 hrr
          go_wp2_with fail
          go_at_call 54
          refine HCALL.out.mono ?_
          rintro e w3 ⟨hq, rfl⟩
          have k1 := HBLK.out.keep hq
          have k2 := k1.alloc (.cells #[.bool (ineg Y), .string (imag Y)] 26)
          have nb := Blk.new w3 26 [.bool (ineg Y), .string (imag Y)]
          have q0 := k2.cell (j := 0) rfl
          have q1 := k2.cell (j := 1) rfl
          have q2 := nb.cell (j := 0) rfl
          have q3 := nb.cell (j := 1) rfl
          have hs4 : wq.heap.size < w3.heap.size := k1.lt
          have HQ3 := Lib.hid hq; clear hq
          have K2 := Lib.hid k2; clear k2
          clear x0 x1 x2 c1 k1 nb
          go_wp2_with fail
          go_at_call 21
          refine (HADD.out _).mono ?_
          rintro e w4 ⟨hq, rfl⟩
          have k4 := K2.out.keep hq
          have u0 := k4.cell (j := 0) rfl
          have u1 := k4.cell (j := 1) rfl
          have v0 := k4.frozen 0
          have v1 := k4.frozen 1
          have HQ4 := Lib.hid hq; clear hq
          have K4 := Lib.hid k4; clear k4
          clear q0 q1 q2 q3
          go_wp2_with fail
          go_roundw
          case rel =>
            have s1 := HB2.out.trans (HQ3.out.mono HB2.out.size)
            have s2 := s1.alloc s1.size (.cells #[.bool (ineg Y), .string (imag Y)] 26)
            have s3 := s2.trans (HQ4.out.mono s2.size)
            exact ⟨b + 1, by omega, by go_num, (s3.setCell (p := ⟨wq.heap.size, 0, none⟩) (Nat.le_refl _) _).setCell (p := ⟨wq.heap.size, 1, none⟩) (Nat.le_refl _) _, _, HNX.out.symm, HOK2.out, (K4.out.set 0 _).set 1 _⟩
          case measure => simp [intOf]; omega
        · obtain rfl : b = K := by omega
          have htot : sm = cw es (pin set) n (s : Int) := by
            rw [HSMD.out, List.take_of_length_le (by rw [HK.out]; exact Nat.le_refl _), HSM.out]
          have sX : small sm := hsmok.small (by omega)
          have hcmp := fun w' => icompare_any (ineg sm) (ineg m) (imag sm) (imag m) w' sX hm
          simp only [ival_canon] at hcmp
          obtain ⟨z, hz⟩ : ∃ z, z = cmpZ sm m := ⟨_, rfl⟩
          have hzn := cmpZ_neg sm m
          rw [← hz] at hcmp hzn
          have q0 := hblk.cell (j := 0) rfl
          have q1 := hblk.cell (j := 1) rfl
          have bm3 := BMQ.out.keep HB2.out
          have q2 := bm3.cell (j := 0) rfl
          have q3 := bm3.cell (j := 1) rfl
          have hxa : (s : Int) ∈ set := List.mem_of_getElem? HX.out
          have hxv : set[a] = (s : Int) := (List.getElem?_eq_some_iff.1 HX.out).2
          have HCMP := Lib.hid hcmp; clear hcmp
          have HBW2 := Lib.hid hbw2; clear hbw2
          by_cases hsl : sm < m
          · have t1 : decide (z < 0) = true := by rw [hzn]; simpa using hsl
            have hno : ¬ Prcp es n m set := fun h => by have := h _ hxa; omega
            have HNO := Lib.hid hno; clear hno
            clear hz hzn hsl htot hxa hblk bm3
            go_wp2_with fail
            go_at_call 20
            refine (HCMP.out _).mono ?_
            rintro e w3 ⟨hq, rfl⟩
            have HQ := Lib.hid hq; clear hq
            go_wp2_with fail
            go_ret
            exact ⟨HBW2.out.trans (HQ.out.mono HBW2.out.size), _, rfl, ⟨fun h => (by cases h), fun h => absurd h HNO.out⟩⟩
          · have t1 : decide (z < 0) = false := by rw [hzn]; simpa using hsl
            have hall2 : ∀ x ∈ set.take (a + 1), m ≤ cw es (pin set) n x := by
              intro x hx
              rw [List.take_succ_eq_append_getElem hal] at hx
              rcases List.mem_append.1 hx with h | h
              · exact HALL.out x h
              · obtain rfl : x = set[a] := by simpa using h
                rw [hxv]; omega
            have HALL2 := Lib.hid hall2; clear hall2
            clear hz hzn hsl htot hxa hblk bm3
            go_wp2_with fail
            go_at_call 20
            refine (HCMP.out _).mono ?_
            rintro e w3 ⟨hq, rfl⟩
            have HQ := Lib.hid hq; clear hq
            go_wp2_with fail
            go_roundw
            case rel =>
              have s1 := HBEL.out.trans (HB2.out.mono hszq)
              exact ⟨a + 1, by omega, by go_num, s1.trans (HQ.out.mono (by have := HB2.out.size; omega)), HALL2.out⟩
            case measure => simp [intOf]; omega
    · obtain rfl : a = K := by omega
      have hP : Prcp es n m set := by
        have h := HALL.out
        rw [List.take_of_length_le (by rw [HK.out]; exact Nat.le_refl _)] at h
        exact h
      have HP := Lib.hid hP; clear hP
      go_wp2_with fail
      go_ret
      exact ⟨HBW.out, _, rfl, ⟨fun _ => HP.out, fun _ => rfl⟩⟩
end Go.Proofs.Ytalipfnbpnkgnaa

/- slices.Contains at a row of ints. -/
namespace Go.Proofs.Ytalipfnbpnkgnaa
open Go.RowKit

def IdxRet (x : Int) (l : List Int) (w : World) (e : Ending) (w' : World) : Prop := Below w.heap.size w w' ∧ ∃ z : Int, e = .returned (.int .i64 z) ∧ decide (0 ≤ z) = decide (x ∈ l)
set_option maxRecDepth 100000 in
set_option maxHeartbeats 3200000 in
theorem index_any (l : List Int) (v : Value) (x : Int) (w : World) (hr : Row w v l.length (ci l)) (hl : l.length ≤ 1000000) :
    Calls Try.prog 55 #[v, .int .i64 x] w (IdxRet x l w) := by
  obtain ⟨va, vc, rfl, hle⟩ := hr.slice
  obtain ⟨m, hm⟩ : ∃ m, m = l.length := ⟨_, rfl⟩
  rw [← hm] at hr hle hl ⊢
  have HR := Lib.hid hr; clear hr
  have HM := Lib.hid hm; clear hm
  go_enter Try.func55, Try.ntmps55
  go_wp2_with fail
  go_loopw [8] (fun i wr => ∃ j : Nat, j ≤ m ∧ i = .int .i64 j ∧ wr = w ∧ x ∉ l.take j) (fun i _ => m - (intOf i).toNat)
  case atStart => exact ⟨0, Nat.zero_le _, rfl, rfl, by simp⟩
  case round =>
    obtain ⟨j, hj, rfl, rfl, hno⟩ := hrel
    by_cases hlt : j < m
    · have hjl : j < l.length := by rw [← HM.out]; exact hlt
      have hget : l[j]? = some (l[j]'hjl) := List.getElem?_eq_getElem _
      obtain ⟨y, hy⟩ : ∃ y, y = l[j]'hjl := ⟨_, rfl⟩
      rw [← hy] at hget
      obtain ⟨b, off, rfl, hbw, hce⟩ := HR.out.at_ (by omega)
      have c0 := hce j _ (ci_at hget)
      have hix : (0 : Int) ≤ (j : Int) := by omega
      by_cases hxy : x = y
      · have t1 : (x == y) = true := by simp [hxy]
        have hres : decide (0 ≤ (j : Int)) = decide (x ∈ l) := by
          have : x ∈ l := by rw [hxy]; exact List.mem_of_getElem? hget
          simp [this]
        have HRES := Lib.hid hres; clear hres
        clear hce hget hxy hy hno
        go_wp2_with fail
        go_ret
        exact ⟨Below.refl _ _, _, rfl, HRES.out⟩
      · have t1 : (x == y) = false := by simp [hxy]
        have hnx : x ∉ l.take (j + 1) := by
          rw [List.take_succ_eq_append_getElem hjl, ← hy]
          simp [hno, hxy]
        have HNX := Lib.hid hnx; clear hnx
        clear hce hget hxy hy hno
        go_wp2_with fail
        go_roundw
        case rel => exact ⟨j + 1, by omega, by go_num, trivial, HNX.out⟩
        case measure => simp [intOf]; omega
    · obtain rfl : j = m := by omega
      have hres : decide (0 ≤ (-1 : Int)) = decide (x ∈ l) := by
        rw [List.take_of_length_le (by rw [HM.out]; exact Nat.le_refl _)] at hno
        simp [hno]
      have HRES := Lib.hid hres; clear hres
      clear hno
      go_wp2_with fail
      go_ret
      exact ⟨Below.refl _ _, _, rfl, HRES.out⟩
set_option maxRecDepth 100000 in
set_option maxHeartbeats 3200000 in
theorem contains_any (l : List Int) (v : Value) (x : Int) (w : World) (hr : Row w v l.length (ci l)) (hl : l.length ≤ 1000000) :
    Calls Try.prog 23 #[v, .int .i64 x] w (Ret w (.bool (decide (x ∈ l)))) := by
  have hi := index_any l v x w hr hl
  obtain ⟨va, vc, rfl, hle⟩ := hr.slice
  have HI := Lib.hid hi; clear hi
  clear hr
  go_enter Try.func23, Try.ntmps23
  go_wp2_with fail
  go_at_call 55
  refine HI.out.mono ?_
  rintro e w1 ⟨hq, z, rfl, hz⟩
  obtain ⟨tb, htb⟩ : ∃ tb, decide (x ∈ l) = tb := ⟨_, rfl⟩
  have htb2 := htb
  rw [htb2] at hz ⊢
  have HQ := Lib.hid hq; clear hq
  have HTB := Lib.hid htb; clear htb
  clear htb2
  go_wp2_with fail
  go_ret
  exact ⟨HQ.out, by rw [HTB.out]; rfl⟩
end Go.Proofs.Ytalipfnbpnkgnaa

/- The law EnumerativeGreatest. -/
namespace Go.Proofs.Ytalipfnbpnkgnaa
open Go.RowKit

theorem prcP_at {L : Int} {S n : Nat} {M : Int} {es : List E3} (h : eck L (S : Int) es = 0) (hn : n ≤ 4096) (hM : 1 ≤ M) : prcP L (S : Int) es (n : Int) (ineg M) (imag M) = (prin es n M (uptoZ S), if prin es n M (uptoZ S) = [] then 15 else 0) := by
  have hc : cnB (ineg M) (imag M) = true := (cnB_iff _ _).2 (by rw [ival_canon]; exact ⟨rfl, rfl⟩)
  unfold prcP
  rw [if_neg (by simp [h]), if_neg (by omega), hc, if_neg (by simp), ival_canon, if_neg (by omega), Int.toNat_natCast, Int.toNat_natCast]
  split
  · rename_i h0; rw [h0]
  · rfl
theorem prin_someS (es : List E3) (n : Nat) (M : Int) (S : Nat) : SomeS S (prin es n M (uptoZ S)) :=
  ⟨fun x hx => uptoZ_inR S x ((prin_sub es n M (uptoZ S)).subset hx), (uptoZ_sorted S).sublist (prin_sub es n M (uptoZ S))⟩
theorem someS_upto {S : Nat} {l : List Int} (h : SomeS S l) : ∀ s ∈ l, s ∈ uptoZ S := fun s hs => by
  have := h.1 s hs
  exact List.mem_map.2 ⟨s.toNat, List.mem_range.2 (by omega), by omega⟩
set_option maxRecDepth 100000 in
set_option maxHeartbeats 3200000 in
theorem lgrt_bad (L S : Int) (es : List E3) (v : Value) (nn mm nb : Nat) (w : World) (hr : Row w v es.length (ce es)) (hok : okEs es) (hnn : nn ≤ 255) (hmm0 : mm ≤ 65535) (hnb : nb ≤ 65535) (hF : ¬ FineP L S es) :
    Calls Try.prog 5 #[.agg #[.int .i64 L, .int .i64 S, v], .int .u8 (nn : Int), .int .u16 (mm : Int), .int .u16 (nb : Int)] w (Ret w (.bool true)) := by
  obtain ⟨va, vc, rfl, hle⟩ := hr.slice
  obtain ⟨mz, hmz⟩ : ∃ mz, mz = es.length := ⟨_, rfl⟩
  have s0 := (Below.refl w.heap.size w).alloc (Nat.le_refl _) (.cells #[.int .i64 L, .int .i64 S, .slice va es.length vc] 24)
  have b0 := Blk.new w 24 [.int .i64 L, .int .i64 S, .slice va es.length vc]
  have hr0 := hr.below s0 (Nat.le_refl _)
  have hfi := fine_any L S es _ _ hr0 hok
  have haw := awake29_true
  rw [← hmz] at s0 b0 hr0 hfi
  have HMM := Lib.hid hmz; clear hmz
  have HFI := Lib.hid hfi; clear hfi
  have HAW := Lib.hid haw; clear haw
  have S0 := Lib.hid s0; clear s0
  have B0 := Lib.hid b0; clear b0
  have HR := Lib.hid hr0; clear hr0
  clear hr
  go_enter Try.func5, Try.ntmps5
  rw [← HMM.out]
  go_wp2_with fail
  go_at_call 17
  refine HFI.out.mono ?_
  rintro e w1 ⟨hq, b, rfl, hb⟩
  have s1 := S0.out.trans (hq.mono S0.out.size)
  have hr1 := HR.out.below hq (Nat.le_refl _)
  have tk := B0.out.keep hq; have x0 := tk.cell (j := 0) rfl; have x1 := tk.cell (j := 1) rfl; have x2 := tk.cell (j := 2) rfl; have C0 := Lib.hid tk; clear tk
  have S1 := Lib.hid s1; clear s1
  have HR1 := Lib.hid hr1; clear hr1
  clear hq
  cases b with
  | false =>
    go_wp2_with fail
    go_at_call 11
    refine (HAW.out _).mono ?_
    rintro e w2 ⟨hq, rfl⟩
    have HQ := Lib.hid hq; clear hq
    go_wp2_with fail
    go_ret
    exact ⟨S1.out.trans (HQ.out.mono S1.out.size), rfl⟩
  | true => exact absurd (hb rfl) hF
set_option maxRecDepth 100000 in
set_option maxHeartbeats 3200000 in
theorem lgrt_00 (l k N : Nat) (M : Int) (es : List E3) (v : Value) (nn mm nb : Nat) (w : World) (hr : Row w v es.length (ce es)) (hok : okEs es) (hnn : nn ≤ 255) (hmm0 : mm ≤ 65535) (hnb : nb ≤ 65535) (hE : eck (l : Int) (k : Int) es = 0) (hN : N = nn % 9) (hM : M = 1 + (mm : Int)) (h1 : prin es N M (uptoZ k) ≠ []) (h2 : prin es N (M + 1) (uptoZ k) ≠ []) :
    Calls Try.prog 5 #[.agg #[.int .i64 (l : Int), .int .i64 (k : Int), v], .int .u8 (nn : Int), .int .u16 (mm : Int), .int .u16 (nb : Int)] w (Ret w (.bool true)) := by
  have hN8 : N ≤ 8 := by omega
  have hM1 : 1 ≤ M := by omega
  have hM2 : M ≤ 65536 := by omega
  have hNz : ((nn : Int) % 9) = (N : Int) := by omega
  have hMz : (1 + (mm : Int)) = M := hM.symm
  have hz := eck_zero hE
  have hca := chk_all hz.1
  have hk64 : k ≤ 64 := by omega
  clear hN hM
  obtain ⟨va, vc, rfl, hle⟩ := hr.slice
  obtain ⟨mz, hmz⟩ : ∃ mz, mz = es.length := ⟨_, rfl⟩
  have s0 := (Below.refl w.heap.size w).alloc (Nat.le_refl _) (.cells #[.int .i64 (l : Int), .int .i64 (k : Int), .slice va es.length vc] 24)
  have b0 := Blk.new w 24 [.int .i64 (l : Int), .int .i64 (k : Int), .slice va es.length vc]
  have hr0 := hr.below s0 (Nat.le_refl _)
  have hfi := fine_any (l : Int) (k : Int) es _ _ hr0 hok
  have haw := awake29_true
  rw [← hmz] at s0 b0 hr0 hfi
  have HMM := Lib.hid hmz; clear hmz
  have HFI := Lib.hid hfi; clear hfi
  have HAW := Lib.hid haw; clear haw
  have S0 := Lib.hid s0; clear s0
  have B0 := Lib.hid b0; clear b0
  have HR := Lib.hid hr0; clear hr0
  have hsmM : small M := by obtain ⟨y, rfl⟩ : ∃ y : Nat, M = y := ⟨M.toNat, by omega⟩; exact small_nat (by omega)
  have hsmM1 : small (M + 1) := by obtain ⟨y, hy⟩ : ∃ y : Nat, M + 1 = y := ⟨(M + 1).toNat, by omega⟩; rw [hy]; exact small_nat (by omega)
  have hpr := fun (X : Int) (hX : 1 ≤ X) (hs : small X) v' w' (h : Row w' v' es.length (ce es)) => eprc_any (l : Int) (k : Int) es v' (N : Int) (ineg X) (imag X) w' h hok hs
  have hpr1 := hpr M hM1 hsmM
  have hpr2 := hpr (M + 1) (by omega) hsmM1
  rw [prcP_at hE (by omega) hM1, if_neg h1] at hpr1
  rw [prcP_at hE (by omega) (by omega), if_neg h2] at hpr2
  have hsub : ∀ s ∈ prin es N (M + 1) (uptoZ k), s ∈ prin es N M (uptoZ k) := prin_anti (by omega) _
  have hgreat := fun (Y : List Int) (hY : Prcp es N M Y) (hs : SomeS k Y) => prin_great hY (uptoZ k) (someS_upto hs)
  have hself := prin_prcp es N M (uptoZ k)
  have hss1 := prin_someS es N M k
  have hss2 := prin_someS es N (M + 1) k
  have hlp := fun (set : List Int) (hset : SomeS k set) v' vs w' (h : Row w' v' es.length (ce es)) (hs : Row w' vs set.length (ci set)) => lprc_any (l : Int) k N M es v' vs set w' h hs hok hz.1 hset (by omega) hsmM
  have hch := fun v' w' => choose_any (l : Int) k nb v' w' hk64 hnb
  obtain ⟨l1, hl1⟩ : ∃ l1, l1 = prin es N M (uptoZ k) := ⟨_, rfl⟩
  obtain ⟨l2, hl2⟩ : ∃ l2, l2 = prin es N (M + 1) (uptoZ k) := ⟨_, rfl⟩
  rw [← hl1] at hpr1 hsub hself hss1 h1
  rw [← hl2] at hpr2 hsub hss2 h2
  simp only [← hl1] at hgreat
  have hn1 := asc_len hss1
  have hn2 := asc_len hss2
  have hof1 := fun w' => iof_any 1 w' (by decide) (by decide)
  have hofM := fun w' => iof_any M w' (by omega) (by omega)
  have hadd := fun w' => iadd_any (ineg M) (ineg 1) (imag M) (imag 1) w' hsmM (small_nat (x := 1) (by decide))
  simp only [ival_canon] at hadd
  have tlen : 0 < l1.length := by exact List.length_pos_iff.2 h1
  rw [← HMM.out] at hpr1 hpr2
  simp only [← HMM.out] at hlp
  obtain ⟨M1, hM1e⟩ : ∃ M1, M1 = M + 1 := ⟨_, rfl⟩
  rw [← hM1e] at hpr2 hadd
  have HNZ := Lib.hid hNz; clear hNz
  have HMZ := Lib.hid hMz; clear hMz
  have HPR1 := Lib.hid hpr1; clear hpr1
  have HPR2 := Lib.hid hpr2; clear hpr2
  have HSUB := Lib.hid hsub; clear hsub
  have HGR := Lib.hid hgreat; clear hgreat
  have HSELF := Lib.hid hself; clear hself
  have HSS1 := Lib.hid hss1; clear hss1
  have HSS2 := Lib.hid hss2; clear hss2
  have HLP := Lib.hid hlp; clear hlp
  have HCH := Lib.hid hch; clear hch
  have HOF1 := Lib.hid hof1; clear hof1
  have HOFM := Lib.hid hofM; clear hofM
  have HADD := Lib.hid hadd; clear hadd
  clear hr hok hE hz hca hpr hl1 hl2 hM1e hsmM hsmM1 h1 h2
  go_enter Try.func5, Try.ntmps5
  rw [← HMM.out]
  go_wp2_with fail
  go_at_call 17
  refine HFI.out.mono ?_
  rintro e w1 ⟨hq, b, rfl, hb⟩
  have s1 := S0.out.trans (hq.mono S0.out.size)
  have hr1 := HR.out.below hq (Nat.le_refl _)
  have tk := B0.out.keep hq; have x0 := tk.cell (j := 0) rfl; have x1 := tk.cell (j := 1) rfl; have x2 := tk.cell (j := 2) rfl; have C0 := Lib.hid tk; clear tk
  have S1 := Lib.hid s1; clear s1
  have HR1 := Lib.hid hr1; clear hr1
  clear hq
  cases b with
  | false =>
    go_wp2_with fail
    go_at_call 11
    refine (HAW.out _).mono ?_
    rintro e w2 ⟨hq, rfl⟩
    have HQ := Lib.hid hq; clear hq
    go_wp2_with fail
    go_ret
    exact ⟨S1.out.trans (HQ.out.mono S1.out.size), rfl⟩
  | true =>
    go_wp2_with fail
    rw [HNZ.out, HMZ.out]
    go_at_call 18
    refine (HOFM.out _).mono ?_
    rintro e w2 ⟨hq, rfl⟩
    have bL := Blk.new w2 26 [.bool (ineg M), .string (imag M)]
    have hbq := (Below.alloc hq hq.size (.cells #[.bool (ineg M), .string (imag M)] 26))
    have s2 := S1.out.trans (hbq.mono S1.out.size)
    have hr2 := HR1.out.below hbq (Nat.le_refl _)
    clear x0 x1 x2
    have tk := C0.out.keep hbq; have x0 := tk.cell (j := 0) rfl; have x1 := tk.cell (j := 1) rfl; have x2 := tk.cell (j := 2) rfl; have D0 := Lib.hid tk; clear tk
    obtain ⟨bl, hbl⟩ : ∃ bl, w2.heap.size = bl := ⟨_, rfl⟩
    obtain ⟨w3, hw3⟩ : ∃ w3, w2.alloc (.cells #[.bool (ineg M), .string (imag M)] 26) = w3 := ⟨_, rfl⟩
    rw [hw3] at bL s2 hr2 x0 x1 x2
    rw [hbl] at bL
    have D1 := D0.out
    rw [hw3] at D1
    have y0 := bL.cell (j := 0) rfl
    have y1 := bL.cell (j := 1) rfl
    have hblw : w.heap.size ≤ bl := by have h1 := S1.out.size; have h2 := hq.size; omega
    have BL := Lib.hid bL; clear bL
    have E0 := Lib.hid D1; clear D1
    have S3 := Lib.hid s2; clear s2
    have HR3 := Lib.hid hr2; clear hr2
    clear hq hbq D0
    go_wp2_with fail
    go_at_call 12
    refine (HPR1.out _ _ HR3.out).mono ?_
    rintro e w4 ⟨hq, vs, rfl, hrs⟩
    obtain ⟨sa, sc, rfl, hsle⟩ := hrs.slice
    have s4 := S3.out.trans (hq.mono S3.out.size)
    have hr4 := HR3.out.below hq (Nat.le_refl _)
    clear x0 x1 x2 y0 y1
    have tk := E0.out.keep hq; have x0 := tk.cell (j := 0) rfl; have x1 := tk.cell (j := 1) rfl; have x2 := tk.cell (j := 2) rfl; have F0 := Lib.hid tk; clear tk
    have tk := BL.out.keep hq; have y0 := tk.cell (j := 0) rfl; have y1 := tk.cell (j := 1) rfl; have BL4 := Lib.hid tk; clear tk
    have hbl4 : bl < w4.heap.size := BL4.out.lt
    have hwl4 : w.heap.size < w4.heap.size := F0.out.lt
    have S4 := Lib.hid s4; clear s4
    have HR4 := Lib.hid hr4; clear hr4
    have HRS := Lib.hid hrs; clear hrs
    clear hq
    go_wp2_with fail
    refine wp_region_held_drew (S := fun w' => w'.cell? ⟨w.heap.size, 0, none⟩ = some (.int .i64 (l : Int)) ∧ w'.cell? ⟨w.heap.size, 1, none⟩ = some (.int .i64 (k : Int)) ∧ w'.cell? ⟨w.heap.size, 2, none⟩ = some (.slice va mz vc) ∧ w'.cell? ⟨bl, 0, none⟩ = some (.bool (ineg M)) ∧ w'.cell? ⟨bl, 1, none⟩ = some (.string (imag M))) (by kernel_rfl) ?_ (fun hHeld => ?_)
    · go_keep
    refine wpAnyH_take (i := 0) (v := ?_) rfl (by kernel_rfl) (by kernel_rfl) (by kernel_rfl) (fun _ _ _ h => h) (Or.inl ⟨by rfl, ?_⟩) (by assumption) ?_
    rotate_left
    · (intro wS hSw; (try dsimp only at hSw); go_simp; (try with_reducible rfl))
    (try simp only [Act.put, List.setIfInBounds_toArray, List.set_cons_zero, List.set_cons_succ])
    refine wpAnyH_take (i := 1) (v := ?_) rfl (by kernel_rfl) (by kernel_rfl) (by kernel_rfl) (fun _ _ _ h => h) (Or.inl ⟨by rfl, ?_⟩) (by assumption) ?_
    rotate_left
    · (intro wS hSw; (try dsimp only at hSw); go_simp; (try with_reducible rfl))
    (try simp only [Act.put, List.setIfInBounds_toArray, List.set_cons_zero, List.set_cons_succ])
    refine wpAnyH_take (i := 2) (v := ?_) rfl (by kernel_rfl) (by kernel_rfl) (by kernel_rfl) (fun _ _ _ h => h) (Or.inl ⟨by rfl, ?_⟩) (by assumption) ?_
    rotate_left
    · (intro wS hSw; (try dsimp only at hSw); go_simp; (try with_reducible rfl))
    (try simp only [Act.put, List.setIfInBounds_toArray, List.set_cons_zero, List.set_cons_succ])
    refine wpAnyH_ready (rs := [3]) (by kernel_rfl) (by simp) ?_
    refine AllReadyH.cons rfl (fun K hK => ?_) AllReadyH.nil
    go_simp
    go_at_call 18
    refine (HOF1.out _).mono ?_
    rintro e w5 ⟨hq, rfl⟩
    skip
    dsimp only
    have z0 := (hq.cell (p := ⟨w.heap.size, 0, none⟩) (show w.heap.size < w4.heap.size by first | omega | simp)).trans hHeld.1
    have z1 := (hq.cell (p := ⟨w.heap.size, 1, none⟩) (show w.heap.size < w4.heap.size by first | omega | simp)).trans hHeld.2.1
    have z2 := (hq.cell (p := ⟨w.heap.size, 2, none⟩) (show w.heap.size < w4.heap.size by first | omega | simp)).trans hHeld.2.2.1
    have z3 := (hq.cell (p := ⟨bl, 0, none⟩) (show bl < w4.heap.size by first | omega | simp)).trans hHeld.2.2.2.1
    have z4 := (hq.cell (p := ⟨bl, 1, none⟩) (show bl < w4.heap.size by first | omega | simp)).trans hHeld.2.2.2.2
    clear hHeld
    refine hK.out _ _ ⟨z0, z1, z2, z3, z4⟩ (fun hHeld => ?_)
    clear hK K
    (try simp only [Act.put, List.setIfInBounds_toArray, List.set_cons_zero, List.set_cons_succ])
    have sn := S4.out.drew.trans (hq.mono S4.out.drew.size)
    have rn := HR4.out.drew.below hq (Nat.le_refl _)
    have gn := F0.out.drew.keep hq
    have ln := BL4.out.drew.keep hq
    have tn := HRS.out.drew.below hq (Nat.le_refl _)
    have lww5 : w.heap.size < w5.heap.size := gn.lt
    have lbw5 : bl < w5.heap.size := ln.lt
    have Sw5 := Lib.hid sn; clear sn
    have HRw5 := Lib.hid rn; clear rn
    have Fw5 := Lib.hid gn; clear gn
    have Lw5 := Lib.hid ln; clear ln
    have Tw5 := Lib.hid tn; clear tn
    clear hq z0 z1 z2 z3 z4
    clear x0 x1 x2 y0 y1
    refine wpAnyH_ready (rs := [4]) (by kernel_rfl) (by simp) ?_
    refine AllReadyH.cons rfl (fun K hK => ?_) AllReadyH.nil
    go_simp
    go_at_call 21
    refine (HADD.out _).mono ?_
    rintro e w6 ⟨hq, rfl⟩
    skip
    dsimp only
    have z0 := (hq.cell (p := ⟨w.heap.size, 0, none⟩) (show w.heap.size < w5.heap.size by first | omega | simp)).trans hHeld.1
    have z1 := (hq.cell (p := ⟨w.heap.size, 1, none⟩) (show w.heap.size < w5.heap.size by first | omega | simp)).trans hHeld.2.1
    have z2 := (hq.cell (p := ⟨w.heap.size, 2, none⟩) (show w.heap.size < w5.heap.size by first | omega | simp)).trans hHeld.2.2.1
    have z3 := (hq.cell (p := ⟨bl, 0, none⟩) (show bl < w5.heap.size by first | omega | simp)).trans hHeld.2.2.2.1
    have z4 := (hq.cell (p := ⟨bl, 1, none⟩) (show bl < w5.heap.size by first | omega | simp)).trans hHeld.2.2.2.2
    clear hHeld
    refine hK.out _ _ ⟨z0, z1, z2, z3, z4⟩ (fun hHeld => ?_)
    clear hK K
    (try simp only [Act.put, List.setIfInBounds_toArray, List.set_cons_zero, List.set_cons_succ])
    have sn := Sw5.out.trans (hq.mono Sw5.out.size)
    have rn := HRw5.out.below hq (Nat.le_refl _)
    have gn := Fw5.out.keep hq
    have ln := Lw5.out.keep hq
    have tn := Tw5.out.below hq (Nat.le_refl _)
    have lww6 : w.heap.size < w6.heap.size := gn.lt
    have lbw6 : bl < w6.heap.size := ln.lt
    have Sw6 := Lib.hid sn; clear sn
    have HRw6 := Lib.hid rn; clear rn
    have Fw6 := Lib.hid gn; clear gn
    have Lw6 := Lib.hid ln; clear ln
    have Tw6 := Lib.hid tn; clear tn
    clear hq z0 z1 z2 z3 z4
    refine wpAnyH_ready (rs := [5]) (by kernel_rfl) (by simp) ?_
    refine AllReadyH.cons rfl (fun K hK => ?_) AllReadyH.nil
    go_simp
    go_at_call 12
    refine (HPR2.out _ _ HRw6.out).mono ?_
    rintro e w7 ⟨hq, vm, rfl, hrm⟩
    obtain ⟨ma, mc, rfl, hmle⟩ := hrm.slice
    dsimp only
    have z0 := (hq.cell (p := ⟨w.heap.size, 0, none⟩) (show w.heap.size < w6.heap.size by first | omega | simp)).trans hHeld.1
    have z1 := (hq.cell (p := ⟨w.heap.size, 1, none⟩) (show w.heap.size < w6.heap.size by first | omega | simp)).trans hHeld.2.1
    have z2 := (hq.cell (p := ⟨w.heap.size, 2, none⟩) (show w.heap.size < w6.heap.size by first | omega | simp)).trans hHeld.2.2.1
    have z3 := (hq.cell (p := ⟨bl, 0, none⟩) (show bl < w6.heap.size by first | omega | simp)).trans hHeld.2.2.2.1
    have z4 := (hq.cell (p := ⟨bl, 1, none⟩) (show bl < w6.heap.size by first | omega | simp)).trans hHeld.2.2.2.2
    clear hHeld
    refine hK.out _ _ ⟨z0, z1, z2, z3, z4⟩ (fun hHeld => ?_)
    clear hK K
    (try simp only [Act.put, List.setIfInBounds_toArray, List.set_cons_zero, List.set_cons_succ])
    have sn := Sw6.out.trans (hq.mono Sw6.out.size)
    have rn := HRw6.out.below hq (Nat.le_refl _)
    have gn := Fw6.out.keep hq
    have ln := Lw6.out.keep hq
    have tn := Tw6.out.below hq (Nat.le_refl _)
    have lww7 : w.heap.size < w7.heap.size := gn.lt
    have lbw7 : bl < w7.heap.size := ln.lt
    have Sw7 := Lib.hid sn; clear sn
    have HRw7 := Lib.hid rn; clear rn
    have Fw7 := Lib.hid gn; clear gn
    have Lw7 := Lib.hid ln; clear ln
    have Tw7 := Lib.hid tn; clear tn
    clear hq z0 z1 z2 z3 z4
    refine wpAnyH_take (i := 6) (v := ?_) rfl (by kernel_rfl) (by kernel_rfl) (by kernel_rfl) (fun _ _ _ h => h) (Or.inl ⟨by rfl, ?_⟩) (by assumption) ?_
    rotate_left
    · (intro wS hSw; (try dsimp only at hSw); go_simp; (try with_reducible rfl))
    (try simp only [Act.put, List.setIfInBounds_toArray, List.set_cons_zero, List.set_cons_succ])
    refine wpAnyH_take (i := 7) (v := ?_) rfl (by kernel_rfl) (by kernel_rfl) (by kernel_rfl) (fun _ _ _ h => h) (Or.inl ⟨by rfl, ?_⟩) (by assumption) ?_
    rotate_left
    · (intro wS hSw; (try dsimp only at hSw); go_simp; (try with_reducible rfl))
    (try simp only [Act.put, List.setIfInBounds_toArray, List.set_cons_zero, List.set_cons_succ])
    refine wpAnyH_take (i := 8) (v := ?_) rfl (by kernel_rfl) (by kernel_rfl) (by kernel_rfl) (fun _ _ _ h => h) (Or.inl ⟨by rfl, ?_⟩) (by assumption) ?_
    rotate_left
    · (intro wS hSw; (try dsimp only at hSw); go_simp; (try with_reducible rfl))
    (try simp only [Act.put, List.setIfInBounds_toArray, List.set_cons_zero, List.set_cons_succ])
    refine wpAnyH_take (i := 9) (v := ?_) rfl (by kernel_rfl) (by kernel_rfl) (by kernel_rfl) (fun _ _ _ h => h) (Or.inl ⟨by rfl, ?_⟩) (by assumption) ?_
    rotate_left
    · (intro wS hSw; (try dsimp only at hSw); go_simp; (try with_reducible rfl))
    (try simp only [Act.put, List.setIfInBounds_toArray, List.set_cons_zero, List.set_cons_succ])
    refine wpAnyH_take (i := 10) (v := ?_) rfl (by kernel_rfl) (by kernel_rfl) (by kernel_rfl) (fun _ _ _ h => h) (Or.inl ⟨by rfl, ?_⟩) (by assumption) ?_
    rotate_left
    · (intro wS hSw; (try dsimp only at hSw); go_simp; (try with_reducible rfl))
    (try simp only [Act.put, List.setIfInBounds_toArray, List.set_cons_zero, List.set_cons_succ])
    refine wpAnyH_done (by kernel_rfl) ?_ _
    (try simp only [List.getElem_toArray, List.getElem_cons_zero, List.getElem_cons_succ, Act.put, List.setIfInBounds_toArray, List.set_cons_zero, List.set_cons_succ])
    clear hHeld
    have x0 := Fw7.out.cell (j := 0) rfl
    have x1 := Fw7.out.cell (j := 1) rfl
    have x2 := Fw7.out.cell (j := 2) rfl
    have y0 := Lw7.out.cell (j := 0) rfl
    have y1 := Lw7.out.cell (j := 1) rfl
    have HRM := Lib.hid hrm; clear hrm
    go_wp2_with fail
    go_at_call 22
    refine (HLP.out l1 HSS1.out _ _ _ HRw7.out Tw7.out).mono ?_
    rintro e w8 ⟨hq, b, rfl, hb⟩
    obtain rfl : b = true := hb.2 HSELF.out
    have s8 := Sw7.out.trans (hq.mono Sw7.out.size)
    have r8 := HRw7.out.below hq (Nat.le_refl _)
    have t8 := Tw7.out.below hq (Nat.le_refl _)
    have m8 := HRM.out.below hq (Nat.le_refl _)
    have f8 := Fw7.out.keep hq
    have l8 := Lw7.out.keep hq
    have S8 := Lib.hid s8; clear s8
    have HR8 := Lib.hid r8; clear r8
    have T8 := Lib.hid t8; clear t8
    have M8 := Lib.hid m8; clear m8
    have F8 := Lib.hid f8; clear f8
    have L8 := Lib.hid l8; clear l8
    clear hq hb x0 x1 x2 y0 y1
    go_wp2_with fail
    go_loopw [79] (fun i wr => ∃ a : Nat, a ≤ l2.length ∧ i = .int .i64 a ∧ Below w8.heap.size w8 wr) (fun i _ => l2.length - (intOf i).toNat)
    case atStart => exact ⟨0, Nat.zero_le _, rfl, Below.refl _ _⟩
    case round =>
      obtain ⟨a, ha, rfl, hbel⟩ := hrel
      have HBEL := Lib.hid hbel; clear hbel
      by_cases hlt : a < l2.length
      · obtain ⟨x, hx⟩ : ∃ x, l2[a]? = some x := ⟨l2[a], List.getElem?_eq_getElem hlt⟩
        have hxin : decide (x ∈ l1) = true := decide_eq_true (HSUB.out x (List.mem_of_getElem? hx))
        obtain ⟨b', off, rfl, hbw, hce⟩ := M8.out.at_ (by omega)
        have c0 := (HBEL.out.cell (p := ⟨b', off + a, none⟩) hbw).trans (hce a _ (ci_at hx))
        have hct := contains_any l1 _ x wr (T8.out.below HBEL.out (Nat.le_refl _)) (by omega)
        rw [hxin] at hct
        have HCT := Lib.hid hct; clear hct
        clear hce hx hxin
        go_wp2_with fail
        go_at_call 23
        refine HCT.out.mono ?_
        rintro e w9 ⟨hq, rfl⟩
        have HQ := Lib.hid hq; clear hq
        go_wp2_with fail
        go_roundw
        case rel => exact ⟨a + 1, by omega, by go_num, HBEL.out.trans (HQ.out.mono HBEL.out.size)⟩
        case measure => simp [intOf]; omega
      · obtain rfl : a = l2.length := by omega
        have f9 := F8.out.keep HBEL.out
        have l9 := L8.out.keep HBEL.out
        have s9 := S8.out.trans (HBEL.out.mono S8.out.size)
        have r9 := HR8.out.below HBEL.out (Nat.le_refl _)
        have t9 := T8.out.below HBEL.out (Nat.le_refl _)
        have x0 := f9.cell (j := 0) rfl
        have x1 := f9.cell (j := 1) rfl
        have x2 := f9.cell (j := 2) rfl
        have F9 := Lib.hid f9; clear f9
        have L9 := Lib.hid l9; clear l9
        have S9 := Lib.hid s9; clear s9
        have R9 := Lib.hid r9; clear r9
        have T9 := Lib.hid t9; clear t9
        go_wp2_with fail
        go_at_call 24
        refine (HCH.out _ _).mono ?_
        rintro e wa ⟨hq, vo, lo, rfl, hlo, hro⟩
        obtain ⟨oa, oc, rfl, hole⟩ := hro.slice
        have sa' := S9.out.trans (hq.mono S9.out.size)
        have ra := R9.out.below hq (Nat.le_refl _)
        have ta := T9.out.below hq (Nat.le_refl _)
        have fa := F9.out.keep hq
        have la := L9.out.keep hq
        clear x0 x1 x2
        have x0 := fa.cell (j := 0) rfl
        have x1 := fa.cell (j := 1) rfl
        have x2 := fa.cell (j := 2) rfl
        have y0 := la.cell (j := 0) rfl
        have y1 := la.cell (j := 1) rfl
        have hlol := asc_len hlo
        have SA := Lib.hid sa'; clear sa'
        have RA := Lib.hid ra; clear ra
        have TA := Lib.hid ta; clear ta
        have HRO := Lib.hid hro; clear hro
        have HLO := Lib.hid hlo; clear hlo
        clear hq fa la
        go_wp2_with fail
        go_at_call 22
        refine (HLP.out lo HLO.out _ _ _ RA.out HRO.out).mono ?_
        rintro e wb ⟨hq, b, rfl, hb⟩
        have sb := SA.out.trans (hq.mono SA.out.size)
        have tb := TA.out.below hq (Nat.le_refl _)
        have ob := HRO.out.below hq (Nat.le_refl _)
        have SB := Lib.hid sb; clear sb
        have TB := Lib.hid tb; clear tb
        have OB := Lib.hid ob; clear ob
        clear hq x0 x1 x2 y0 y1
        cases b with
        | false =>
          clear hb
          go_wp2_with fail
          go_at_call 11
          refine (HAW.out _).mono ?_
          rintro e wc ⟨hq, rfl⟩
          have HQ := Lib.hid hq; clear hq
          go_wp2_with fail
          go_ret
          exact ⟨SB.out.trans (HQ.out.mono SB.out.size), rfl⟩
        | true =>
          have hsub2 := HGR.out lo (hb.1 rfl) HLO.out
          have HSUB2 := Lib.hid hsub2; clear hsub2
          clear hb
          go_wp2_with fail
          go_loopw [98] (fun i wr => ∃ a : Nat, a ≤ lo.length ∧ i = .int .i64 a ∧ Below wb.heap.size wb wr) (fun i _ => lo.length - (intOf i).toNat)
          case atStart => exact ⟨0, Nat.zero_le _, rfl, Below.refl _ _⟩
          case round =>
            obtain ⟨a, ha, rfl, hbel⟩ := hrel
            have HBEL2 := Lib.hid hbel; clear hbel
            by_cases hlt : a < lo.length
            · obtain ⟨x, hx⟩ : ∃ x, lo[a]? = some x := ⟨lo[a], List.getElem?_eq_getElem hlt⟩
              have hxin : decide (x ∈ l1) = true := decide_eq_true (HSUB2.out x (List.mem_of_getElem? hx))
              obtain ⟨b', off, rfl, hbw, hce⟩ := OB.out.at_ (by omega)
              have c0 := (HBEL2.out.cell (p := ⟨b', off + a, none⟩) hbw).trans (hce a _ (ci_at hx))
              have hct := contains_any l1 _ x wr (TB.out.below HBEL2.out (Nat.le_refl _)) (by omega)
              rw [hxin] at hct
              have HCT := Lib.hid hct; clear hct
              clear hce hx hxin
              go_wp2_with fail
              go_at_call 23
              refine HCT.out.mono ?_
              rintro e w9 ⟨hq, rfl⟩
              have HQ := Lib.hid hq; clear hq
              go_wp2_with fail
              go_roundw
              case rel => exact ⟨a + 1, by omega, by go_num, HBEL2.out.trans (HQ.out.mono HBEL2.out.size)⟩
              case measure => simp [intOf]; omega
            · obtain rfl : a = lo.length := by omega
              go_wp2_with fail
              go_at_call 11
              refine (HAW.out _).mono ?_
              rintro e wc ⟨hq, rfl⟩
              have HQ := Lib.hid hq; clear hq
              go_wp2_with fail
              go_ret
              have s1 := SB.out.trans (HBEL2.out.mono SB.out.size)
              exact ⟨s1.trans (HQ.out.mono s1.size), rfl⟩
set_option maxRecDepth 100000 in
set_option maxHeartbeats 3200000 in
theorem lgrt_01 (l k N : Nat) (M : Int) (es : List E3) (v : Value) (nn mm nb : Nat) (w : World) (hr : Row w v es.length (ce es)) (hok : okEs es) (hnn : nn ≤ 255) (hmm0 : mm ≤ 65535) (hnb : nb ≤ 65535) (hE : eck (l : Int) (k : Int) es = 0) (hN : N = nn % 9) (hM : M = 1 + (mm : Int)) (h1 : prin es N M (uptoZ k) ≠ []) (h2 : prin es N (M + 1) (uptoZ k) = []) :
    Calls Try.prog 5 #[.agg #[.int .i64 (l : Int), .int .i64 (k : Int), v], .int .u8 (nn : Int), .int .u16 (mm : Int), .int .u16 (nb : Int)] w (Ret w (.bool true)) := by
  have hN8 : N ≤ 8 := by omega
  have hM1 : 1 ≤ M := by omega
  have hM2 : M ≤ 65536 := by omega
  have hNz : ((nn : Int) % 9) = (N : Int) := by omega
  have hMz : (1 + (mm : Int)) = M := hM.symm
  have hz := eck_zero hE
  have hca := chk_all hz.1
  have hk64 : k ≤ 64 := by omega
  clear hN hM
  obtain ⟨va, vc, rfl, hle⟩ := hr.slice
  obtain ⟨mz, hmz⟩ : ∃ mz, mz = es.length := ⟨_, rfl⟩
  have s0 := (Below.refl w.heap.size w).alloc (Nat.le_refl _) (.cells #[.int .i64 (l : Int), .int .i64 (k : Int), .slice va es.length vc] 24)
  have b0 := Blk.new w 24 [.int .i64 (l : Int), .int .i64 (k : Int), .slice va es.length vc]
  have hr0 := hr.below s0 (Nat.le_refl _)
  have hfi := fine_any (l : Int) (k : Int) es _ _ hr0 hok
  have haw := awake29_true
  rw [← hmz] at s0 b0 hr0 hfi
  have HMM := Lib.hid hmz; clear hmz
  have HFI := Lib.hid hfi; clear hfi
  have HAW := Lib.hid haw; clear haw
  have S0 := Lib.hid s0; clear s0
  have B0 := Lib.hid b0; clear b0
  have HR := Lib.hid hr0; clear hr0
  have hsmM : small M := by obtain ⟨y, rfl⟩ : ∃ y : Nat, M = y := ⟨M.toNat, by omega⟩; exact small_nat (by omega)
  have hsmM1 : small (M + 1) := by obtain ⟨y, hy⟩ : ∃ y : Nat, M + 1 = y := ⟨(M + 1).toNat, by omega⟩; rw [hy]; exact small_nat (by omega)
  have hpr := fun (X : Int) (hX : 1 ≤ X) (hs : small X) v' w' (h : Row w' v' es.length (ce es)) => eprc_any (l : Int) (k : Int) es v' (N : Int) (ineg X) (imag X) w' h hok hs
  have hpr1 := hpr M hM1 hsmM
  have hpr2 := hpr (M + 1) (by omega) hsmM1
  rw [prcP_at hE (by omega) hM1, if_neg h1] at hpr1
  rw [prcP_at hE (by omega) (by omega), if_pos h2] at hpr2
  have hsub : ∀ s ∈ prin es N (M + 1) (uptoZ k), s ∈ prin es N M (uptoZ k) := prin_anti (by omega) _
  have hgreat := fun (Y : List Int) (hY : Prcp es N M Y) (hs : SomeS k Y) => prin_great hY (uptoZ k) (someS_upto hs)
  have hself := prin_prcp es N M (uptoZ k)
  have hss1 := prin_someS es N M k
  have hss2 := prin_someS es N (M + 1) k
  have hlp := fun (set : List Int) (hset : SomeS k set) v' vs w' (h : Row w' v' es.length (ce es)) (hs : Row w' vs set.length (ci set)) => lprc_any (l : Int) k N M es v' vs set w' h hs hok hz.1 hset (by omega) hsmM
  have hch := fun v' w' => choose_any (l : Int) k nb v' w' hk64 hnb
  obtain ⟨l1, hl1⟩ : ∃ l1, l1 = prin es N M (uptoZ k) := ⟨_, rfl⟩
  obtain ⟨l2, hl2⟩ : ∃ l2, l2 = prin es N (M + 1) (uptoZ k) := ⟨_, rfl⟩
  rw [← hl1] at hpr1 hsub hself hss1 h1
  rw [← hl2] at hpr2 hsub hss2 h2
  simp only [← hl1] at hgreat
  have hn1 := asc_len hss1
  have hn2 := asc_len hss2
  have hof1 := fun w' => iof_any 1 w' (by decide) (by decide)
  have hofM := fun w' => iof_any M w' (by omega) (by omega)
  have hadd := fun w' => iadd_any (ineg M) (ineg 1) (imag M) (imag 1) w' hsmM (small_nat (x := 1) (by decide))
  simp only [ival_canon] at hadd
  have tlen : 0 < l1.length := by exact List.length_pos_iff.2 h1
  rw [← HMM.out] at hpr1 hpr2
  simp only [← HMM.out] at hlp
  obtain ⟨M1, hM1e⟩ : ∃ M1, M1 = M + 1 := ⟨_, rfl⟩
  rw [← hM1e] at hpr2 hadd
  have HNZ := Lib.hid hNz; clear hNz
  have HMZ := Lib.hid hMz; clear hMz
  have HPR1 := Lib.hid hpr1; clear hpr1
  have HPR2 := Lib.hid hpr2; clear hpr2
  have HSUB := Lib.hid hsub; clear hsub
  have HGR := Lib.hid hgreat; clear hgreat
  have HSELF := Lib.hid hself; clear hself
  have HSS1 := Lib.hid hss1; clear hss1
  have HSS2 := Lib.hid hss2; clear hss2
  have HLP := Lib.hid hlp; clear hlp
  have HCH := Lib.hid hch; clear hch
  have HOF1 := Lib.hid hof1; clear hof1
  have HOFM := Lib.hid hofM; clear hofM
  have HADD := Lib.hid hadd; clear hadd
  clear hr hok hE hz hca hpr hl1 hl2 hM1e hsmM hsmM1 h1 h2
  go_enter Try.func5, Try.ntmps5
  rw [← HMM.out]
  go_wp2_with fail
  go_at_call 17
  refine HFI.out.mono ?_
  rintro e w1 ⟨hq, b, rfl, hb⟩
  have s1 := S0.out.trans (hq.mono S0.out.size)
  have hr1 := HR.out.below hq (Nat.le_refl _)
  have tk := B0.out.keep hq; have x0 := tk.cell (j := 0) rfl; have x1 := tk.cell (j := 1) rfl; have x2 := tk.cell (j := 2) rfl; have C0 := Lib.hid tk; clear tk
  have S1 := Lib.hid s1; clear s1
  have HR1 := Lib.hid hr1; clear hr1
  clear hq
  cases b with
  | false =>
    go_wp2_with fail
    go_at_call 11
    refine (HAW.out _).mono ?_
    rintro e w2 ⟨hq, rfl⟩
    have HQ := Lib.hid hq; clear hq
    go_wp2_with fail
    go_ret
    exact ⟨S1.out.trans (HQ.out.mono S1.out.size), rfl⟩
  | true =>
    go_wp2_with fail
    rw [HNZ.out, HMZ.out]
    go_at_call 18
    refine (HOFM.out _).mono ?_
    rintro e w2 ⟨hq, rfl⟩
    have bL := Blk.new w2 26 [.bool (ineg M), .string (imag M)]
    have hbq := (Below.alloc hq hq.size (.cells #[.bool (ineg M), .string (imag M)] 26))
    have s2 := S1.out.trans (hbq.mono S1.out.size)
    have hr2 := HR1.out.below hbq (Nat.le_refl _)
    clear x0 x1 x2
    have tk := C0.out.keep hbq; have x0 := tk.cell (j := 0) rfl; have x1 := tk.cell (j := 1) rfl; have x2 := tk.cell (j := 2) rfl; have D0 := Lib.hid tk; clear tk
    obtain ⟨bl, hbl⟩ : ∃ bl, w2.heap.size = bl := ⟨_, rfl⟩
    obtain ⟨w3, hw3⟩ : ∃ w3, w2.alloc (.cells #[.bool (ineg M), .string (imag M)] 26) = w3 := ⟨_, rfl⟩
    rw [hw3] at bL s2 hr2 x0 x1 x2
    rw [hbl] at bL
    have D1 := D0.out
    rw [hw3] at D1
    have y0 := bL.cell (j := 0) rfl
    have y1 := bL.cell (j := 1) rfl
    have hblw : w.heap.size ≤ bl := by have h1 := S1.out.size; have h2 := hq.size; omega
    have BL := Lib.hid bL; clear bL
    have E0 := Lib.hid D1; clear D1
    have S3 := Lib.hid s2; clear s2
    have HR3 := Lib.hid hr2; clear hr2
    clear hq hbq D0
    go_wp2_with fail
    go_at_call 12
    refine (HPR1.out _ _ HR3.out).mono ?_
    rintro e w4 ⟨hq, vs, rfl, hrs⟩
    obtain ⟨sa, sc, rfl, hsle⟩ := hrs.slice
    have s4 := S3.out.trans (hq.mono S3.out.size)
    have hr4 := HR3.out.below hq (Nat.le_refl _)
    clear x0 x1 x2 y0 y1
    have tk := E0.out.keep hq; have x0 := tk.cell (j := 0) rfl; have x1 := tk.cell (j := 1) rfl; have x2 := tk.cell (j := 2) rfl; have F0 := Lib.hid tk; clear tk
    have tk := BL.out.keep hq; have y0 := tk.cell (j := 0) rfl; have y1 := tk.cell (j := 1) rfl; have BL4 := Lib.hid tk; clear tk
    have hbl4 : bl < w4.heap.size := BL4.out.lt
    have hwl4 : w.heap.size < w4.heap.size := F0.out.lt
    have S4 := Lib.hid s4; clear s4
    have HR4 := Lib.hid hr4; clear hr4
    have HRS := Lib.hid hrs; clear hrs
    clear hq
    go_wp2_with fail
    refine wp_region_held_drew (S := fun w' => w'.cell? ⟨w.heap.size, 0, none⟩ = some (.int .i64 (l : Int)) ∧ w'.cell? ⟨w.heap.size, 1, none⟩ = some (.int .i64 (k : Int)) ∧ w'.cell? ⟨w.heap.size, 2, none⟩ = some (.slice va mz vc) ∧ w'.cell? ⟨bl, 0, none⟩ = some (.bool (ineg M)) ∧ w'.cell? ⟨bl, 1, none⟩ = some (.string (imag M))) (by kernel_rfl) ?_ (fun hHeld => ?_)
    · go_keep
    refine wpAnyH_take (i := 0) (v := ?_) rfl (by kernel_rfl) (by kernel_rfl) (by kernel_rfl) (fun _ _ _ h => h) (Or.inl ⟨by rfl, ?_⟩) (by assumption) ?_
    rotate_left
    · (intro wS hSw; (try dsimp only at hSw); go_simp; (try with_reducible rfl))
    (try simp only [Act.put, List.setIfInBounds_toArray, List.set_cons_zero, List.set_cons_succ])
    refine wpAnyH_take (i := 1) (v := ?_) rfl (by kernel_rfl) (by kernel_rfl) (by kernel_rfl) (fun _ _ _ h => h) (Or.inl ⟨by rfl, ?_⟩) (by assumption) ?_
    rotate_left
    · (intro wS hSw; (try dsimp only at hSw); go_simp; (try with_reducible rfl))
    (try simp only [Act.put, List.setIfInBounds_toArray, List.set_cons_zero, List.set_cons_succ])
    refine wpAnyH_take (i := 2) (v := ?_) rfl (by kernel_rfl) (by kernel_rfl) (by kernel_rfl) (fun _ _ _ h => h) (Or.inl ⟨by rfl, ?_⟩) (by assumption) ?_
    rotate_left
    · (intro wS hSw; (try dsimp only at hSw); go_simp; (try with_reducible rfl))
    (try simp only [Act.put, List.setIfInBounds_toArray, List.set_cons_zero, List.set_cons_succ])
    refine wpAnyH_ready (rs := [3]) (by kernel_rfl) (by simp) ?_
    refine AllReadyH.cons rfl (fun K hK => ?_) AllReadyH.nil
    go_simp
    go_at_call 18
    refine (HOF1.out _).mono ?_
    rintro e w5 ⟨hq, rfl⟩
    skip
    dsimp only
    have z0 := (hq.cell (p := ⟨w.heap.size, 0, none⟩) (show w.heap.size < w4.heap.size by first | omega | simp)).trans hHeld.1
    have z1 := (hq.cell (p := ⟨w.heap.size, 1, none⟩) (show w.heap.size < w4.heap.size by first | omega | simp)).trans hHeld.2.1
    have z2 := (hq.cell (p := ⟨w.heap.size, 2, none⟩) (show w.heap.size < w4.heap.size by first | omega | simp)).trans hHeld.2.2.1
    have z3 := (hq.cell (p := ⟨bl, 0, none⟩) (show bl < w4.heap.size by first | omega | simp)).trans hHeld.2.2.2.1
    have z4 := (hq.cell (p := ⟨bl, 1, none⟩) (show bl < w4.heap.size by first | omega | simp)).trans hHeld.2.2.2.2
    clear hHeld
    refine hK.out _ _ ⟨z0, z1, z2, z3, z4⟩ (fun hHeld => ?_)
    clear hK K
    (try simp only [Act.put, List.setIfInBounds_toArray, List.set_cons_zero, List.set_cons_succ])
    have sn := S4.out.drew.trans (hq.mono S4.out.drew.size)
    have rn := HR4.out.drew.below hq (Nat.le_refl _)
    have gn := F0.out.drew.keep hq
    have ln := BL4.out.drew.keep hq
    have tn := HRS.out.drew.below hq (Nat.le_refl _)
    have lww5 : w.heap.size < w5.heap.size := gn.lt
    have lbw5 : bl < w5.heap.size := ln.lt
    have Sw5 := Lib.hid sn; clear sn
    have HRw5 := Lib.hid rn; clear rn
    have Fw5 := Lib.hid gn; clear gn
    have Lw5 := Lib.hid ln; clear ln
    have Tw5 := Lib.hid tn; clear tn
    clear hq z0 z1 z2 z3 z4
    clear x0 x1 x2 y0 y1
    refine wpAnyH_ready (rs := [4]) (by kernel_rfl) (by simp) ?_
    refine AllReadyH.cons rfl (fun K hK => ?_) AllReadyH.nil
    go_simp
    go_at_call 21
    refine (HADD.out _).mono ?_
    rintro e w6 ⟨hq, rfl⟩
    skip
    dsimp only
    have z0 := (hq.cell (p := ⟨w.heap.size, 0, none⟩) (show w.heap.size < w5.heap.size by first | omega | simp)).trans hHeld.1
    have z1 := (hq.cell (p := ⟨w.heap.size, 1, none⟩) (show w.heap.size < w5.heap.size by first | omega | simp)).trans hHeld.2.1
    have z2 := (hq.cell (p := ⟨w.heap.size, 2, none⟩) (show w.heap.size < w5.heap.size by first | omega | simp)).trans hHeld.2.2.1
    have z3 := (hq.cell (p := ⟨bl, 0, none⟩) (show bl < w5.heap.size by first | omega | simp)).trans hHeld.2.2.2.1
    have z4 := (hq.cell (p := ⟨bl, 1, none⟩) (show bl < w5.heap.size by first | omega | simp)).trans hHeld.2.2.2.2
    clear hHeld
    refine hK.out _ _ ⟨z0, z1, z2, z3, z4⟩ (fun hHeld => ?_)
    clear hK K
    (try simp only [Act.put, List.setIfInBounds_toArray, List.set_cons_zero, List.set_cons_succ])
    have sn := Sw5.out.trans (hq.mono Sw5.out.size)
    have rn := HRw5.out.below hq (Nat.le_refl _)
    have gn := Fw5.out.keep hq
    have ln := Lw5.out.keep hq
    have tn := Tw5.out.below hq (Nat.le_refl _)
    have lww6 : w.heap.size < w6.heap.size := gn.lt
    have lbw6 : bl < w6.heap.size := ln.lt
    have Sw6 := Lib.hid sn; clear sn
    have HRw6 := Lib.hid rn; clear rn
    have Fw6 := Lib.hid gn; clear gn
    have Lw6 := Lib.hid ln; clear ln
    have Tw6 := Lib.hid tn; clear tn
    clear hq z0 z1 z2 z3 z4
    refine wpAnyH_ready (rs := [5]) (by kernel_rfl) (by simp) ?_
    refine AllReadyH.cons rfl (fun K hK => ?_) AllReadyH.nil
    go_simp
    go_at_call 12
    refine (HPR2.out _ _ HRw6.out).mono ?_
    rintro e w7 ⟨hq, vm, rfl, hrm⟩
    obtain ⟨ma, mc, rfl, hmle⟩ := hrm.slice
    dsimp only
    have z0 := (hq.cell (p := ⟨w.heap.size, 0, none⟩) (show w.heap.size < w6.heap.size by first | omega | simp)).trans hHeld.1
    have z1 := (hq.cell (p := ⟨w.heap.size, 1, none⟩) (show w.heap.size < w6.heap.size by first | omega | simp)).trans hHeld.2.1
    have z2 := (hq.cell (p := ⟨w.heap.size, 2, none⟩) (show w.heap.size < w6.heap.size by first | omega | simp)).trans hHeld.2.2.1
    have z3 := (hq.cell (p := ⟨bl, 0, none⟩) (show bl < w6.heap.size by first | omega | simp)).trans hHeld.2.2.2.1
    have z4 := (hq.cell (p := ⟨bl, 1, none⟩) (show bl < w6.heap.size by first | omega | simp)).trans hHeld.2.2.2.2
    clear hHeld
    refine hK.out _ _ ⟨z0, z1, z2, z3, z4⟩ (fun hHeld => ?_)
    clear hK K
    (try simp only [Act.put, List.setIfInBounds_toArray, List.set_cons_zero, List.set_cons_succ])
    have sn := Sw6.out.trans (hq.mono Sw6.out.size)
    have rn := HRw6.out.below hq (Nat.le_refl _)
    have gn := Fw6.out.keep hq
    have ln := Lw6.out.keep hq
    have tn := Tw6.out.below hq (Nat.le_refl _)
    have lww7 : w.heap.size < w7.heap.size := gn.lt
    have lbw7 : bl < w7.heap.size := ln.lt
    have Sw7 := Lib.hid sn; clear sn
    have HRw7 := Lib.hid rn; clear rn
    have Fw7 := Lib.hid gn; clear gn
    have Lw7 := Lib.hid ln; clear ln
    have Tw7 := Lib.hid tn; clear tn
    clear hq z0 z1 z2 z3 z4
    refine wpAnyH_take (i := 6) (v := ?_) rfl (by kernel_rfl) (by kernel_rfl) (by kernel_rfl) (fun _ _ _ h => h) (Or.inl ⟨by rfl, ?_⟩) (by assumption) ?_
    rotate_left
    · (intro wS hSw; (try dsimp only at hSw); go_simp; (try with_reducible rfl))
    (try simp only [Act.put, List.setIfInBounds_toArray, List.set_cons_zero, List.set_cons_succ])
    refine wpAnyH_take (i := 7) (v := ?_) rfl (by kernel_rfl) (by kernel_rfl) (by kernel_rfl) (fun _ _ _ h => h) (Or.inl ⟨by rfl, ?_⟩) (by assumption) ?_
    rotate_left
    · (intro wS hSw; (try dsimp only at hSw); go_simp; (try with_reducible rfl))
    (try simp only [Act.put, List.setIfInBounds_toArray, List.set_cons_zero, List.set_cons_succ])
    refine wpAnyH_take (i := 8) (v := ?_) rfl (by kernel_rfl) (by kernel_rfl) (by kernel_rfl) (fun _ _ _ h => h) (Or.inl ⟨by rfl, ?_⟩) (by assumption) ?_
    rotate_left
    · (intro wS hSw; (try dsimp only at hSw); go_simp; (try with_reducible rfl))
    (try simp only [Act.put, List.setIfInBounds_toArray, List.set_cons_zero, List.set_cons_succ])
    refine wpAnyH_take (i := 9) (v := ?_) rfl (by kernel_rfl) (by kernel_rfl) (by kernel_rfl) (fun _ _ _ h => h) (Or.inl ⟨by rfl, ?_⟩) (by assumption) ?_
    rotate_left
    · (intro wS hSw; (try dsimp only at hSw); go_simp; (try with_reducible rfl))
    (try simp only [Act.put, List.setIfInBounds_toArray, List.set_cons_zero, List.set_cons_succ])
    refine wpAnyH_take (i := 10) (v := ?_) rfl (by kernel_rfl) (by kernel_rfl) (by kernel_rfl) (fun _ _ _ h => h) (Or.inl ⟨by rfl, ?_⟩) (by assumption) ?_
    rotate_left
    · (intro wS hSw; (try dsimp only at hSw); go_simp; (try with_reducible rfl))
    (try simp only [Act.put, List.setIfInBounds_toArray, List.set_cons_zero, List.set_cons_succ])
    refine wpAnyH_done (by kernel_rfl) ?_ _
    (try simp only [List.getElem_toArray, List.getElem_cons_zero, List.getElem_cons_succ, Act.put, List.setIfInBounds_toArray, List.set_cons_zero, List.set_cons_succ])
    clear hHeld
    have x0 := Fw7.out.cell (j := 0) rfl
    have x1 := Fw7.out.cell (j := 1) rfl
    have x2 := Fw7.out.cell (j := 2) rfl
    have y0 := Lw7.out.cell (j := 0) rfl
    have y1 := Lw7.out.cell (j := 1) rfl
    have HRM := Lib.hid hrm; clear hrm
    go_wp2_with fail
    go_at_call 22
    refine (HLP.out l1 HSS1.out _ _ _ HRw7.out Tw7.out).mono ?_
    rintro e w8 ⟨hq, b, rfl, hb⟩
    obtain rfl : b = true := hb.2 HSELF.out
    have s8 := Sw7.out.trans (hq.mono Sw7.out.size)
    have r8 := HRw7.out.below hq (Nat.le_refl _)
    have t8 := Tw7.out.below hq (Nat.le_refl _)
    have m8 := HRM.out.below hq (Nat.le_refl _)
    have f8 := Fw7.out.keep hq
    have l8 := Lw7.out.keep hq
    have S8 := Lib.hid s8; clear s8
    have HR8 := Lib.hid r8; clear r8
    have T8 := Lib.hid t8; clear t8
    have M8 := Lib.hid m8; clear m8
    have F8 := Lib.hid f8; clear f8
    have L8 := Lib.hid l8; clear l8
    clear hq hb x0 x1 x2 y0 y1
    go_wp2_with fail
    go_loopw [79] (fun i wr => ∃ a : Nat, a ≤ l2.length ∧ i = .int .i64 a ∧ Below w8.heap.size w8 wr) (fun i _ => l2.length - (intOf i).toNat)
    case atStart => exact ⟨0, Nat.zero_le _, rfl, Below.refl _ _⟩
    case round =>
      obtain ⟨a, ha, rfl, hbel⟩ := hrel
      have HBEL := Lib.hid hbel; clear hbel
      by_cases hlt : a < l2.length
      · obtain ⟨x, hx⟩ : ∃ x, l2[a]? = some x := ⟨l2[a], List.getElem?_eq_getElem hlt⟩
        have hxin : decide (x ∈ l1) = true := decide_eq_true (HSUB.out x (List.mem_of_getElem? hx))
        obtain ⟨b', off, rfl, hbw, hce⟩ := M8.out.at_ (by omega)
        have c0 := (HBEL.out.cell (p := ⟨b', off + a, none⟩) hbw).trans (hce a _ (ci_at hx))
        have hct := contains_any l1 _ x wr (T8.out.below HBEL.out (Nat.le_refl _)) (by omega)
        rw [hxin] at hct
        have HCT := Lib.hid hct; clear hct
        clear hce hx hxin
        go_wp2_with fail
        go_at_call 23
        refine HCT.out.mono ?_
        rintro e w9 ⟨hq, rfl⟩
        have HQ := Lib.hid hq; clear hq
        go_wp2_with fail
        go_roundw
        case rel => exact ⟨a + 1, by omega, by go_num, HBEL.out.trans (HQ.out.mono HBEL.out.size)⟩
        case measure => simp [intOf]; omega
      · obtain rfl : a = l2.length := by omega
        have f9 := F8.out.keep HBEL.out
        have l9 := L8.out.keep HBEL.out
        have s9 := S8.out.trans (HBEL.out.mono S8.out.size)
        have r9 := HR8.out.below HBEL.out (Nat.le_refl _)
        have t9 := T8.out.below HBEL.out (Nat.le_refl _)
        have x0 := f9.cell (j := 0) rfl
        have x1 := f9.cell (j := 1) rfl
        have x2 := f9.cell (j := 2) rfl
        have F9 := Lib.hid f9; clear f9
        have L9 := Lib.hid l9; clear l9
        have S9 := Lib.hid s9; clear s9
        have R9 := Lib.hid r9; clear r9
        have T9 := Lib.hid t9; clear t9
        go_wp2_with fail
        go_at_call 24
        refine (HCH.out _ _).mono ?_
        rintro e wa ⟨hq, vo, lo, rfl, hlo, hro⟩
        obtain ⟨oa, oc, rfl, hole⟩ := hro.slice
        have sa' := S9.out.trans (hq.mono S9.out.size)
        have ra := R9.out.below hq (Nat.le_refl _)
        have ta := T9.out.below hq (Nat.le_refl _)
        have fa := F9.out.keep hq
        have la := L9.out.keep hq
        clear x0 x1 x2
        have x0 := fa.cell (j := 0) rfl
        have x1 := fa.cell (j := 1) rfl
        have x2 := fa.cell (j := 2) rfl
        have y0 := la.cell (j := 0) rfl
        have y1 := la.cell (j := 1) rfl
        have hlol := asc_len hlo
        have SA := Lib.hid sa'; clear sa'
        have RA := Lib.hid ra; clear ra
        have TA := Lib.hid ta; clear ta
        have HRO := Lib.hid hro; clear hro
        have HLO := Lib.hid hlo; clear hlo
        clear hq fa la
        go_wp2_with fail
        go_at_call 22
        refine (HLP.out lo HLO.out _ _ _ RA.out HRO.out).mono ?_
        rintro e wb ⟨hq, b, rfl, hb⟩
        have sb := SA.out.trans (hq.mono SA.out.size)
        have tb := TA.out.below hq (Nat.le_refl _)
        have ob := HRO.out.below hq (Nat.le_refl _)
        have SB := Lib.hid sb; clear sb
        have TB := Lib.hid tb; clear tb
        have OB := Lib.hid ob; clear ob
        clear hq x0 x1 x2 y0 y1
        cases b with
        | false =>
          clear hb
          go_wp2_with fail
          go_at_call 11
          refine (HAW.out _).mono ?_
          rintro e wc ⟨hq, rfl⟩
          have HQ := Lib.hid hq; clear hq
          go_wp2_with fail
          go_ret
          exact ⟨SB.out.trans (HQ.out.mono SB.out.size), rfl⟩
        | true =>
          have hsub2 := HGR.out lo (hb.1 rfl) HLO.out
          have HSUB2 := Lib.hid hsub2; clear hsub2
          clear hb
          go_wp2_with fail
          go_loopw [98] (fun i wr => ∃ a : Nat, a ≤ lo.length ∧ i = .int .i64 a ∧ Below wb.heap.size wb wr) (fun i _ => lo.length - (intOf i).toNat)
          case atStart => exact ⟨0, Nat.zero_le _, rfl, Below.refl _ _⟩
          case round =>
            obtain ⟨a, ha, rfl, hbel⟩ := hrel
            have HBEL2 := Lib.hid hbel; clear hbel
            by_cases hlt : a < lo.length
            · obtain ⟨x, hx⟩ : ∃ x, lo[a]? = some x := ⟨lo[a], List.getElem?_eq_getElem hlt⟩
              have hxin : decide (x ∈ l1) = true := decide_eq_true (HSUB2.out x (List.mem_of_getElem? hx))
              obtain ⟨b', off, rfl, hbw, hce⟩ := OB.out.at_ (by omega)
              have c0 := (HBEL2.out.cell (p := ⟨b', off + a, none⟩) hbw).trans (hce a _ (ci_at hx))
              have hct := contains_any l1 _ x wr (TB.out.below HBEL2.out (Nat.le_refl _)) (by omega)
              rw [hxin] at hct
              have HCT := Lib.hid hct; clear hct
              clear hce hx hxin
              go_wp2_with fail
              go_at_call 23
              refine HCT.out.mono ?_
              rintro e w9 ⟨hq, rfl⟩
              have HQ := Lib.hid hq; clear hq
              go_wp2_with fail
              go_roundw
              case rel => exact ⟨a + 1, by omega, by go_num, HBEL2.out.trans (HQ.out.mono HBEL2.out.size)⟩
              case measure => simp [intOf]; omega
            · obtain rfl : a = lo.length := by omega
              go_wp2_with fail
              go_at_call 11
              refine (HAW.out _).mono ?_
              rintro e wc ⟨hq, rfl⟩
              have HQ := Lib.hid hq; clear hq
              go_wp2_with fail
              go_ret
              have s1 := SB.out.trans (HBEL2.out.mono SB.out.size)
              exact ⟨s1.trans (HQ.out.mono s1.size), rfl⟩
set_option maxRecDepth 100000 in
set_option maxHeartbeats 3200000 in
theorem lgrt_11 (l k N : Nat) (M : Int) (es : List E3) (v : Value) (nn mm nb : Nat) (w : World) (hr : Row w v es.length (ce es)) (hok : okEs es) (hnn : nn ≤ 255) (hmm0 : mm ≤ 65535) (hnb : nb ≤ 65535) (hE : eck (l : Int) (k : Int) es = 0) (hN : N = nn % 9) (hM : M = 1 + (mm : Int)) (h1 : prin es N M (uptoZ k) = []) (h2 : prin es N (M + 1) (uptoZ k) = []) :
    Calls Try.prog 5 #[.agg #[.int .i64 (l : Int), .int .i64 (k : Int), v], .int .u8 (nn : Int), .int .u16 (mm : Int), .int .u16 (nb : Int)] w (Ret w (.bool true)) := by
  have hN8 : N ≤ 8 := by omega
  have hM1 : 1 ≤ M := by omega
  have hM2 : M ≤ 65536 := by omega
  have hNz : ((nn : Int) % 9) = (N : Int) := by omega
  have hMz : (1 + (mm : Int)) = M := hM.symm
  have hz := eck_zero hE
  have hca := chk_all hz.1
  have hk64 : k ≤ 64 := by omega
  clear hN hM
  obtain ⟨va, vc, rfl, hle⟩ := hr.slice
  obtain ⟨mz, hmz⟩ : ∃ mz, mz = es.length := ⟨_, rfl⟩
  have s0 := (Below.refl w.heap.size w).alloc (Nat.le_refl _) (.cells #[.int .i64 (l : Int), .int .i64 (k : Int), .slice va es.length vc] 24)
  have b0 := Blk.new w 24 [.int .i64 (l : Int), .int .i64 (k : Int), .slice va es.length vc]
  have hr0 := hr.below s0 (Nat.le_refl _)
  have hfi := fine_any (l : Int) (k : Int) es _ _ hr0 hok
  have haw := awake29_true
  rw [← hmz] at s0 b0 hr0 hfi
  have HMM := Lib.hid hmz; clear hmz
  have HFI := Lib.hid hfi; clear hfi
  have HAW := Lib.hid haw; clear haw
  have S0 := Lib.hid s0; clear s0
  have B0 := Lib.hid b0; clear b0
  have HR := Lib.hid hr0; clear hr0
  have hsmM : small M := by obtain ⟨y, rfl⟩ : ∃ y : Nat, M = y := ⟨M.toNat, by omega⟩; exact small_nat (by omega)
  have hsmM1 : small (M + 1) := by obtain ⟨y, hy⟩ : ∃ y : Nat, M + 1 = y := ⟨(M + 1).toNat, by omega⟩; rw [hy]; exact small_nat (by omega)
  have hpr := fun (X : Int) (hX : 1 ≤ X) (hs : small X) v' w' (h : Row w' v' es.length (ce es)) => eprc_any (l : Int) (k : Int) es v' (N : Int) (ineg X) (imag X) w' h hok hs
  have hpr1 := hpr M hM1 hsmM
  have hpr2 := hpr (M + 1) (by omega) hsmM1
  rw [prcP_at hE (by omega) hM1, if_pos h1] at hpr1
  rw [prcP_at hE (by omega) (by omega), if_pos h2] at hpr2
  have hsub : ∀ s ∈ prin es N (M + 1) (uptoZ k), s ∈ prin es N M (uptoZ k) := prin_anti (by omega) _
  have hgreat := fun (Y : List Int) (hY : Prcp es N M Y) (hs : SomeS k Y) => prin_great hY (uptoZ k) (someS_upto hs)
  have hself := prin_prcp es N M (uptoZ k)
  have hss1 := prin_someS es N M k
  have hss2 := prin_someS es N (M + 1) k
  have hlp := fun (set : List Int) (hset : SomeS k set) v' vs w' (h : Row w' v' es.length (ce es)) (hs : Row w' vs set.length (ci set)) => lprc_any (l : Int) k N M es v' vs set w' h hs hok hz.1 hset (by omega) hsmM
  have hch := fun v' w' => choose_any (l : Int) k nb v' w' hk64 hnb
  obtain ⟨l1, hl1⟩ : ∃ l1, l1 = prin es N M (uptoZ k) := ⟨_, rfl⟩
  obtain ⟨l2, hl2⟩ : ∃ l2, l2 = prin es N (M + 1) (uptoZ k) := ⟨_, rfl⟩
  rw [← hl1] at hpr1 hsub hself hss1 h1
  rw [← hl2] at hpr2 hsub hss2 h2
  simp only [← hl1] at hgreat
  have hn1 := asc_len hss1
  have hn2 := asc_len hss2
  have hof1 := fun w' => iof_any 1 w' (by decide) (by decide)
  have hofM := fun w' => iof_any M w' (by omega) (by omega)
  have hadd := fun w' => iadd_any (ineg M) (ineg 1) (imag M) (imag 1) w' hsmM (small_nat (x := 1) (by decide))
  simp only [ival_canon] at hadd
  have tlen : ¬ 0 < l1.length := by rw [h1]; simp
  rw [← HMM.out] at hpr1 hpr2
  simp only [← HMM.out] at hlp
  obtain ⟨M1, hM1e⟩ : ∃ M1, M1 = M + 1 := ⟨_, rfl⟩
  rw [← hM1e] at hpr2 hadd
  have HNZ := Lib.hid hNz; clear hNz
  have HMZ := Lib.hid hMz; clear hMz
  have HPR1 := Lib.hid hpr1; clear hpr1
  have HPR2 := Lib.hid hpr2; clear hpr2
  have HSUB := Lib.hid hsub; clear hsub
  have HGR := Lib.hid hgreat; clear hgreat
  have HSELF := Lib.hid hself; clear hself
  have HSS1 := Lib.hid hss1; clear hss1
  have HSS2 := Lib.hid hss2; clear hss2
  have HLP := Lib.hid hlp; clear hlp
  have HCH := Lib.hid hch; clear hch
  have HOF1 := Lib.hid hof1; clear hof1
  have HOFM := Lib.hid hofM; clear hofM
  have HADD := Lib.hid hadd; clear hadd
  clear hr hok hE hz hca hpr hl1 hl2 hM1e hsmM hsmM1 h1 h2
  go_enter Try.func5, Try.ntmps5
  rw [← HMM.out]
  go_wp2_with fail
  go_at_call 17
  refine HFI.out.mono ?_
  rintro e w1 ⟨hq, b, rfl, hb⟩
  have s1 := S0.out.trans (hq.mono S0.out.size)
  have hr1 := HR.out.below hq (Nat.le_refl _)
  have tk := B0.out.keep hq; have x0 := tk.cell (j := 0) rfl; have x1 := tk.cell (j := 1) rfl; have x2 := tk.cell (j := 2) rfl; have C0 := Lib.hid tk; clear tk
  have S1 := Lib.hid s1; clear s1
  have HR1 := Lib.hid hr1; clear hr1
  clear hq
  cases b with
  | false =>
    go_wp2_with fail
    go_at_call 11
    refine (HAW.out _).mono ?_
    rintro e w2 ⟨hq, rfl⟩
    have HQ := Lib.hid hq; clear hq
    go_wp2_with fail
    go_ret
    exact ⟨S1.out.trans (HQ.out.mono S1.out.size), rfl⟩
  | true =>
    go_wp2_with fail
    rw [HNZ.out, HMZ.out]
    go_at_call 18
    refine (HOFM.out _).mono ?_
    rintro e w2 ⟨hq, rfl⟩
    have bL := Blk.new w2 26 [.bool (ineg M), .string (imag M)]
    have hbq := (Below.alloc hq hq.size (.cells #[.bool (ineg M), .string (imag M)] 26))
    have s2 := S1.out.trans (hbq.mono S1.out.size)
    have hr2 := HR1.out.below hbq (Nat.le_refl _)
    clear x0 x1 x2
    have tk := C0.out.keep hbq; have x0 := tk.cell (j := 0) rfl; have x1 := tk.cell (j := 1) rfl; have x2 := tk.cell (j := 2) rfl; have D0 := Lib.hid tk; clear tk
    obtain ⟨bl, hbl⟩ : ∃ bl, w2.heap.size = bl := ⟨_, rfl⟩
    obtain ⟨w3, hw3⟩ : ∃ w3, w2.alloc (.cells #[.bool (ineg M), .string (imag M)] 26) = w3 := ⟨_, rfl⟩
    rw [hw3] at bL s2 hr2 x0 x1 x2
    rw [hbl] at bL
    have D1 := D0.out
    rw [hw3] at D1
    have y0 := bL.cell (j := 0) rfl
    have y1 := bL.cell (j := 1) rfl
    have hblw : w.heap.size ≤ bl := by have h1 := S1.out.size; have h2 := hq.size; omega
    have BL := Lib.hid bL; clear bL
    have E0 := Lib.hid D1; clear D1
    have S3 := Lib.hid s2; clear s2
    have HR3 := Lib.hid hr2; clear hr2
    clear hq hbq D0
    go_wp2_with fail
    go_at_call 12
    refine (HPR1.out _ _ HR3.out).mono ?_
    rintro e w4 ⟨hq, vs, rfl, hrs⟩
    obtain ⟨sa, sc, rfl, hsle⟩ := hrs.slice
    have s4 := S3.out.trans (hq.mono S3.out.size)
    have hr4 := HR3.out.below hq (Nat.le_refl _)
    clear x0 x1 x2 y0 y1
    have tk := E0.out.keep hq; have x0 := tk.cell (j := 0) rfl; have x1 := tk.cell (j := 1) rfl; have x2 := tk.cell (j := 2) rfl; have F0 := Lib.hid tk; clear tk
    have tk := BL.out.keep hq; have y0 := tk.cell (j := 0) rfl; have y1 := tk.cell (j := 1) rfl; have BL4 := Lib.hid tk; clear tk
    have hbl4 : bl < w4.heap.size := BL4.out.lt
    have hwl4 : w.heap.size < w4.heap.size := F0.out.lt
    have S4 := Lib.hid s4; clear s4
    have HR4 := Lib.hid hr4; clear hr4
    have HRS := Lib.hid hrs; clear hrs
    clear hq
    go_wp2_with fail
    refine wp_region_held_drew (S := fun w' => w'.cell? ⟨w.heap.size, 0, none⟩ = some (.int .i64 (l : Int)) ∧ w'.cell? ⟨w.heap.size, 1, none⟩ = some (.int .i64 (k : Int)) ∧ w'.cell? ⟨w.heap.size, 2, none⟩ = some (.slice va mz vc) ∧ w'.cell? ⟨bl, 0, none⟩ = some (.bool (ineg M)) ∧ w'.cell? ⟨bl, 1, none⟩ = some (.string (imag M))) (by kernel_rfl) ?_ (fun hHeld => ?_)
    · go_keep
    refine wpAnyH_take (i := 0) (v := ?_) rfl (by kernel_rfl) (by kernel_rfl) (by kernel_rfl) (fun _ _ _ h => h) (Or.inl ⟨by rfl, ?_⟩) (by assumption) ?_
    rotate_left
    · (intro wS hSw; (try dsimp only at hSw); go_simp; (try with_reducible rfl))
    (try simp only [Act.put, List.setIfInBounds_toArray, List.set_cons_zero, List.set_cons_succ])
    refine wpAnyH_take (i := 1) (v := ?_) rfl (by kernel_rfl) (by kernel_rfl) (by kernel_rfl) (fun _ _ _ h => h) (Or.inl ⟨by rfl, ?_⟩) (by assumption) ?_
    rotate_left
    · (intro wS hSw; (try dsimp only at hSw); go_simp; (try with_reducible rfl))
    (try simp only [Act.put, List.setIfInBounds_toArray, List.set_cons_zero, List.set_cons_succ])
    refine wpAnyH_take (i := 2) (v := ?_) rfl (by kernel_rfl) (by kernel_rfl) (by kernel_rfl) (fun _ _ _ h => h) (Or.inl ⟨by rfl, ?_⟩) (by assumption) ?_
    rotate_left
    · (intro wS hSw; (try dsimp only at hSw); go_simp; (try with_reducible rfl))
    (try simp only [Act.put, List.setIfInBounds_toArray, List.set_cons_zero, List.set_cons_succ])
    refine wpAnyH_ready (rs := [3]) (by kernel_rfl) (by simp) ?_
    refine AllReadyH.cons rfl (fun K hK => ?_) AllReadyH.nil
    go_simp
    go_at_call 18
    refine (HOF1.out _).mono ?_
    rintro e w5 ⟨hq, rfl⟩
    skip
    dsimp only
    have z0 := (hq.cell (p := ⟨w.heap.size, 0, none⟩) (show w.heap.size < w4.heap.size by first | omega | simp)).trans hHeld.1
    have z1 := (hq.cell (p := ⟨w.heap.size, 1, none⟩) (show w.heap.size < w4.heap.size by first | omega | simp)).trans hHeld.2.1
    have z2 := (hq.cell (p := ⟨w.heap.size, 2, none⟩) (show w.heap.size < w4.heap.size by first | omega | simp)).trans hHeld.2.2.1
    have z3 := (hq.cell (p := ⟨bl, 0, none⟩) (show bl < w4.heap.size by first | omega | simp)).trans hHeld.2.2.2.1
    have z4 := (hq.cell (p := ⟨bl, 1, none⟩) (show bl < w4.heap.size by first | omega | simp)).trans hHeld.2.2.2.2
    clear hHeld
    refine hK.out _ _ ⟨z0, z1, z2, z3, z4⟩ (fun hHeld => ?_)
    clear hK K
    (try simp only [Act.put, List.setIfInBounds_toArray, List.set_cons_zero, List.set_cons_succ])
    have sn := S4.out.drew.trans (hq.mono S4.out.drew.size)
    have rn := HR4.out.drew.below hq (Nat.le_refl _)
    have gn := F0.out.drew.keep hq
    have ln := BL4.out.drew.keep hq
    have tn := HRS.out.drew.below hq (Nat.le_refl _)
    have lww5 : w.heap.size < w5.heap.size := gn.lt
    have lbw5 : bl < w5.heap.size := ln.lt
    have Sw5 := Lib.hid sn; clear sn
    have HRw5 := Lib.hid rn; clear rn
    have Fw5 := Lib.hid gn; clear gn
    have Lw5 := Lib.hid ln; clear ln
    have Tw5 := Lib.hid tn; clear tn
    clear hq z0 z1 z2 z3 z4
    clear x0 x1 x2 y0 y1
    refine wpAnyH_ready (rs := [4]) (by kernel_rfl) (by simp) ?_
    refine AllReadyH.cons rfl (fun K hK => ?_) AllReadyH.nil
    go_simp
    go_at_call 21
    refine (HADD.out _).mono ?_
    rintro e w6 ⟨hq, rfl⟩
    skip
    dsimp only
    have z0 := (hq.cell (p := ⟨w.heap.size, 0, none⟩) (show w.heap.size < w5.heap.size by first | omega | simp)).trans hHeld.1
    have z1 := (hq.cell (p := ⟨w.heap.size, 1, none⟩) (show w.heap.size < w5.heap.size by first | omega | simp)).trans hHeld.2.1
    have z2 := (hq.cell (p := ⟨w.heap.size, 2, none⟩) (show w.heap.size < w5.heap.size by first | omega | simp)).trans hHeld.2.2.1
    have z3 := (hq.cell (p := ⟨bl, 0, none⟩) (show bl < w5.heap.size by first | omega | simp)).trans hHeld.2.2.2.1
    have z4 := (hq.cell (p := ⟨bl, 1, none⟩) (show bl < w5.heap.size by first | omega | simp)).trans hHeld.2.2.2.2
    clear hHeld
    refine hK.out _ _ ⟨z0, z1, z2, z3, z4⟩ (fun hHeld => ?_)
    clear hK K
    (try simp only [Act.put, List.setIfInBounds_toArray, List.set_cons_zero, List.set_cons_succ])
    have sn := Sw5.out.trans (hq.mono Sw5.out.size)
    have rn := HRw5.out.below hq (Nat.le_refl _)
    have gn := Fw5.out.keep hq
    have ln := Lw5.out.keep hq
    have tn := Tw5.out.below hq (Nat.le_refl _)
    have lww6 : w.heap.size < w6.heap.size := gn.lt
    have lbw6 : bl < w6.heap.size := ln.lt
    have Sw6 := Lib.hid sn; clear sn
    have HRw6 := Lib.hid rn; clear rn
    have Fw6 := Lib.hid gn; clear gn
    have Lw6 := Lib.hid ln; clear ln
    have Tw6 := Lib.hid tn; clear tn
    clear hq z0 z1 z2 z3 z4
    refine wpAnyH_ready (rs := [5]) (by kernel_rfl) (by simp) ?_
    refine AllReadyH.cons rfl (fun K hK => ?_) AllReadyH.nil
    go_simp
    go_at_call 12
    refine (HPR2.out _ _ HRw6.out).mono ?_
    rintro e w7 ⟨hq, vm, rfl, hrm⟩
    obtain ⟨ma, mc, rfl, hmle⟩ := hrm.slice
    dsimp only
    have z0 := (hq.cell (p := ⟨w.heap.size, 0, none⟩) (show w.heap.size < w6.heap.size by first | omega | simp)).trans hHeld.1
    have z1 := (hq.cell (p := ⟨w.heap.size, 1, none⟩) (show w.heap.size < w6.heap.size by first | omega | simp)).trans hHeld.2.1
    have z2 := (hq.cell (p := ⟨w.heap.size, 2, none⟩) (show w.heap.size < w6.heap.size by first | omega | simp)).trans hHeld.2.2.1
    have z3 := (hq.cell (p := ⟨bl, 0, none⟩) (show bl < w6.heap.size by first | omega | simp)).trans hHeld.2.2.2.1
    have z4 := (hq.cell (p := ⟨bl, 1, none⟩) (show bl < w6.heap.size by first | omega | simp)).trans hHeld.2.2.2.2
    clear hHeld
    refine hK.out _ _ ⟨z0, z1, z2, z3, z4⟩ (fun hHeld => ?_)
    clear hK K
    (try simp only [Act.put, List.setIfInBounds_toArray, List.set_cons_zero, List.set_cons_succ])
    have sn := Sw6.out.trans (hq.mono Sw6.out.size)
    have rn := HRw6.out.below hq (Nat.le_refl _)
    have gn := Fw6.out.keep hq
    have ln := Lw6.out.keep hq
    have tn := Tw6.out.below hq (Nat.le_refl _)
    have lww7 : w.heap.size < w7.heap.size := gn.lt
    have lbw7 : bl < w7.heap.size := ln.lt
    have Sw7 := Lib.hid sn; clear sn
    have HRw7 := Lib.hid rn; clear rn
    have Fw7 := Lib.hid gn; clear gn
    have Lw7 := Lib.hid ln; clear ln
    have Tw7 := Lib.hid tn; clear tn
    clear hq z0 z1 z2 z3 z4
    refine wpAnyH_take (i := 6) (v := ?_) rfl (by kernel_rfl) (by kernel_rfl) (by kernel_rfl) (fun _ _ _ h => h) (Or.inl ⟨by rfl, ?_⟩) (by assumption) ?_
    rotate_left
    · (intro wS hSw; (try dsimp only at hSw); go_simp; (try with_reducible rfl))
    (try simp only [Act.put, List.setIfInBounds_toArray, List.set_cons_zero, List.set_cons_succ])
    refine wpAnyH_take (i := 7) (v := ?_) rfl (by kernel_rfl) (by kernel_rfl) (by kernel_rfl) (fun _ _ _ h => h) (Or.inl ⟨by rfl, ?_⟩) (by assumption) ?_
    rotate_left
    · (intro wS hSw; (try dsimp only at hSw); go_simp; (try with_reducible rfl))
    (try simp only [Act.put, List.setIfInBounds_toArray, List.set_cons_zero, List.set_cons_succ])
    refine wpAnyH_take (i := 8) (v := ?_) rfl (by kernel_rfl) (by kernel_rfl) (by kernel_rfl) (fun _ _ _ h => h) (Or.inl ⟨by rfl, ?_⟩) (by assumption) ?_
    rotate_left
    · (intro wS hSw; (try dsimp only at hSw); go_simp; (try with_reducible rfl))
    (try simp only [Act.put, List.setIfInBounds_toArray, List.set_cons_zero, List.set_cons_succ])
    refine wpAnyH_take (i := 9) (v := ?_) rfl (by kernel_rfl) (by kernel_rfl) (by kernel_rfl) (fun _ _ _ h => h) (Or.inl ⟨by rfl, ?_⟩) (by assumption) ?_
    rotate_left
    · (intro wS hSw; (try dsimp only at hSw); go_simp; (try with_reducible rfl))
    (try simp only [Act.put, List.setIfInBounds_toArray, List.set_cons_zero, List.set_cons_succ])
    refine wpAnyH_take (i := 10) (v := ?_) rfl (by kernel_rfl) (by kernel_rfl) (by kernel_rfl) (fun _ _ _ h => h) (Or.inl ⟨by rfl, ?_⟩) (by assumption) ?_
    rotate_left
    · (intro wS hSw; (try dsimp only at hSw); go_simp; (try with_reducible rfl))
    (try simp only [Act.put, List.setIfInBounds_toArray, List.set_cons_zero, List.set_cons_succ])
    refine wpAnyH_done (by kernel_rfl) ?_ _
    (try simp only [List.getElem_toArray, List.getElem_cons_zero, List.getElem_cons_succ, Act.put, List.setIfInBounds_toArray, List.set_cons_zero, List.set_cons_succ])
    clear hHeld
    have x0 := Fw7.out.cell (j := 0) rfl
    have x1 := Fw7.out.cell (j := 1) rfl
    have x2 := Fw7.out.cell (j := 2) rfl
    have y0 := Lw7.out.cell (j := 0) rfl
    have y1 := Lw7.out.cell (j := 1) rfl
    have HRM := Lib.hid hrm; clear hrm
    go_wp2_with fail
    go_at_call 22
    refine (HLP.out l1 HSS1.out _ _ _ HRw7.out Tw7.out).mono ?_
    rintro e w8 ⟨hq, b, rfl, hb⟩
    obtain rfl : b = true := hb.2 HSELF.out
    have s8 := Sw7.out.trans (hq.mono Sw7.out.size)
    have r8 := HRw7.out.below hq (Nat.le_refl _)
    have t8 := Tw7.out.below hq (Nat.le_refl _)
    have m8 := HRM.out.below hq (Nat.le_refl _)
    have f8 := Fw7.out.keep hq
    have l8 := Lw7.out.keep hq
    have S8 := Lib.hid s8; clear s8
    have HR8 := Lib.hid r8; clear r8
    have T8 := Lib.hid t8; clear t8
    have M8 := Lib.hid m8; clear m8
    have F8 := Lib.hid f8; clear f8
    have L8 := Lib.hid l8; clear l8
    clear hq hb x0 x1 x2 y0 y1
    go_wp2_with fail
    go_loopw [79] (fun i wr => ∃ a : Nat, a ≤ l2.length ∧ i = .int .i64 a ∧ Below w8.heap.size w8 wr) (fun i _ => l2.length - (intOf i).toNat)
    case atStart => exact ⟨0, Nat.zero_le _, rfl, Below.refl _ _⟩
    case round =>
      obtain ⟨a, ha, rfl, hbel⟩ := hrel
      have HBEL := Lib.hid hbel; clear hbel
      by_cases hlt : a < l2.length
      · obtain ⟨x, hx⟩ : ∃ x, l2[a]? = some x := ⟨l2[a], List.getElem?_eq_getElem hlt⟩
        have hxin : decide (x ∈ l1) = true := decide_eq_true (HSUB.out x (List.mem_of_getElem? hx))
        obtain ⟨b', off, rfl, hbw, hce⟩ := M8.out.at_ (by omega)
        have c0 := (HBEL.out.cell (p := ⟨b', off + a, none⟩) hbw).trans (hce a _ (ci_at hx))
        have hct := contains_any l1 _ x wr (T8.out.below HBEL.out (Nat.le_refl _)) (by omega)
        rw [hxin] at hct
        have HCT := Lib.hid hct; clear hct
        clear hce hx hxin
        go_wp2_with fail
        go_at_call 23
        refine HCT.out.mono ?_
        rintro e w9 ⟨hq, rfl⟩
        have HQ := Lib.hid hq; clear hq
        go_wp2_with fail
        go_roundw
        case rel => exact ⟨a + 1, by omega, by go_num, HBEL.out.trans (HQ.out.mono HBEL.out.size)⟩
        case measure => simp [intOf]; omega
      · obtain rfl : a = l2.length := by omega
        have f9 := F8.out.keep HBEL.out
        have l9 := L8.out.keep HBEL.out
        have s9 := S8.out.trans (HBEL.out.mono S8.out.size)
        have r9 := HR8.out.below HBEL.out (Nat.le_refl _)
        have t9 := T8.out.below HBEL.out (Nat.le_refl _)
        have x0 := f9.cell (j := 0) rfl
        have x1 := f9.cell (j := 1) rfl
        have x2 := f9.cell (j := 2) rfl
        have F9 := Lib.hid f9; clear f9
        have L9 := Lib.hid l9; clear l9
        have S9 := Lib.hid s9; clear s9
        have R9 := Lib.hid r9; clear r9
        have T9 := Lib.hid t9; clear t9
        go_wp2_with fail
        go_at_call 24
        refine (HCH.out _ _).mono ?_
        rintro e wa ⟨hq, vo, lo, rfl, hlo, hro⟩
        obtain ⟨oa, oc, rfl, hole⟩ := hro.slice
        have sa' := S9.out.trans (hq.mono S9.out.size)
        have ra := R9.out.below hq (Nat.le_refl _)
        have ta := T9.out.below hq (Nat.le_refl _)
        have fa := F9.out.keep hq
        have la := L9.out.keep hq
        clear x0 x1 x2
        have x0 := fa.cell (j := 0) rfl
        have x1 := fa.cell (j := 1) rfl
        have x2 := fa.cell (j := 2) rfl
        have y0 := la.cell (j := 0) rfl
        have y1 := la.cell (j := 1) rfl
        have hlol := asc_len hlo
        have SA := Lib.hid sa'; clear sa'
        have RA := Lib.hid ra; clear ra
        have TA := Lib.hid ta; clear ta
        have HRO := Lib.hid hro; clear hro
        have HLO := Lib.hid hlo; clear hlo
        clear hq fa la
        go_wp2_with fail
        go_at_call 22
        refine (HLP.out lo HLO.out _ _ _ RA.out HRO.out).mono ?_
        rintro e wb ⟨hq, b, rfl, hb⟩
        have sb := SA.out.trans (hq.mono SA.out.size)
        have tb := TA.out.below hq (Nat.le_refl _)
        have ob := HRO.out.below hq (Nat.le_refl _)
        have SB := Lib.hid sb; clear sb
        have TB := Lib.hid tb; clear tb
        have OB := Lib.hid ob; clear ob
        clear hq x0 x1 x2 y0 y1
        cases b with
        | false =>
          clear hb
          go_wp2_with fail
          go_at_call 11
          refine (HAW.out _).mono ?_
          rintro e wc ⟨hq, rfl⟩
          have HQ := Lib.hid hq; clear hq
          go_wp2_with fail
          go_ret
          exact ⟨SB.out.trans (HQ.out.mono SB.out.size), rfl⟩
        | true =>
          have hsub2 := HGR.out lo (hb.1 rfl) HLO.out
          have HSUB2 := Lib.hid hsub2; clear hsub2
          clear hb
          go_wp2_with fail
          go_loopw [98] (fun i wr => ∃ a : Nat, a ≤ lo.length ∧ i = .int .i64 a ∧ Below wb.heap.size wb wr) (fun i _ => lo.length - (intOf i).toNat)
          case atStart => exact ⟨0, Nat.zero_le _, rfl, Below.refl _ _⟩
          case round =>
            obtain ⟨a, ha, rfl, hbel⟩ := hrel
            have HBEL2 := Lib.hid hbel; clear hbel
            by_cases hlt : a < lo.length
            · obtain ⟨x, hx⟩ : ∃ x, lo[a]? = some x := ⟨lo[a], List.getElem?_eq_getElem hlt⟩
              have hxin : decide (x ∈ l1) = true := decide_eq_true (HSUB2.out x (List.mem_of_getElem? hx))
              obtain ⟨b', off, rfl, hbw, hce⟩ := OB.out.at_ (by omega)
              have c0 := (HBEL2.out.cell (p := ⟨b', off + a, none⟩) hbw).trans (hce a _ (ci_at hx))
              have hct := contains_any l1 _ x wr (TB.out.below HBEL2.out (Nat.le_refl _)) (by omega)
              rw [hxin] at hct
              have HCT := Lib.hid hct; clear hct
              clear hce hx hxin
              go_wp2_with fail
              go_at_call 23
              refine HCT.out.mono ?_
              rintro e w9 ⟨hq, rfl⟩
              have HQ := Lib.hid hq; clear hq
              go_wp2_with fail
              go_roundw
              case rel => exact ⟨a + 1, by omega, by go_num, HBEL2.out.trans (HQ.out.mono HBEL2.out.size)⟩
              case measure => simp [intOf]; omega
            · obtain rfl : a = lo.length := by omega
              go_wp2_with fail
              go_at_call 11
              refine (HAW.out _).mono ?_
              rintro e wc ⟨hq, rfl⟩
              have HQ := Lib.hid hq; clear hq
              go_wp2_with fail
              go_ret
              have s1 := SB.out.trans (HBEL2.out.mono SB.out.size)
              exact ⟨s1.trans (HQ.out.mono s1.size), rfl⟩
/-- The law. -/
theorem lgrt_all (L S : Int) (es : List E3) (v : Value) (nn mm nb : Nat) (w : World) (hr : Row w v es.length (ce es)) (hok : okEs es) (hnn : nn ≤ 255) (hmm0 : mm ≤ 65535) (hnb : nb ≤ 65535) :
    Calls Try.prog 5 #[.agg #[.int .i64 L, .int .i64 S, v], .int .u8 (nn : Int), .int .u16 (mm : Int), .int .u16 (nb : Int)] w (Ret w (.bool true)) := by
  rcases Classical.em (FineP L S es) with hF | hF
  · obtain ⟨hE, hS, hL⟩ := hF
    have hca := chk_all (eck_zero hE).1
    obtain ⟨l, rfl⟩ : ∃ l : Nat, L = l := ⟨L.toNat, by omega⟩
    obtain ⟨k, rfl⟩ : ∃ k : Nat, S = k := ⟨S.toNat, by omega⟩
    rcases Classical.em (prin es (nn % 9) (1 + (mm : Int)) (uptoZ k) = []) with h1 | h1
    · have h2 : prin es (nn % 9) (1 + (mm : Int) + 1) (uptoZ k) = [] := by
        rcases hp : prin es (nn % 9) (1 + (mm : Int) + 1) (uptoZ k) with _ | ⟨x, r⟩
        · rfl
        · exfalso
          have := prin_anti (es := es) (n := nn % 9) (m := 1 + (mm : Int)) (m' := 1 + (mm : Int) + 1) (by omega) (uptoZ k) x (by rw [hp]; simp)
          rw [h1] at this; cases this
      exact lgrt_11 l k _ _ es v nn mm nb w hr hok hnn hmm0 hnb hE rfl rfl h1 h2
    · rcases Classical.em (prin es (nn % 9) (1 + (mm : Int) + 1) (uptoZ k) = []) with h2 | h2
      · exact lgrt_01 l k _ _ es v nn mm nb w hr hok hnn hmm0 hnb hE rfl rfl h1 h2
      · exact lgrt_00 l k _ _ es v nn mm nb w hr hok hnn hmm0 hnb hE rfl rfl h1 h2
  · exact lgrt_bad L S es v nn mm nb w hr hok hnn hmm0 hnb hF
end Go.Proofs.Ytalipfnbpnkgnaa


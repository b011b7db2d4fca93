/- counting.count: the table's rows, along edges that a function turns. -/
import Derived.Test.YthpgeeaccmgbkaaGreatPart7
namespace Go.Proofs.YthpgeeaccmgbkaaGreat
open Go.RowKit

def CntRet (S : Nat) (l : List Int) (w : World) (e : Ending) (w' : World) : Prop := Below w.heap.size w w' ∧ ∃ b, e = .returned (.slice (some ⟨b, 0, none⟩) S S) ∧ Blk w' b 28 (civ l)
set_option maxRecDepth 100000 in
set_option maxHeartbeats 8000000 in
theorem count_any (L : Int) (S n bl : Nat) (es : List E3) (v : Value) (F : Nat) (sw : E3 → E3) (p : Int → Bool) (w : World) (hr : Row w v es.length (ce es)) (hS : S ≤ 64) (hn : n ≤ 4096) (hl : es.length ≤ 1024) (hin : InS S (es.map sw))
  (hent : ∀ args w, (callFunc F args).run Tryz.prog w = .ok (.enter F args) w)
  (hal : ∀ (e : E3) (w' : World), Calls Tryz.prog F #[.agg #[.int .i64 e.f, .int .i64 e.l, .int .i64 e.t]] w' (Ret w' (.tuple #[.int .i64 (sw e).t, .int .i64 (sw e).f])))
  (hb : Blk w bl 28 (civ (rowK (es.map sw) S p 0))) :
  Calls Tryz.prog 33 #[.agg #[.int .i64 L, .int .i64 (S : Int), v], .slice (some ⟨bl, 0, none⟩) S S, .int .i64 (n : Int), .func (.func F) #[] #[]] w (CntRet S (rowK (es.map sw) S p n) w) := by
 obtain ⟨va, vc, rfl, hle⟩ := hr.slice
 obtain ⟨m, hm⟩ : ∃ m, m = es.length := ⟨_, rfl⟩
 obtain ⟨es', hes⟩ : ∃ es', es' = es.map sw := ⟨_, rfl⟩
 have hes' : ∀ (q : Nat) (e : E3), es[q]? = some e → es'[q]? = some (sw e) := fun q e h => by rw [hes, List.getElem?_map, h]; rfl
 have hel : es'.length = m := by rw [hes, List.length_map, hm]
 rw [← hes] at hin hb ⊢
 rw [← hm] at hr hl hle ⊢
 have bg := Blk.new w 24 [.int .i64 L, .int .i64 (S : Int), .slice va m vc]
 have s0 := (Below.refl w.heap.size w).alloc (Nat.le_refl _) (.cells #[.int .i64 L, .int .i64 (S : Int), .slice va m vc] 24)
 have hb0 := hb.alloc (.cells #[.int .i64 L, .int .i64 (S : Int), .slice va m vc] 24)
 have hmk := mkI S (by omega) (S : Int) rfl
 have HR := Lib.hid hr; clear hr
 have BG := Lib.hid bg; clear bg
 have S0 := Lib.hid s0; clear s0
 have HM := Lib.hid hm; clear hm
 have HEL := Lib.hid hel; clear hel
 have HIN := Lib.hid hin; clear hin
 have HAL := Lib.hid hal; clear hal
 have HES := Lib.hid hes'; clear hes'
 have HB0 := Lib.hid hb0; clear hb0
 clear hes hb
 go_enter Tryz.func33, Tryz.ntmps33
 go_wp2_with fail
 go_loopw [1, 15] (fun u i wr => ∃ k b : Nat, k ≤ n ∧ i = .int .i64 k ∧ u = .slice (some ⟨b, 0, none⟩) S S ∧ Below (w.heap.size + 1) (w.alloc (.cells #[.int .i64 L, .int .i64 (S : Int), .slice va m vc] 24)) wr ∧ Blk wr b 28 (civ (rowK es' S p k))) (fun _ i _ => n - (intOf i).toNat)
 case atStart => exact ⟨0, bl, Nat.zero_le _, rfl, rfl, by have := Below.refl (w.heap.size + 1) (w.alloc (.cells #[.int .i64 L, .int .i64 (S : Int), .slice va m vc] 24)); exact this, HB0.out⟩
 case round =>
  obtain ⟨k, b, hk, rfl, rfl, hbel, hblk⟩ := hrel
  obtain ⟨wq, rfl⟩ : ∃ wq : World, wq = wr := ⟨_, rfl⟩
  have hszq := hbel.size
  have hsq : w.heap.size < wq.heap.size := by simp at hszq; omega
  have hbg := BG.out.below hbel (by omega)
  have hbw0 : Below w.heap.size w wq := S0.out.trans (hbel.mono (by omega))
  have hbb := hblk.lt
  have HB2 := Lib.hid hbel; clear hbel
  have HBG := Lib.hid hbg; clear hbg
  have HBW0 := Lib.hid hbw0; clear hbw0
  have HBK := Lib.hid hblk; clear hblk
  by_cases hlt2 : k < n
  ·
   have g2 := (below_new wq (.cells (zarr (.agg #[.bool false, .string ⟨#[]⟩]) S) 28) hsq 2).trans (HBG.out.cell (j := 2) rfl)
   go_wp2_with fail
   clear g2
   go_loopw [23] (fun i wr => ∃ q : Nat, q ≤ m ∧ i = .int .i64 q ∧ Below wq.heap.size wq wr ∧ Blk wr wq.heap.size 28 (civ (rowP es' S p k q))) (fun i _ => m - (intOf i).toNat)
   case atStart => exact ⟨0, Nat.zero_le _, rfl, (Below.refl _ _).alloc (Nat.le_refl _) _, by rw [rowP_zero]; exact blk_mkI wq S⟩
   case round =>
    obtain ⟨q, hq, rfl, hbel, hblk⟩ := hrel
    have HB3 := Lib.hid hbel; clear hbel
    have hs3 : wq.heap.size < wr.heap.size := hblk.lt
    by_cases hlt3 : q < m
    ·
     have ge0 : es[q]? = some (es[q]'(by rw [← HM.out]; exact hlt3)) := List.getElem?_eq_getElem _
     obtain ⟨e, hedef⟩ : ∃ e, e = es[q]'(by rw [← HM.out]; exact hlt3) := ⟨_, rfl⟩
     rw [← hedef] at ge0
     have ge := HES.out q e ge0
     obtain ⟨hf0, hf1, ht0, ht1⟩ := HIN.out (sw e) (List.mem_of_getElem? ge)
     clear hedef
     obtain ⟨f, hf⟩ : ∃ f : Nat, (sw e).f = f := ⟨(sw e).f.toNat, by omega⟩
     obtain ⟨t, ht⟩ : ∃ t : Nat, (sw e).t = t := ⟨(sw e).t.toNat, by omega⟩
     have hfS : f < S := by omega
     have htS : t < S := by omega
     obtain ⟨b', off, rfl, hbw, hce⟩ := HR.out.at_ (by omega)
     have hb3 : Below w.heap.size w wr := HBW0.out.trans (HB3.out.mono (by omega))
     obtain ⟨q0, q1, q2⟩ := edge_cells hce hb3 hbw ge0
     have hcall := HAL.out e (wr.alloc (.cells #[.int .i64 e.f, .int .i64 e.l, .int .i64 e.t] 53))
     rw [hf, ht] at hcall
     have hbkr := HBK.out.keep HB3.out
     have gx : (rowP es' S p k q)[f]? = some ((rowP es' S p k q)[f]'(by rw [rowP_length]; exact hfS)) := List.getElem?_eq_getElem _
     obtain ⟨X, hX⟩ : ∃ X, X = (rowP es' S p k q)[f]'(by rw [rowP_length]; exact hfS) := ⟨_, rfl⟩
     rw [← hX] at gx
     have gy : (rowK es' S p k)[t]? = some (cw es' p k (t : Int)) := rowK_get htS
     obtain ⟨Y, hY⟩ : ∃ Y, Y = cw es' p k (t : Int) := ⟨_, rfl⟩
     have sY : small Y := by rw [hY]; exact cw_small (by rw [HEL.out]; omega) p k (by omega) _
     have sX : small X := rowP_small (by rw [HEL.out]; omega) S p k q (by omega) gx
     rw [← hY] at gy
     have hsucc := rowP_succ ge hf ht hfS htS gx gy
     clear hX hY ge ge0 hf ht hf0 hf1 ht0 ht1
     have hadd := fun w' => iadd_any (ineg X) (ineg Y) (imag X) (imag Y) w' sX sY
     simp only [ival_canon] at hadd
     obtain ⟨ef, hef⟩ : ∃ x, x = e.f := ⟨_, rfl⟩
     obtain ⟨el, hel⟩ : ∃ x, x = e.l := ⟨_, rfl⟩
     obtain ⟨et, het⟩ : ∃ x, x = e.t := ⟨_, rfl⟩
     rw [← hef] at q0 hcall
     rw [← hel] at q1 hcall
     rw [← het] at q2 hcall
     clear hce hef hel het
     have hx := Blk.new wr 53 [.int .i64 ef, .int .i64 el, .int .i64 et]
     have x0 := hx.cell (j := 0) rfl
     have x1 := hx.cell (j := 1) rfl
     have x2 := hx.cell (j := 2) rfl
     have hnow := hblk.alloc (.cells #[.int .i64 ef, .int .i64 el, .int .i64 et] 53)
     have hbk3 := hbkr.alloc (.cells #[.int .i64 ef, .int .i64 el, .int .i64 et] 53)
     have hbl3 : b < wq.heap.size := hbb
     have HNOW := Lib.hid hnow; clear hnow
     have HBK3 := Lib.hid hbk3; clear hbk3
     have HCALL := Lib.hid hcall; clear hcall
     have HADD := Lib.hid hadd; clear hadd
     have HSU := Lib.hid hsucc; clear hsucc
     have GX := Lib.hid gx; clear gx
     have GY := Lib.hid gy; clear gy
     clear hblk hbkr sX sY hb3 hx
     go_wp2_with fail
     refine HCALL.out.mono ?_
     rintro e' w2 ⟨hq2, rfl⟩
     have hn2 := HNOW.out.keep hq2
     have hb2 := HBK3.out.keep hq2
     have n0 := hn2.cell (civ_get GX.out).1
     have n1 := hn2.cell (civ_get GX.out).2
     have y0 := hb2.cell (civ_get GY.out).1
     have y1 := hb2.cell (civ_get GY.out).2
     have hw2 : wr.heap.size < w2.heap.size := by have := hq2.size; simp at this; omega
     have hix1 : (0 : Int) ≤ (f : Int) := by omega
     have hix2 : (f : Int) < (S : Int) := by omega
     have hix3 : (0 : Int) ≤ (t : Int) := by omega
     have hix4 : (t : Int) < (S : Int) := by omega
     have HN2 := Lib.hid hn2; clear hn2
     have HB2' := Lib.hid hb2; clear hb2
     have HQ2 := Lib.hid hq2; clear hq2
     clear x0 x1 x2 q0 q1 q2
     go_wp2_with fail
     refine wp_region_held_drew (S := fun w' => w'.cell? ⟨b, t * 2, none⟩ = some (.bool (ineg Y)) ∧ w'.cell? ⟨b, t * 2 + 1, none⟩ = some (.string (imag Y))) (by kernel_rfl) ?_ (fun hHeld => ?_)
     ·
      go_keep
     refine zT 0 (h := ?_)
     (try simp only [Act.put, zA, zB, zC])
     refine zT 1 (h := ?_)
     (try simp only [Act.put, zA, zB, zC])
     refine zT 2 (h := ?_)
     (try simp only [Act.put, zA, zB, zC])
     refine zT 3 (h := ?_)
     (try simp only [Act.put, zA, zB, zC])
     refine zT 4 (h := ?_)
     (try simp only [Act.put, zA, zB, zC])
     refine zT 6 (h := ?_)
     (try simp only [Act.put, zA, zB, zC])
     refine zT 7 (h := ?_)
     (try simp only [Act.put, zA, zB, zC])
     refine zT 8 (h := ?_)
     (try simp only [Act.put, zA, zB, zC])
     refine zT 9 (h := ?_)
     (try simp only [Act.put, zA, zB, zC])
     refine zR 5 (h := fun K hK => ?_)
     go_simp
     refine hK.out _ _ ?_ (fun hHeld => ?_)
     ·
      ((try dsimp only); go_keep)
     clear hK K
     (try simp only [Act.put, zA, zB, zC])
     refine zR 10 (h := fun K hK => ?_)
     go_simp
     go_at_call 44
     refine (HADD.out _).mono ?_
     rintro e' w3 ⟨hq3, rfl⟩
     dsimp only
     have z3 := (hq3.cell (p := ⟨b, t * 2, none⟩) (show b < w2.heap.size by omega)).trans hHeld.1
     have z4 := (hq3.cell (p := ⟨b, t * 2 + 1, none⟩) (show b < w2.heap.size by omega)).trans hHeld.2
     refine hK.out _ _ ⟨z3, z4⟩ (fun hHeld2 => ?_)
     clear hK K n0 n1
     have hn3 := HN2.out.drew.keep hq3
     have u0 := hn3.cell (civ_get GX.out).1
     have u1 := hn3.cell (civ_get GX.out).2
     have v0 := hn3.frozen (f * 2)
     have v1 := hn3.frozen (f * 2 + 1)
     have hne1 : ¬ wq.heap.size = b := by omega
     have HN3 := Lib.hid hn3; clear hn3
     have HQ3 := Lib.hid hq3; clear hq3
     (try simp only [Act.put, zA, zB, zC])
     refine zT 11 (h := ?_)
     (try simp only [Act.put, zA, zB, zC])
     refine zR 12 (h := fun K hK => ?_)
     go_simp
     refine hK.out _ _ ?_ (fun hHeld => ?_)
     ·
      ((try dsimp only); go_keep)
     clear hK K
     (try simp only [Act.put, zA, zB, zC])
     refine wpAnyH_done (by kernel_rfl) ?_ _
     go_wp2_with fail
     go_roundw
     case rel =>
      have s1 := HB3.out.alloc (Nat.le_of_lt hs3) (.cells #[.int .i64 ef, .int .i64 el, .int .i64 et] 53)
      have s2 := (s1.trans (HQ2.out.mono s1.size)).drew
      have s3 := s2.trans (HQ3.out.mono s2.size)
      refine ⟨q + 1, by omega, by go_num, (s3.setCell (p := ⟨wq.heap.size, f * 2, none⟩) (Nat.le_refl _) _).setCell (p := ⟨wq.heap.size, f * 2 + 1, none⟩) (Nat.le_refl _) _, ?_⟩
      rw [← HSU.out, ← civ_set]
      exact (HN3.out.set _ _).set _ _
     case measure => simp [intOf]; omega
    ·
     obtain rfl : q = m := by omega
     rw [← HEL.out, rowP_full] at hblk
     have HBN := Lib.hid hblk; clear hblk
     go_wp2_with fail
     go_roundw
     case rel =>
      have s1 := HB2.out.trans (HB3.out.mono (by omega))
      exact ⟨k + 1, wq.heap.size, by omega, by go_num, rfl, s1, HBN.out⟩
     case measure => simp [intOf]; omega
  ·
   obtain rfl : k = n := by omega
   go_wp2_with fail
   go_ret
   exact ⟨HBW0.out, _, rfl, HBK.out⟩
end Go.Proofs.YthpgeeaccmgbkaaGreat

/- grooveref09.Check, whole. -/
import Derived.Deep.QuietTactic
import Derived.Deep.RegionHeld3
import Derived.Test.YthpgeeaccmgbkaaGreatRefCmp
import Derived.Test.YthpgeeaccmgbkaaGreatPart7
import Derived.Test.YthpgeeaccmgbkaaGreatPart9
namespace Go.Proofs.YthpgeeaccmgbkaaGreat
open Go.RowKit

theorem cmpR_cmpE (a b : E3) : 0 ≤ cmpR a b ↔ 0 ≤ cmpE a b := by
 have h1 := cmpE_lt2 a b
 have h2 : cmpR a b < 0 ↔ a.f < b.f ∨ (a.f = b.f ∧ (a.l < b.l ∨ (a.l = b.l ∧ a.t < b.t))) := by
  unfold cmpR
  repeat' split
  all_goals omega
 omega
/-- The edge before the k-th. -/
def prevE (es : List E3) (k : Nat) : Option E3 := if k = 0 then none else es[k - 1]?
theorem chkL_full (L S : Int) (p : Option E3) : chkL L S p [] = 0 := by cases p <;> rfl
theorem chkL_step {L S : Int} {es : List E3} {k : Nat} {e : E3} (he : es[k]? = some e) (hb : ¬ edgeBad L S e) (hp : ∀ p, k ≠ 0 → es[k - 1]? = some p → cmpR p e < 0) :
  chkL L S (prevE es (k + 1)) (es.drop (k + 1)) = chkL L S (prevE es k) (es.drop k) := by
 have hlt := (List.getElem?_eq_some_iff.1 he).1
 have hd : es.drop k = e :: es.drop (k + 1) := by rw [List.drop_eq_getElem_cons hlt, (List.getElem?_eq_some_iff.1 he).2]
 have hn : prevE es (k + 1) = some e := by unfold prevE; rw [if_neg (by omega)]; exact he
 rw [hd, hn]
 unfold prevE
 by_cases h0 : k = 0
 ·
  rw [if_pos h0, chkL, if_neg hb]
 ·
  rw [if_neg h0, List.getElem?_eq_getElem (by omega), chkL, if_neg hb, if_neg]
  intro hc
  have h1 := hp _ h0 (List.getElem?_eq_getElem (by omega))
  have h2 := (cmpR_cmpE _ e).2 hc
  omega
theorem chkL_bad {L S : Int} {es : List E3} {k : Nat} {e : E3} (he : es[k]? = some e) (hb : edgeBad L S e) : chkL L S (prevE es k) (es.drop k) = 2 := by
 have hlt := (List.getElem?_eq_some_iff.1 he).1
 have hd : es.drop k = e :: es.drop (k + 1) := by rw [List.drop_eq_getElem_cons hlt, (List.getElem?_eq_some_iff.1 he).2]
 rw [hd, chk_bad hb]
theorem chkL_order {L S : Int} {es : List E3} {k : Nat} {e p : E3} (he : es[k]? = some e) (hb : ¬ edgeBad L S e) (h0 : k ≠ 0) (hp : es[k - 1]? = some p) (hc : 0 ≤ cmpR p e) : chkL L S (prevE es k) (es.drop k) = 10 := by
 have hlt := (List.getElem?_eq_some_iff.1 he).1
 have hd : es.drop k = e :: es.drop (k + 1) := by rw [List.drop_eq_getElem_cons hlt, (List.getElem?_eq_some_iff.1 he).2]
 rw [hd]
 unfold prevE
 rw [if_neg h0, hp, chkL, if_neg hb, if_pos ((cmpR_cmpE p e).1 hc)]
set_option maxRecDepth 100000 in
set_option maxHeartbeats 3200000 in
theorem rcheck_in (L S : Int) (es : List E3) (v : Value) (w : World) (hrow : Row w v es.length (ce es)) (hL1 : 1 ≤ L) (hL2 : L ≤ 256) (hS1 : 0 ≤ S) (hS2 : S ≤ 64) (hlen : es.length ≤ 1024) (C0 : Int) (hC0 : C0 = chkL L S none es) :
  Calls Tryz.prog 35 #[.agg #[.int .i64 L, .int .i64 S, v]] w (Ret w (.int .i64 C0)) := by
 obtain ⟨va, vc, rfl, -⟩ := hrow.slice
 obtain ⟨n, hn⟩ : ∃ n, n = es.length := ⟨_, rfl⟩
 rw [← hn] at hrow hlen ⊢
 have s0 := (Below.refl w.heap.size w).alloc (Nat.le_refl _) (.cells #[.int .i64 L, .int .i64 S, .slice va n vc] 24)
 have bg := Blk.new w 24 [.int .i64 L, .int .i64 S, .slice va n vc]
 have HROW := Lib.hid (hrow.below s0 (Nat.le_refl _)); clear hrow
 have g0 := bg.cell (j := 0) rfl
 have g1 := bg.cell (j := 1) rfl
 have g2 := bg.cell (j := 2) rfl
 have HN := Lib.hid hn; clear hn
 have HC0 := Lib.hid hC0; clear hC0
 have BG := Lib.hid bg; clear bg
 have S0 := Lib.hid s0; clear s0
 go_enter Tryz.func35, Tryz.ntmps35
 go_wp2_with fail
 obtain ⟨W, hW⟩ : ∃ W, W = w.alloc (.cells #[.int .i64 L, .int .i64 S, .slice va n vc] 24) := ⟨_, rfl⟩
 rw [← hW] at HROW BG S0
 have HW := Lib.hid hW; clear hW
 have hWs : w.heap.size < W.heap.size := by rw [HW.out]; simp
 clear g0 g1 g2
 go_loopw [3] (fun i wr => ∃ k : Nat, k ≤ n ∧ i = .int .i64 k ∧ C0 = chkL L S (prevE es k) (es.drop k) ∧ Below W.heap.size W wr) (fun i _ => n - (intOf i).toNat)
 case atStart => exact ⟨0, Nat.zero_le _, rfl, HC0.out, by rw [HW.out]; exact Below.refl _ _⟩
 case round =>
  obtain ⟨k, hk, rfl, hck, hbel⟩ := hrel
  have HCK := Lib.hid hck; clear hck
  have bg := BG.out.keep hbel
  have c0 := bg.cell (j := 0) rfl
  have c1 := bg.cell (j := 1) rfl
  have c2 := bg.cell (j := 2) rfl
  have HBG := Lib.hid bg; clear bg
  have hsz := hbel.size
  have HB := Lib.hid hbel; clear hbel
  by_cases hlt : k < n
  ·
   have ge : es[k]? = some (es[k]'(by rw [← HN.out]; exact hlt)) := List.getElem?_eq_getElem _
   obtain ⟨e, hedef⟩ : ∃ e, e = es[k]'(by rw [← HN.out]; exact hlt) := ⟨_, rfl⟩
   rw [← hedef] at ge
   clear hedef
   obtain ⟨b, off, rfl, hbw, hce⟩ := HROW.out.at_ (by omega)
   obtain ⟨q0, q1, q2⟩ := edge_cells hce HB.out hbw ge
   have HCE := Lib.hid hce; clear hce
   have hnb := Blk.new wr 53 [.int .i64 e.f, .int .i64 e.l, .int .i64 e.t]
   have HNB := Lib.hid hnb; clear hnb
   have hsz1 : w.heap.size < wr.heap.size := by omega
   have hbw2 : b < wr.heap.size := by omega
   by_cases hbad : edgeBad L S e
   ·
    have hC2 : C0 = 2 := by rw [HCK.out]; exact chkL_bad ge hbad
    have hbw' := S0.out.trans (HB.out.mono S0.out.size)
    have hres := hbw'.alloc hbw'.size (.cells #[.int .i64 e.f, .int .i64 e.l, .int .i64 e.t] 53)
    unfold edgeBad at hbad
    have HC2 := Lib.hid hC2; clear hC2
    have HRES := Lib.hid hres; clear hres
    clear hbw' ge
    go_wp2_with fail
    all_goals first
     | (go_ret; exact ⟨HRES.out, by rw [HC2.out]; rfl⟩)
     | (exfalso; omega)
   have hnbad : ¬ edgeBad L S e := hbad
   obtain ⟨r1, r2, r3, r4, r5, r6⟩ : 0 ≤ e.f ∧ e.f < S ∧ 0 ≤ e.t ∧ e.t < S ∧ 0 ≤ e.l ∧ e.l < L := by unfold edgeBad at hbad; omega
   clear hbad
   by_cases hk0 : k = 0
   ·
    subst hk0
    have hgd : decide ((0 : Int) < 0) = false := rfl
    have hnx : C0 = chkL L S (prevE es 1) (es.drop 1) := by rw [HCK.out]; exact (chkL_step (k := 0) ge hnbad (fun p h => absurd rfl h)).symm
    have HNX := Lib.hid hnx; clear hnx
    simp only [Nat.zero_mul, Nat.add_zero] at q0 q1 q2
    go_wp2_with fail
    go_quiet (fail)
    go_wp2_with fail
    go_roundw
    case rel => exact ⟨1, by omega, rfl, HNX.out, below_drewN (HB.out.alloc hsz _) _⟩
    case measure => simp [intOf]; omega
   ·
    have hk1 : k - 1 < es.length := by rw [← HN.out]; omega
    have gp : es[k - 1]? = some (es[k - 1]'hk1) := List.getElem?_eq_getElem _
    obtain ⟨p, hp⟩ : ∃ p, p = es[k - 1]'hk1 := ⟨_, rfl⟩
    rw [← hp] at gp
    clear hp hk1
    obtain ⟨p0, p1, p2⟩ := edge_cells HCE.out HB.out hbw gp
    obtain ⟨C, hC⟩ : ∃ C, C = cmpR p e := ⟨_, rfl⟩
    have hnx : C < 0 → C0 = chkL L S (prevE es (k + 1)) (es.drop (k + 1)) := fun h => by
     rw [HCK.out]; exact (chkL_step ge hnbad (fun p' _ hp' => by rw [gp] at hp'; obtain rfl := Option.some.inj hp'; rw [← hC]; exact h)).symm
    have hno : 0 ≤ C → C0 = 10 := fun h => by
     rw [HCK.out]; exact chkL_order ge hnbad hk0 gp (by rw [← hC]; exact h)
    have HNX := Lib.hid hnx; clear hnx
    have HNO := Lib.hid hno; clear hno
    have hcc : ∀ w', Calls Tryz.prog 70 #[.agg #[.int .i64 p.f, .int .i64 p.l, .int .i64 p.t], .agg #[.int .i64 e.f, .int .i64 e.l, .int .i64 e.t]] w' (Ret w' (.int .i64 C)) := fun w' => by rw [hC]; exact rcmpE_any p e w'
    have HCC := Lib.hid hcc; clear hcc hC ge gp
    by_cases hcc0 : C < 0
    ·
     have hd0 : decide (0 ≤ C) = false := by simp; omega
     have hnext := HNX.out hcc0
     have HNEXT := Lib.hid hnext; clear hnext
     have hkd : decide ((0 : Int) < k) = true := by simp; omega
     have hkn : 0 < k := by omega
     have a0 := (below_new wr (.cells #[.int .i64 e.f, .int .i64 e.l, .int .i64 e.t] 53) hsz1 2).trans c2
     have a2 := (below_new wr (.cells #[.int .i64 e.f, .int .i64 e.l, .int .i64 e.t] 53) hbw2 (off + (k - 1) * 3)).trans p0
     have a3 := (below_new wr (.cells #[.int .i64 e.f, .int .i64 e.l, .int .i64 e.t] 53) hbw2 (off + (k - 1) * 3 + 1)).trans p1
     have a4 := (below_new wr (.cells #[.int .i64 e.f, .int .i64 e.l, .int .i64 e.t] 53) hbw2 (off + (k - 1) * 3 + 2)).trans p2
     have a5 := HNB.out.cell (j := 0) rfl
     have a6 := HNB.out.cell (j := 1) rfl
     have a7 := HNB.out.cell (j := 2) rfl
     have A0 := Lib.hid a0; clear a0
     have A2 := Lib.hid a2; clear a2
     have A3 := Lib.hid a3; clear a3
     have A4 := Lib.hid a4; clear a4
     have A5 := Lib.hid a5; clear a5
     have A6 := Lib.hid a6; clear a6
     have A7 := Lib.hid a7; clear a7
     go_wp2_with fail
     have hw2 : (0 : Int) ≤ (k : Int) - 1 := by omega
     have hw2' : (1 : Int) ≤ (k : Int) := by omega
     have hw4 : (k : Int) - 1 < n := by omega
     have hw1 : IntKind.i64.wrap ((k : Int) - 1) = (k : Int) - 1 := IntWalk.i64_in _ (by omega)
     have hw3 : ((k : Int) - 1).toNat = k - 1 := by omega
     go_region_held3 (fun w' => w'.cell? ⟨w.heap.size, 2, none⟩ = some (.slice (some ⟨b, off, none⟩) n vc) ∧ w'.cell? ⟨b, off + (k - 1) * 3, none⟩ = some (.int .i64 p.f) ∧ w'.cell? ⟨b, off + (k - 1) * 3 + 1, none⟩ = some (.int .i64 p.l) ∧ w'.cell? ⟨b, off + (k - 1) * 3 + 2, none⟩ = some (.int .i64 p.t) ∧ w'.cell? ⟨wr.heap.size, 0, none⟩ = some (.int .i64 e.f) ∧ w'.cell? ⟨wr.heap.size, 1, none⟩ = some (.int .i64 e.l) ∧ w'.cell? ⟨wr.heap.size, 2, none⟩ = some (.int .i64 e.t)) (go_keep) (first | (go_at_call 70; refine (HCC.out _).mono ?_; rintro e w1 ⟨hq, rfl⟩; have z0 := (hq.cell (p := ⟨w.heap.size, 2, none⟩) (by simp only [World.size_drew, World.size_alloc]; omega)).trans (A0.out); have z2 := (hq.cell (p := ⟨b, off + (k - 1) * 3, none⟩) (by simp only [World.size_drew, World.size_alloc]; omega)).trans (A2.out); have z3 := (hq.cell (p := ⟨b, off + (k - 1) * 3 + 1, none⟩) (by simp only [World.size_drew, World.size_alloc]; omega)).trans (A3.out); have z4 := (hq.cell (p := ⟨b, off + (k - 1) * 3 + 2, none⟩) (by simp only [World.size_drew, World.size_alloc]; omega)).trans (A4.out); have z5 := (hq.cell (p := ⟨wr.heap.size, 0, none⟩) (by simp only [World.size_drew, World.size_alloc]; omega)).trans (A5.out); have z6 := (hq.cell (p := ⟨wr.heap.size, 1, none⟩) (by simp only [World.size_drew, World.size_alloc]; omega)).trans (A6.out); have z7 := (hq.cell (p := ⟨wr.heap.size, 2, none⟩) (by simp only [World.size_drew, World.size_alloc]; omega)).trans (A7.out); have HQ := Lib.hid hq; clear hq))
     clear hw1 hw3
     go_wp2_with fail
     go_roundw
     case rel =>
      have h5 := (HB.out.alloc hsz (.cells #[.int .i64 e.f, .int .i64 e.l, .int .i64 e.t] 53)).drew
      exact ⟨k + 1, by omega, by go_num, HNEXT.out, h5.trans (HQ.out.mono h5.size)⟩
     case measure => simp [intOf]; omega
    ·
     have hd0 : decide (0 ≤ C) = true := by simp; omega
     have hten := HNO.out (by omega)
     have h5 := (HB.out.alloc hsz (.cells #[.int .i64 e.f, .int .i64 e.l, .int .i64 e.t] 53)).drew
     have HTEN := Lib.hid hten; clear hten
     have H5 := Lib.hid h5; clear h5
     have hkd : decide ((0 : Int) < k) = true := by simp; omega
     have hkn : 0 < k := by omega
     have a0 := (below_new wr (.cells #[.int .i64 e.f, .int .i64 e.l, .int .i64 e.t] 53) hsz1 2).trans c2
     have a2 := (below_new wr (.cells #[.int .i64 e.f, .int .i64 e.l, .int .i64 e.t] 53) hbw2 (off + (k - 1) * 3)).trans p0
     have a3 := (below_new wr (.cells #[.int .i64 e.f, .int .i64 e.l, .int .i64 e.t] 53) hbw2 (off + (k - 1) * 3 + 1)).trans p1
     have a4 := (below_new wr (.cells #[.int .i64 e.f, .int .i64 e.l, .int .i64 e.t] 53) hbw2 (off + (k - 1) * 3 + 2)).trans p2
     have a5 := HNB.out.cell (j := 0) rfl
     have a6 := HNB.out.cell (j := 1) rfl
     have a7 := HNB.out.cell (j := 2) rfl
     have A0 := Lib.hid a0; clear a0
     have A2 := Lib.hid a2; clear a2
     have A3 := Lib.hid a3; clear a3
     have A4 := Lib.hid a4; clear a4
     have A5 := Lib.hid a5; clear a5
     have A6 := Lib.hid a6; clear a6
     have A7 := Lib.hid a7; clear a7
     go_wp2_with fail
     have hw2 : (0 : Int) ≤ (k : Int) - 1 := by omega
     have hw2' : (1 : Int) ≤ (k : Int) := by omega
     have hw4 : (k : Int) - 1 < n := by omega
     have hw1 : IntKind.i64.wrap ((k : Int) - 1) = (k : Int) - 1 := IntWalk.i64_in _ (by omega)
     have hw3 : ((k : Int) - 1).toNat = k - 1 := by omega
     go_region_held3 (fun w' => w'.cell? ⟨w.heap.size, 2, none⟩ = some (.slice (some ⟨b, off, none⟩) n vc) ∧ w'.cell? ⟨b, off + (k - 1) * 3, none⟩ = some (.int .i64 p.f) ∧ w'.cell? ⟨b, off + (k - 1) * 3 + 1, none⟩ = some (.int .i64 p.l) ∧ w'.cell? ⟨b, off + (k - 1) * 3 + 2, none⟩ = some (.int .i64 p.t) ∧ w'.cell? ⟨wr.heap.size, 0, none⟩ = some (.int .i64 e.f) ∧ w'.cell? ⟨wr.heap.size, 1, none⟩ = some (.int .i64 e.l) ∧ w'.cell? ⟨wr.heap.size, 2, none⟩ = some (.int .i64 e.t)) (go_keep) (first | (go_at_call 70; refine (HCC.out _).mono ?_; rintro e w1 ⟨hq, rfl⟩; have z0 := (hq.cell (p := ⟨w.heap.size, 2, none⟩) (by simp only [World.size_drew, World.size_alloc]; omega)).trans (A0.out); have z2 := (hq.cell (p := ⟨b, off + (k - 1) * 3, none⟩) (by simp only [World.size_drew, World.size_alloc]; omega)).trans (A2.out); have z3 := (hq.cell (p := ⟨b, off + (k - 1) * 3 + 1, none⟩) (by simp only [World.size_drew, World.size_alloc]; omega)).trans (A3.out); have z4 := (hq.cell (p := ⟨b, off + (k - 1) * 3 + 2, none⟩) (by simp only [World.size_drew, World.size_alloc]; omega)).trans (A4.out); have z5 := (hq.cell (p := ⟨wr.heap.size, 0, none⟩) (by simp only [World.size_drew, World.size_alloc]; omega)).trans (A5.out); have z6 := (hq.cell (p := ⟨wr.heap.size, 1, none⟩) (by simp only [World.size_drew, World.size_alloc]; omega)).trans (A6.out); have z7 := (hq.cell (p := ⟨wr.heap.size, 2, none⟩) (by simp only [World.size_drew, World.size_alloc]; omega)).trans (A7.out); have HQ := Lib.hid hq; clear hq))
     clear hw1 hw3
     go_wp2_with fail
     go_ret
     have h6 := H5.out.trans (HQ.out.mono H5.out.size)
     exact ⟨S0.out.trans (h6.mono S0.out.size), by rw [HTEN.out]; rfl⟩
  ·
   have hz : C0 = 0 := by
    rw [HCK.out, List.drop_of_length_le (by rw [← HN.out]; omega), chkL_full]
   have HZ := Lib.hid hz; clear hz
   go_wp2_with fail
   go_ret
   exact ⟨S0.out.trans (HB.out.mono S0.out.size), by rw [HZ.out]; rfl⟩
set_option maxRecDepth 100000 in
set_option maxHeartbeats 3200000 in
theorem rcheck_any (L S : Int) (es : List E3) (v : Value) (w : World) (hrow : Row w v es.length (ce es)) :
  Calls Tryz.prog 35 #[.agg #[.int .i64 L, .int .i64 S, v]] w (Ret w (.int .i64 (chk L S es))) := by
 by_cases hL : L < 1 ∨ 256 < L
 ·
  have hC : chk L S es = 12 := by rw [chk, if_pos hL]
  rw [hC]
  have s0 := (Below.refl w.heap.size w).alloc (Nat.le_refl _) (.cells #[.int .i64 L, .int .i64 S, v] 24)
  obtain ⟨va, vc, rfl, -⟩ := hrow.slice
  have S0 := Lib.hid s0; clear s0
  clear hC hrow
  rcases hL with hL | hL
  ·
   have t1 : decide (L < 1) = true := by simpa using hL
   go_enter Tryz.func35, Tryz.ntmps35
   go_wp2_with fail
   go_ret
   exact ⟨S0.out, rfl⟩
  ·
   have t1 : decide (L < 1) = false := by simp; omega
   have t2 : decide (256 < L) = true := by simpa using hL
   go_enter Tryz.func35, Tryz.ntmps35
   go_wp2_with fail
   go_ret
   exact ⟨S0.out, rfl⟩
 ·
  have t1 : decide (L < 1) = false := by simp; omega
  have t2 : decide (256 < L) = false := by simp; omega
  by_cases hS : S < 0
  ·
   have hC : chk L S es = 2 := by rw [chk, if_neg hL, if_pos hS]
   rw [hC]
   have s0 := (Below.refl w.heap.size w).alloc (Nat.le_refl _) (.cells #[.int .i64 L, .int .i64 S, v] 24)
   obtain ⟨va, vc, rfl, -⟩ := hrow.slice
   have S0 := Lib.hid s0; clear s0
   clear hC hrow hL
   go_enter Tryz.func35, Tryz.ntmps35
   go_wp2_with fail
   go_ret
   exact ⟨S0.out, rfl⟩
  ·
   by_cases hB : 64 < S ∨ 1024 < es.length
   ·
    have hC : chk L S es = 4 := by rw [chk, if_neg hL, if_neg hS, if_pos hB]
    rw [hC]
    have s0 := (Below.refl w.heap.size w).alloc (Nat.le_refl _) (.cells #[.int .i64 L, .int .i64 S, v] 24)
    obtain ⟨va, vc, rfl, hle⟩ := hrow.slice
    obtain ⟨m, hm⟩ : ∃ m, m = es.length := ⟨_, rfl⟩
    rw [← hm] at hB hle s0 ⊢
    have S0 := Lib.hid s0; clear s0
    clear hC hrow hL hm
    rcases hB with hB | hB
    ·
     have t3 : decide (64 < S) = true := by simpa using hB
     go_enter Tryz.func35, Tryz.ntmps35
     go_wp2_with fail
     go_ret
     exact ⟨S0.out, rfl⟩
    ·
     by_cases hB2 : 64 < S
     ·
      have t3 : decide (64 < S) = true := by simpa using hB2
      go_enter Tryz.func35, Tryz.ntmps35
      go_wp2_with fail
      go_ret
      exact ⟨S0.out, rfl⟩
     ·
      have t3 : decide (64 < S) = false := by simp; omega
      have t4 : decide (1024 < (m : Int)) = true := by simp; omega
      go_enter Tryz.func35, Tryz.ntmps35
      go_wp2_with fail
      go_ret
      exact ⟨S0.out, rfl⟩
   ·
    exact rcheck_in L S es v w hrow (by omega) (by omega) (by omega) (by omega) (by omega) _ (by rw [chk, if_neg hL, if_neg hS, if_neg hB])
end Go.Proofs.YthpgeeaccmgbkaaGreat

/- grooveref09.Check at a valid graph. -/
import Derived.Test.YtadibbbaegbljaaRefCmp
import Derived.Deep.QuietTactic
import Derived.Deep.RegionHeld3
namespace Go.Proofs.Ytadibbbaegbljaa
open Go.RowKit

set_option maxRecDepth 100000 in
set_option maxHeartbeats 3200000 in
theorem rcheck_ok (L S : Int) (es : List E3) (v : Value) (w : World) (hrow : Row w v es.length (ce es)) (hL1 : 1 ≤ L) (hL2 : L ≤ 256) (hS1 : 0 ≤ S) (hS2 : S ≤ 64) (hlen : es.length ≤ 1024)
    (hr : ∀ e ∈ es, 0 ≤ e.f ∧ e.f < S ∧ 0 ≤ e.t ∧ e.t < S ∧ 0 ≤ e.l ∧ e.l < L) (hs : ∀ (k : Nat) (p e : E3), es[k]? = some p → es[k + 1]? = some e → cmpR p e < 0) :
    Calls Try.prog 94 #[.agg #[.int .i64 L, .int .i64 S, v]] w (Ret w (.int .i64 0)) := by
  obtain ⟨va, vc, rfl, -⟩ := hrow.slice
  obtain ⟨n, hn⟩ : ∃ n, n = es.length := ⟨_, rfl⟩
  rw [← hn] at hrow hlen ⊢
  have s0 := (Below.refl w.heap.size w).alloc (Nat.le_refl _) (.cells #[.int .i64 L, .int .i64 S, .slice va n vc] 46)
  have bg := Blk.new w 46 [.int .i64 L, .int .i64 S, .slice va n vc]
  have HROW := Lib.hid (hrow.below s0 (Nat.le_refl _)); clear hrow
  have g0 := bg.cell (j := 0) rfl
  have g1 := bg.cell (j := 1) rfl
  have g2 := bg.cell (j := 2) rfl
  have HN := Lib.hid hn; clear hn
  have HR := Lib.hid hr; clear hr
  have HS := Lib.hid hs; clear hs
  have BG := Lib.hid bg; clear bg
  have S0 := Lib.hid s0; clear s0
  go_enter Try.func94, Try.ntmps94
  go_wp2_with fail
  obtain ⟨W, hW⟩ : ∃ W, W = w.alloc (.cells #[.int .i64 L, .int .i64 S, .slice va n vc] 46) := ⟨_, rfl⟩
  rw [← hW] at HROW BG S0
  have HW := Lib.hid hW; clear hW
  have hWs : w.heap.size < W.heap.size := by rw [HW.out]; simp
  clear g0 g1 g2
  go_loopw [3] (fun i wr => ∃ k : Nat, k ≤ n ∧ i = .int .i64 k ∧ Below W.heap.size W wr) (fun i _ => n - (intOf i).toNat)
  case atStart => exact ⟨0, Nat.zero_le _, rfl, by rw [HW.out]; exact Below.refl _ _⟩
  case round =>
    obtain ⟨k, hk, rfl, hbel⟩ := hrel
    have bg := BG.out.keep hbel
    have c0 := bg.cell (j := 0) rfl
    have c1 := bg.cell (j := 1) rfl
    have c2 := bg.cell (j := 2) rfl
    have HBG := Lib.hid bg; clear bg
    have hsz := hbel.size
    have HB := Lib.hid hbel; clear hbel
    by_cases hlt : k < n
    · have ge : es[k]? = some (es[k]'(by rw [← HN.out]; exact hlt)) := List.getElem?_eq_getElem _
      obtain ⟨e, hedef⟩ : ∃ e, e = es[k]'(by rw [← HN.out]; exact hlt) := ⟨_, rfl⟩
      rw [← hedef] at ge
      obtain ⟨r1, r2, r3, r4, r5, r6⟩ := HR.out e (by rw [hedef]; exact List.getElem_mem _)
      clear hedef
      obtain ⟨b, off, rfl, hbw, hce⟩ := HROW.out.at_ (by omega)
      obtain ⟨q0, q1, q2⟩ := edge_cells hce HB.out hbw ge
      have HCE := Lib.hid hce; clear hce
      have hnb := Blk.new wr 60 [.int .i64 e.f, .int .i64 e.l, .int .i64 e.t]
      have HNB := Lib.hid hnb; clear hnb
      have hsz1 : w.heap.size < wr.heap.size := by omega
      have hbw2 : b < wr.heap.size := by omega
      by_cases hk0 : k = 0
      · subst hk0
        have hgd : decide ((0 : Int) < 0) = false := rfl
        simp only [Nat.zero_mul, Nat.add_zero] at q0 q1 q2
        go_wp2_with fail
        go_quiet (fail)
        go_wp2_with fail
        go_roundw
        case rel => exact ⟨1, by omega, rfl, below_drewN (HB.out.alloc hsz _) _⟩
        case measure => simp [intOf]; omega
      · have hk1 : k - 1 < es.length := by rw [← HN.out]; omega
        have gp : es[k - 1]? = some (es[k - 1]'hk1) := List.getElem?_eq_getElem _
        obtain ⟨p, hp⟩ : ∃ p, p = es[k - 1]'hk1 := ⟨_, rfl⟩
        rw [← hp] at gp
        clear hp hk1
        obtain ⟨p0, p1, p2⟩ := edge_cells HCE.out HB.out hbw gp
        have hlt0 := HS.out (k - 1) p e gp (by rw [show k - 1 + 1 = k by omega]; exact ge)
        obtain ⟨C, hC⟩ : ∃ C, C = cmpR p e := ⟨_, rfl⟩
        rw [← hC] at hlt0
        have hcc : ∀ w', Calls Try.prog 101 #[.agg #[.int .i64 p.f, .int .i64 p.l, .int .i64 p.t], .agg #[.int .i64 e.f, .int .i64 e.l, .int .i64 e.t]] w' (Ret w' (.int .i64 C)) := fun w' => by rw [hC]; exact rcmp_any p e w'
        have HCC := Lib.hid hcc; clear hcc hC ge gp
        have hd0 : decide (0 ≤ C) = false := by simp; omega
        have hkd : decide ((0 : Int) < k) = true := by simp; omega
        have hkn : 0 < k := by omega
        have a0 := (below_new wr (.cells #[.int .i64 e.f, .int .i64 e.l, .int .i64 e.t] 60) hsz1 2).trans c2
        have a2 := (below_new wr (.cells #[.int .i64 e.f, .int .i64 e.l, .int .i64 e.t] 60) hbw2 (off + (k - 1) * 3)).trans p0
        have a3 := (below_new wr (.cells #[.int .i64 e.f, .int .i64 e.l, .int .i64 e.t] 60) hbw2 (off + (k - 1) * 3 + 1)).trans p1
        have a4 := (below_new wr (.cells #[.int .i64 e.f, .int .i64 e.l, .int .i64 e.t] 60) hbw2 (off + (k - 1) * 3 + 2)).trans p2
        have a5 := HNB.out.cell (j := 0) rfl
        have a6 := HNB.out.cell (j := 1) rfl
        have a7 := HNB.out.cell (j := 2) rfl
        have A0 := Lib.hid a0; clear a0
        have A2 := Lib.hid a2; clear a2
        have A3 := Lib.hid a3; clear a3
        have A4 := Lib.hid a4; clear a4
        have A5 := Lib.hid a5; clear a5
        have A6 := Lib.hid a6; clear a6
        have A7 := Lib.hid a7; clear a7
        go_wp2_with fail
        have hw2 : (0 : Int) ≤ (k : Int) - 1 := by omega
        have hw2' : (1 : Int) ≤ (k : Int) := by omega
        have hw4 : (k : Int) - 1 < n := by omega
        have hw1 : IntKind.i64.wrap ((k : Int) - 1) = (k : Int) - 1 := IntWalk.i64_in _ (by omega)
        have hw3 : ((k : Int) - 1).toNat = k - 1 := by omega
        go_region_held3 (fun w' => w'.cell? ⟨w.heap.size, 2, none⟩ = some (.slice (some ⟨b, off, none⟩) n vc) ∧ w'.cell? ⟨b, off + (k - 1) * 3, none⟩ = some (.int .i64 p.f) ∧ w'.cell? ⟨b, off + (k - 1) * 3 + 1, none⟩ = some (.int .i64 p.l) ∧ w'.cell? ⟨b, off + (k - 1) * 3 + 2, none⟩ = some (.int .i64 p.t) ∧ w'.cell? ⟨wr.heap.size, 0, none⟩ = some (.int .i64 e.f) ∧ w'.cell? ⟨wr.heap.size, 1, none⟩ = some (.int .i64 e.l) ∧ w'.cell? ⟨wr.heap.size, 2, none⟩ = some (.int .i64 e.t)) (go_keep) (first | (go_at_call 101; refine (HCC.out _).mono ?_; rintro e w1 ⟨hq, rfl⟩; have z0 := (hq.cell (p := ⟨w.heap.size, 2, none⟩) (by simp only [World.size_drew, World.size_alloc]; omega)).trans (A0.out); have z2 := (hq.cell (p := ⟨b, off + (k - 1) * 3, none⟩) (by simp only [World.size_drew, World.size_alloc]; omega)).trans (A2.out); have z3 := (hq.cell (p := ⟨b, off + (k - 1) * 3 + 1, none⟩) (by simp only [World.size_drew, World.size_alloc]; omega)).trans (A3.out); have z4 := (hq.cell (p := ⟨b, off + (k - 1) * 3 + 2, none⟩) (by simp only [World.size_drew, World.size_alloc]; omega)).trans (A4.out); have z5 := (hq.cell (p := ⟨wr.heap.size, 0, none⟩) (by simp only [World.size_drew, World.size_alloc]; omega)).trans (A5.out); have z6 := (hq.cell (p := ⟨wr.heap.size, 1, none⟩) (by simp only [World.size_drew, World.size_alloc]; omega)).trans (A6.out); have z7 := (hq.cell (p := ⟨wr.heap.size, 2, none⟩) (by simp only [World.size_drew, World.size_alloc]; omega)).trans (A7.out); have HQ := Lib.hid hq; clear hq))
        clear hw1 hw3
        go_wp2_with fail
        go_roundw
        case rel =>
          have h5 := (HB.out.alloc hsz (.cells #[.int .i64 e.f, .int .i64 e.l, .int .i64 e.t] 60)).drew
          exact ⟨k + 1, by omega, by go_num, h5.trans (HQ.out.mono h5.size)⟩
        case measure => simp [intOf]; omega
    · go_wp2_with fail
      go_ret
      exact ⟨S0.out.trans (HB.out.mono S0.out.size), rfl⟩
end Go.Proofs.Ytadibbbaegbljaa

/- matrix.square, Characteristic. -/
import Derived.Test.YthpgeeaccmgbkaaChar
namespace Go.Proofs.Ythpgeeaccmgbkaa
open Go.RowKit

set_option maxRecDepth 100000 in
set_option maxHeartbeats 3200000 in
theorem square_any (n p : Nat) (A : List (List Int)) (v : Value) (w : World) (hA : Tab w v A) (okA : MatOk A n n p) (hn0 : 0 < n) (hn : n ≤ 32) (hp : p ≤ 1000000) :
    Calls Try.prog 52 #[v] w (Ret w (.int .i64 0)) := by
  obtain ⟨ba, oa, ca, a', c', rfl, hba, hca⟩ := tab_first hA okA hn0
  have hAl := okA.len
  rw [hAl] at hA ⊢
  have bs := Blk.new w 46 [.slice (some ⟨ba, oa, none⟩) n ca]
  have s0 := (Below.refl w.heap.size w).alloc (Nat.le_refl _) (.cells #[.slice (some ⟨ba, oa, none⟩) n ca] 46)
  obtain ⟨w1, hw1⟩ : ∃ w1, w.alloc (.cells #[.slice (some ⟨ba, oa, none⟩) n ca] 46) = w1 := ⟨_, rfl⟩
  rw [hw1] at bs s0
  have hA1 := hA.below s0 (Nat.le_refl _)
  have hbad := bad_any [(some ⟨ba, oa, none⟩, n, ca)] (.slice (some ⟨w.heap.size, 0, none⟩) 1 1) w1
    (Row.ofBlk bs (m := 1) (cap := 1) (Nat.le_refl _) (by decide) 1)
    (fun x hx => by
      simp only [List.mem_cons, List.not_mem_nil, or_false] at hx
      subst hx
      exact ⟨n, n, p, A, hA1, okA, hn0, hn, hn0, hn, by omega⟩)
  have t0 : ((n : Int) == (n : Int)) = true := by simp
  have hn1 : (0 : Int) < (n : Int) := by omega
  have g0 := (s0.cell (p := ⟨ba, oa, none⟩) hba).trans hca
  have hs1 := s0.size
  have hba1 : ba < w1.heap.size := by omega
  have HBAD := Lib.hid hbad; clear hbad
  have S0 := Lib.hid s0; clear s0
  clear bs hA hA1 hca hAl okA
  go_enter Try.func52, Try.ntmps52
  go_wp2_with fail
  go_at_call 71
  refine HBAD.out.mono ?_
  rintro e w2 ⟨hq, rfl⟩
  have s2 := S0.out.trans (hq.mono S0.out.size)
  have g1 := (hq.cell (p := ⟨ba, oa, none⟩) hba1).trans g0
  have S2 := Lib.hid s2; clear s2
  clear hq g0
  go_wp2_with fail
  go_ret
  exact ⟨S2.out, rfl⟩
def ChRet1 (n : Nat) (c : Nat → Int) (w : World) (e : Ending) (w' : World) : Prop :=
  Below w.heap.size w w' ∧ ∃ pb, e = .returned (.tuple #[.slice (some ⟨pb, 0, none⟩) (n + 1) (n + 1), .int .i64 0]) ∧ Blk w' pb 28 (civ (pL c n (n + 1))) ∧ w.heap.size ≤ pb
set_option maxRecDepth 100000 in
set_option maxHeartbeats 3200000 in
theorem Char_any (n P : Nat) (A : List (List Int)) (v : Value) (c r : Nat → Int) (w : World) (hT : Tab w v A) (okA : MatOk A n n P) (hn0 : 0 < n) (hn : n ≤ 32) (hP : P ≤ 40000) (hP1 : 1 ≤ P)
    (hch : ∀ j, j < n → MatOk (chM A n c j) n n P) (hc : ∀ j, j ≤ n → sm P (c j))
    (hdiv : ∀ j, j < n → ∀ w', Calls Try.prog 33 #[IntV (-(trM (nxM A n c j) n)), IntV ((j : Int) + 1)] w' (Ret w' (.tuple #[IntV (c (j + 1)), IntV (r j), .int .i64 0]))) :
    Calls Try.prog 43 #[v] w (ChRet1 n c w) := by
  have hsq := square_any n P A v w hT okA hn0 hn (by omega)
  have hcc := fun w' h => char_any n P A v c r w' h okA hn0 hn hP hP1 hch hc hdiv
  obtain ⟨rvs, h1, h2, -⟩ := id hT
  obtain ⟨aa, ca, rfl, hla⟩ := h2.slice
  clear h1 h2 hdiv
  have HSQ := Lib.hid hsq; clear hsq
  have HCC := Lib.hid hcc; clear hcc
  have HT := Lib.hid hT; clear hT
  go_enter Try.func43, Try.ntmps43
  go_wp2_with fail
  go_at_call 52
  refine HSQ.out.mono ?_
  rintro e w1 ⟨hq, rfl⟩
  have hT1 := HT.out.below hq (Nat.le_refl _)
  have S1 := Lib.hid hq; clear hq
  have HT1 := Lib.hid hT1; clear hT1
  go_wp2_with fail
  go_at_call 67
  refine (HCC.out _ HT1.out).mono ?_
  rintro e w2 ⟨hq, pb, bm, rfl, hb, hle⟩
  have s2 := S1.out.trans (hq.mono S1.out.size)
  have hle2 : w.heap.size ≤ pb := Nat.le_trans S1.out.size hle
  have S2 := Lib.hid s2; clear s2
  have HB := Lib.hid hb; clear hb
  clear hq
  go_wp2_with fail
  go_ret2
  exact ⟨S2.out, pb, rfl, HB.out, hle2⟩
end Go.Proofs.Ythpgeeaccmgbkaa

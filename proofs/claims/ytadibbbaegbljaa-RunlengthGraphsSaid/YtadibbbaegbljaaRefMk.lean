/- grooveref09.Make and grooveref17.build at edges that a table tells. -/
import Derived.Test.YtadibbbaegbljaaRefSort
import Derived.Test.YtadibbbaegbljaaGErr
namespace Go.Proofs.Ytadibbbaegbljaa
open Go.RowKit

theorem canon_ranges {S : Nat} {T : Nat → Nat → Option Nat} (hT : FitT S T) : ∀ e ∈ canon S T, 0 ≤ e.f ∧ e.f < (S : Int) ∧ 0 ≤ e.t ∧ e.t < (S : Int) ∧ 0 ≤ e.l ∧ e.l < 2 := by
  intro e he
  obtain ⟨s, l, t, hs, hl, ht, rfl⟩ := mem_canon.1 he
  have := hT s l t hs hl ht
  show 0 ≤ (s : Int) ∧ (s : Int) < S ∧ 0 ≤ (t : Int) ∧ (t : Int) < S ∧ 0 ≤ (l : Int) ∧ (l : Int) < 2
  omega
theorem canon_next (S : Nat) (T : Nat → Nat → Option Nat) : ∀ (k : Nat) (p e : E3), (canon S T)[k]? = some p → (canon S T)[k + 1]? = some e → cmpR p e < 0 := by
  intro k p e hp he
  obtain ⟨h1, rfl⟩ := List.getElem?_eq_some_iff.1 hp
  obtain ⟨h2, rfl⟩ := List.getElem?_eq_some_iff.1 he
  exact (cmpR_neg _ _).2 (List.pairwise_iff_getElem.1 (canon_sorted S T) k (k + 1) h1 h2 (by omega))
/-- A graph whose edges lie in a new block, and an error. -/
def GOutN (L S : Int) (es : List E3) (err : Int) (w : World) (e : Ending) (w' : World) : Prop :=
  Below w.heap.size w w' ∧ ∃ v, e = .returned (.tuple #[.agg #[.int .i64 L, .int .i64 S, v], .int .i64 err]) ∧ Row w' v es.length (ce es) ∧ ∀ k, v.ownBlock = some k → w.heap.size ≤ k
theorem GOutN.out {L S : Int} {es : List E3} {err : Int} {w w' : World} {e : Ending} (h : GOutN L S es err w e w') : GOut L S es err w e w' := by
  obtain ⟨h1, v, h2, h3, -⟩ := h
  exact ⟨h1, v, h2, h3⟩
set_option maxRecDepth 100000 in
set_option maxHeartbeats 1600000 in
theorem rmake_ok (S : Nat) (T : Nat → Nat → Option Nat) (es : List E3) (v : Value) (w : World) (h : Tells S T es) (hr : Row w v es.length (ce es)) :
    Calls Try.prog 77 #[.int .i64 2, .int .i64 (S : Int), v] w (GOutN 2 (S : Int) (canon S T) 0 w) := by
  have hlen := h.len
  have hso := fun v' w' hr' => rsorted_any es v' w' hr' (by omega)
  have hsc : sortI [] es = canon S T := sortI_canon fun e => h.perm.mem_iff
  rw [hsc] at hso
  have hcl : (canon S T).length ≤ 1024 := by rw [← h.perm.length_eq]; omega
  have hS := h.small
  have hck := fun v' w' hr' => rcheck_ok 2 (S : Int) (canon S T) v' w' hr' (by decide) (by decide) (by omega) (by omega) hcl (canon_ranges h.fit) (canon_next S T)
  obtain ⟨C, hC⟩ : ∃ C, C = canon S T := ⟨_, rfl⟩
  rw [← hC] at hcl
  simp only [← hC] at hso hck ⊢
  have hr0 := hr.below ((Below.refl w.heap.size w).alloc (Nat.le_refl _) (.cells #[.int .i64 0, .int .i64 0, .slice none 0 0] 46)) (Nat.le_refl _)
  have hres := Blk.new w 46 [.int .i64 0, .int .i64 0, .slice none 0 0]
  have s0 := (Below.refl w.heap.size w).alloc (Nat.le_refl _) (.cells #[.int .i64 0, .int .i64 0, .slice none 0 0] 46)
  have HR := Lib.hid hr0; clear hr0
  have HRES := Lib.hid hres; clear hres
  have S0 := Lib.hid s0; clear s0
  have HSO := Lib.hid hso; clear hso
  have HCK := Lib.hid hck; clear hck
  clear hr hsc hC h
  go_enter Try.func77, Try.ntmps77
  go_wp2_with fail
  go_at_call 93
  refine (HSO.out _ _ HR.out).mono ?_
  rintro e w1 ⟨hq1, v1, rfl, hrow1, hnw⟩
  obtain ⟨a1, c1, rfl, -⟩ := hrow1.slice
  have hnv : (Value.slice a1 C.length c1).ownBlock ≠ some w.heap.size := fun e => by have := hnw _ e; simp at this; omega
  have HNV := Lib.hid hnv; clear hnv
  have HNW := Lib.hid hnw; clear hnw
  have hb1 := HRES.out.keep hq1
  have hbg := Blk.new w1 46 [.int .i64 2, .int .i64 (S : Int), .slice a1 C.length c1]
  have hr1 := hrow1.below ((Below.refl w1.heap.size w1).alloc (Nat.le_refl _) (.cells #[.int .i64 2, .int .i64 (S : Int), .slice a1 C.length c1] 46)) (Nat.le_refl _)
  have hb1' := hb1.alloc (.cells #[.int .i64 2, .int .i64 (S : Int), .slice a1 C.length c1] 46)
  have hsz1 : w.heap.size < w1.heap.size := hb1.lt
  have HB1 := Lib.hid hb1'; clear hb1'
  have HBG := Lib.hid hbg; clear hbg
  have HR1 := Lib.hid hr1; clear hr1
  have HQ1 := Lib.hid hq1; clear hq1
  clear hb1 hrow1
  go_wp2_with fail
  go_at_call 94
  refine (HCK.out _ _ HR1.out).mono ?_
  rintro e w2 ⟨hq2, rfl⟩
  have tk := HB1.out.keep hq2; have x0 := tk.cell (j := 0) rfl; have x1 := tk.cell (j := 1) rfl; have x2 := tk.cell (j := 2) rfl; have B2 := Lib.hid tk; clear tk
  have tk := HBG.out.keep hq2; have y0 := tk.cell (j := 0) rfl; have y1 := tk.cell (j := 1) rfl; have y2 := tk.cell (j := 2) rfl; have G2 := Lib.hid tk; clear tk
  have f0 := B2.out.frozen 0
  have f1 := B2.out.frozen 1
  have f2 := B2.out.frozen 2
  have hr2 := HR1.out.below hq2 (Nat.le_refl _)
  have hne : ¬ w.heap.size = w1.heap.size := by omega
  have HR2 := Lib.hid hr2; clear hr2
  have HQ2 := Lib.hid hq2; clear hq2
  go_wp2_with fail
  refine bodyPost_ret (v := .tuple #[.agg #[.int .i64 2, .int .i64 (S : Int), .slice a1 C.length c1], .int .i64 0]) (by simp [results, Try.results77, go_sem, *]) rfl ⟨?_, _, rfl, ?_, ?_⟩
  · have s1 := S0.out.trans (HQ1.out.mono S0.out.size)
    have s2 := s1.alloc s1.size (.cells #[.int .i64 2, .int .i64 (S : Int), .slice a1 C.length c1] 46)
    have s3 := s2.trans (HQ2.out.mono s2.size)
    exact ((s3.setCell (p := ⟨w.heap.size, 0, none⟩) (Nat.le_refl _) _).setCell (p := ⟨w.heap.size, 1, none⟩) (Nat.le_refl _) _).setCell (p := ⟨w.heap.size, 2, none⟩) (Nat.le_refl _) _
  · exact row_setCell (row_setCell (row_setCell HR2.out ⟨w.heap.size, 0, none⟩ _ HNV.out) ⟨w.heap.size, 1, none⟩ _ HNV.out) ⟨w.heap.size, 2, none⟩ _ HNV.out
  · intro k hk
    have := HNW.out k hk
    simp at this; omega
set_option maxRecDepth 100000 in
set_option maxHeartbeats 1600000 in
theorem rbuild_no (S : Int) (v : Value) (w : World) (h : 64 < S) :
    Calls Try.prog 53 #[.int .i64 S, v] w (GOutN 0 0 [] 4 w) := by
  go_enter Try.func53, Try.ntmps53
  go_wp2_with fail
  refine bodyPost_ret (v := .tuple #[.agg #[.int .i64 0, .int .i64 0, .slice none 0 0], .int .i64 4]) (by simp [results, Try.results53, go_sem]) rfl ⟨?_, _, rfl, Row.nil _, fun k h => by cases h⟩
  repeat (first | exact Below.refl _ _ | refine Below.alloc ?_ (by simp <;> omega) _)
set_option maxRecDepth 100000 in
set_option maxHeartbeats 1600000 in
theorem rbuild_ok (S : Nat) (T : Nat → Nat → Option Nat) (es : List E3) (v : Value) (w : World) (h : Tells S T es) (hr : Row w v es.length (ce es)) :
    Calls Try.prog 53 #[.int .i64 (S : Int), v] w (GOutN 2 (S : Int) (canon S T) 0 w) := by
  have hS := h.small
  have hr0 := hr.below ((Below.refl w.heap.size w).alloc (Nat.le_refl _) (.cells #[.int .i64 0, .int .i64 0, .slice none 0 0] 46)) (Nat.le_refl _)
  have hmk := rmake_ok S T es v _ h hr0
  have hres := Blk.new w 46 [.int .i64 0, .int .i64 0, .slice none 0 0]
  have s0 := (Below.refl w.heap.size w).alloc (Nat.le_refl _) (.cells #[.int .i64 0, .int .i64 0, .slice none 0 0] 46)
  obtain ⟨C, hC⟩ : ∃ C, C = canon S T := ⟨_, rfl⟩
  rw [← hC] at hmk ⊢
  have HMK := Lib.hid hmk; clear hmk
  have HRES := Lib.hid hres; clear hres
  have S0 := Lib.hid s0; clear s0
  clear hr hr0 hC h
  go_enter Try.func53, Try.ntmps53
  go_wp2_with fail
  go_at_call 77
  refine HMK.out.mono ?_
  rintro e w1 ⟨hq1, v1, rfl, hrow1, hnw⟩
  obtain ⟨a1, c1, rfl, -⟩ := hrow1.slice
  have hnv : (Value.slice a1 C.length c1).ownBlock ≠ some w.heap.size := fun e => by have := hnw _ e; simp at this; omega
  have tk := HRES.out.keep hq1; have x0 := tk.cell (j := 0) rfl; have x1 := tk.cell (j := 1) rfl; have x2 := tk.cell (j := 2) rfl; have B1 := Lib.hid tk; clear tk
  have f0 := B1.out.frozen 0
  have f1 := B1.out.frozen 1
  have f2 := B1.out.frozen 2
  have HNV := Lib.hid hnv; clear hnv
  have HNW := Lib.hid hnw; clear hnw
  have HR1 := Lib.hid hrow1; clear hrow1
  have HQ1 := Lib.hid hq1; clear hq1
  go_wp2_with fail
  refine bodyPost_ret (v := .tuple #[.agg #[.int .i64 2, .int .i64 (S : Int), .slice a1 C.length c1], .int .i64 0]) (by simp [results, Try.results53, go_sem, *]) rfl ⟨?_, _, rfl, ?_, ?_⟩
  · have s1 := S0.out.trans (HQ1.out.mono S0.out.size)
    exact ((s1.setCell (p := ⟨w.heap.size, 0, none⟩) (Nat.le_refl _) _).setCell (p := ⟨w.heap.size, 1, none⟩) (Nat.le_refl _) _).setCell (p := ⟨w.heap.size, 2, none⟩) (Nat.le_refl _) _
  · exact row_setCell (row_setCell (row_setCell HR1.out ⟨w.heap.size, 0, none⟩ _ HNV.out) ⟨w.heap.size, 1, none⟩ _ HNV.out) ⟨w.heap.size, 2, none⟩ _ HNV.out
  · intro k hk
    have := HNW.out k hk
    simp at this; omega
end Go.Proofs.Ytadibbbaegbljaa

/- The contract of awake: the examples of the chapter. -/
import Derived.Test.YtadibbbaegbljaaAwake
namespace Go.Proofs.Ytadibbbaegbljaa
open Go.RowKit

theorem v_yes : validR 1 3 (ByteArray.data ⟨#[48, 49, 48, 49]⟩).toList = true ∧ rchk 1 3 (ByteArray.data ⟨#[48, 49, 48, 49]⟩).toList = 0 := by decide
theorem v_no : validR 1 3 (ByteArray.data ⟨#[48, 48, 48, 48]⟩).toList = false ∧ rchk 1 3 (ByteArray.data ⟨#[48, 48, 48, 48]⟩).toList = 0 := by decide
theorem graph13 (w : World) : Calls Try.prog 23 #[.int .i64 1, .int .i64 3] w (MakeRet w 2 4 wantEs) := by
  have h := graph_any 1 3 3 w (by decide) (by decide) (by decide) (by rw [want_graph]; exact want_ok) (by rw [want_graph]; decide) (by rw [want_graph, want_sort]; exact want_twins) (by rw [want_graph, want_sort]; exact want_chk)
  rw [want_graph] at h
  exact h

set_option maxRecDepth 100000 in
set_option maxHeartbeats 800000 in
theorem awake_any (w : World) : Calls Try.prog 15 #[] w (Ret w (.bool true)) := by
  obtain ⟨vy, ry⟩ := v_yes
  obtain ⟨vn, rn⟩ := v_no
  have VY := Lib.hid vy; clear vy
  have RY := Lib.hid ry; clear ry
  have VN := Lib.hid vn; clear vn
  have RN := Lib.hid rn; clear rn
  have CE := Lib.hid count_eight
  have WS := Lib.hid want_sort
  go_enter Try.func15, Try.ntmps15
  go_wp2_with fail
  go_at_call 13; refine (Valid_any 1 3 ⟨#[48, 49, 48, 49]⟩ _ (by decide)).mono ?_; rintro e w1 ⟨hq, rfl⟩; rw [VY.out, RY.out]; have HQ1 := Lib.hid hq; clear hq
  go_wp2_with fail
  go_at_call 13; refine (Valid_any 1 3 ⟨#[48, 48, 48, 48]⟩ _ (by decide)).mono ?_; rintro e w2 ⟨hq, rfl⟩; rw [VN.out, RN.out]; have HQ2 := Lib.hid hq; clear hq
  go_wp2_with fail
  go_at_call 23; refine (graph13 _).mono ?_; rintro e w3 ⟨hq, g, cap, rfl, hown⟩; rw [WS.out] at hown; have HQ3 := Lib.hid hq; clear hq; have HO3 := Lib.hid hown; clear hown
  go_wp2_with fail
  go_at_call 17; refine (count_yes 0 1 4 _ (by decide) (by decide) (by decide) (by decide)).mono ?_; rintro e w4 ⟨hq, rfl⟩; rw [CE.out]; have HQ4 := Lib.hid hq; clear hq
  have sB := ((Below.refl w4.heap.size w4).alloc (Nat.le_refl _) (.cells #[.bool (ineg 8), .string (imag 8)] 34)).alloc (by simp) (.cells #[.int .i64 0, .int .i64 0, .int .i64 1, .int .i64 1, .int .i64 0, .int .i64 2, .int .i64 1, .int .i64 1, .int .i64 0, .int .i64 2, .int .i64 0, .int .i64 3, .int .i64 2, .int .i64 1, .int .i64 0, .int .i64 3, .int .i64 1, .int .i64 0] 60)
  have bI := (Blk.new w4 34 [.bool (ineg 8), .string (imag 8)]).alloc (.cells #[.int .i64 0, .int .i64 0, .int .i64 1, .int .i64 1, .int .i64 0, .int .i64 2, .int .i64 1, .int .i64 1, .int .i64 0, .int .i64 2, .int .i64 0, .int .i64 3, .int .i64 2, .int .i64 1, .int .i64 0, .int .i64 3, .int .i64 1, .int .i64 0] 60)
  have bE := Blk.new (w4.alloc (.cells #[.bool (ineg 8), .string (imag 8)] 34)) 60 [.int .i64 0, .int .i64 0, .int .i64 1, .int .i64 1, .int .i64 0, .int .i64 2, .int .i64 1, .int .i64 1, .int .i64 0, .int .i64 2, .int .i64 0, .int .i64 3, .int .i64 2, .int .i64 1, .int .i64 0, .int .i64 3, .int .i64 1, .int .i64 0]
  have bG := ((Blk.new w3 46 [.int .i64 2, .int .i64 4, .slice (some ⟨g, 0, none⟩) wantEs.length cap]).below HQ4.out (by simp)).below sB (by have := HQ4.out.size; simp at this; omega)
  have r1 := ((((own_row HO3.out).below ((Below.refl w3.heap.size w3).alloc (Nat.le_refl _) (.cells #[.int .i64 2, .int .i64 4, .slice (some ⟨g, 0, none⟩) wantEs.length cap] 46)) (Nat.le_refl _)).below HQ4.out (Nat.le_refl _)).below sB (Nat.le_refl _))
  have r2 : Row ((w4.alloc (.cells #[.bool (ineg 8), .string (imag 8)] 34)).alloc (.cells #[.int .i64 0, .int .i64 0, .int .i64 1, .int .i64 1, .int .i64 0, .int .i64 2, .int .i64 1, .int .i64 1, .int .i64 0, .int .i64 2, .int .i64 0, .int .i64 3, .int .i64 2, .int .i64 1, .int .i64 0, .int .i64 3, .int .i64 1, .int .i64 0] 60)) (.slice (some ⟨w4.heap.size + 1, 0, none⟩) 6 6) wantEs.length (ce wantEs) := by
    have h := Row.ofBlk bE (m := 6) (cap := 6) (Nat.le_refl _) (by decide) 18
    rw [World.size_alloc] at h
    exact h
  have cG := bG.cell (j := 2) rfl
  have cI0 := bI.cell (j := 0) rfl
  have cI1 := bI.cell (j := 1) rfl
  have hsz : w3.heap.size < w4.heap.size := by have := HQ4.out.size; simp at this; omega
  have heq : ∀ w', (binOp .eql 34 (.agg #[.bool (ineg 8), .string (imag 8)]) (.agg #[.bool (ineg 8), .string (imag 8)])).run Try.prog w' = .ok (.bool true) w' := fun w' => by rw [eql_int, beq_toListBytes]; simp
  have R1 := Lib.hid r1; clear r1
  have R2 := Lib.hid r2; clear r2
  have SB := Lib.hid sB; clear sB bI bE bG
  have hmax : ∀ (w : World) (ts : Array TypeId) (t : TypeId), (Builtin.max_ ts t #[.int .i64 0, .int .i64 0, .int .i64 0, .int .i64 0]).run Try.prog w = .ok (.int .i64 0) w := fun w ts t => by simp [Builtin.max_, Builtin.max2]
  have hwl : wantEs.length = 6 := rfl
  go_wp2_with fail
  go_region_held3 (fun w' => w'.cell? ⟨w3.heap.size, 2, none⟩ = some (.slice (some ⟨g, 0, none⟩) wantEs.length cap) ∧ w'.cell? ⟨w4.heap.size, 0, none⟩ = some (.bool (ineg 8)) ∧ w'.cell? ⟨w4.heap.size, 1, none⟩ = some (.string (imag 8))) (go_keep) (first | (go_at_call 38; refine (eqEdges_any wantEs wantEs _ _ _ R1.out.drew R2.out.drew).mono ?_; rintro e w6 ⟨hq, rfl⟩; have z0 := (hq.cell (p := ⟨w3.heap.size, 2, none⟩) (by simp; omega)).trans cG; have z1 := (hq.cell (p := ⟨w4.heap.size, 0, none⟩) (by simp; omega)).trans cI0; have z2 := (hq.cell (p := ⟨w4.heap.size, 1, none⟩) (by simp; omega)).trans cI1; have HQ6 := Lib.hid hq; clear hq) | (go_at_call 21; refine (iof_any 8 _ (by decide) (by decide)).mono ?_; rintro e w7 ⟨hq, rfl⟩; have y0 := (hq.cell (p := ⟨w3.heap.size, 2, none⟩) (by have := HQ6.out.size; simp at this; simp only []; omega)).trans z0; have y1 := (hq.cell (p := ⟨w4.heap.size, 0, none⟩) (by have := HQ6.out.size; simp at this; simp only []; omega)).trans z1; have y2 := (hq.cell (p := ⟨w4.heap.size, 1, none⟩) (by have := HQ6.out.size; simp at this; simp only []; omega)).trans z2; have HQ7 := Lib.hid hq; clear hq))
  go_wp2_with fail
  go_ret
  have t1 := (HQ1.out.trans (HQ2.out.mono HQ1.out.size))
  have t2 := t1.trans (HQ3.out.mono t1.size)
  have t3 := t2.alloc t2.size (.cells #[.int .i64 2, .int .i64 4, .slice (some ⟨g, 0, none⟩) wantEs.length cap] 46)
  have t4 := t3.trans (HQ4.out.mono t3.size)
  have t5 := t4.trans (SB.out.mono t4.size)
  have t6 := t5.drew.trans (HQ6.out.mono t5.size)
  exact ⟨t6.trans (HQ7.out.mono t6.size), rfl⟩
end Go.Proofs.Ytadibbbaegbljaa

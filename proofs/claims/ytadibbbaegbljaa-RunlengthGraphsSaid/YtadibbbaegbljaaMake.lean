/- The contract of graph.Make: at edges of which no two are equal, if what comes out is valid. -/
import Derived.Test.YtadibbbaegbljaaSort
namespace Go.Proofs.Ytadibbbaegbljaa
open Go.RowKit

theorem okEs_sort {es : List E3} (h : okEs es) : okEs (sortE es) := fun e he => h e ((List.mergeSort_perm es leE).mem_iff.1 he)
theorem own_form {w : World} {base : Nat} {e : TypeId} {size : Nat} {v : Value} {n : Nat} {xs : List Value} (h : w.ownsRow base e size v n xs) (hn : n ≠ 0) : ∃ g cap, v = .slice (some ⟨g, 0, none⟩) n cap := by
  rcases h.2 with ⟨_, h0⟩ | ⟨g, cap, cur, hv, _⟩
  · exact absurd h0 hn
  · exact ⟨g, cap, hv⟩
theorem own_mono {w : World} {base base' : Nat} {e : TypeId} {size : Nat} {v : Value} {n : Nat} {xs : List Value} (h : w.ownsRow base e size v n xs) (hb : base' ≤ base) : w.ownsRow base' e size v n xs :=
  ⟨h.1, h.2.imp_right fun ⟨g, c, cur, h1, h2, h3⟩ => ⟨g, c, cur, h1, Nat.le_trans hb h2, h3⟩⟩
/-- What graph.Make returns where the edges are in order. -/
def MakeRet (w : World) (L S : Int) (es : List E3) (e : Ending) (w' : World) : Prop :=
  Below w.heap.size w w' ∧ ∃ g cap, e = .returned (.tuple #[.agg #[.int .i64 L, .int .i64 S, .slice (some ⟨g, 0, none⟩) es.length cap], .int .i64 0]) ∧ w'.ownsRow w.heap.size 60 3 (.slice (some ⟨g, 0, none⟩) es.length cap) es.length (ce (sortE es))

set_option maxRecDepth 100000 in
set_option maxHeartbeats 1600000 in
theorem make_any (L S : Int) (es : List E3) (v : Value) (w : World) (hr : Row w v es.length (ce es)) (hok : okEs es) (hne : es ≠ []) (hlen : es.length ≤ 1000000000) (hno : NoTwins (sortE es)) (hchk : chk L S (sortE es) = 0) :
    Calls Try.prog 76 #[.int .i64 L, .int .i64 S, v] w (MakeRet w L S es) := by
  obtain ⟨a0, c0, rfl, hle⟩ := hr.slice
  have hr0 := hr.below ((Below.refl w.heap.size w).alloc (Nat.le_refl _) (.cells #[.int .i64 0, .int .i64 0, .slice none 0 0] 46)) (Nat.le_refl _)
  have hres := Blk.new w 46 [.int .i64 0, .int .i64 0, .slice none 0 0]
  have HRES := Lib.hid hres; clear hres
  have HR := Lib.hid hr0; clear hr0 hr
  have HOK := Lib.hid hok; clear hok
  have hnl : es.length ≠ 0 := fun h => hne (List.eq_nil_of_length_eq_zero h)
  clear hne
  have HNO := Lib.hid hno; clear hno
  have HCH := Lib.hid hchk; clear hchk
  go_enter Try.func76, Try.ntmps76
  go_wp2_with (first | (go_at_call 90; refine (cloneEdges_any es _ _ HR.out hlen).mono ?_; rintro e w1 ⟨hq, v1, rfl, hown⟩; obtain ⟨g, cap, rfl⟩ := own_form hown hnl; have hgl := hown.lt g rfl; have hown2 := own_below hown ((Below.refl w1.heap.size w1).alloc (Nat.le_refl _) (.cells #[listF] 84)); have hl2 := (Blk.new w1 84 [listF]).cell (j := 0) rfl; have hcg : w1.heap.size ≠ g := (by omega); have HQ1 := Lib.hid hq; clear hq; have HO1 := Lib.hid hown2; clear hown2 hown; have HL2 := Lib.hid hl2; clear hl2) | (go_at_call 58; refine (by_any _).mono ?_; rintro e w' ⟨rfl, rfl⟩) | (go_at_call 91; refine (sort_any es _ g cap w1.heap.size _ HO1.out HOK.out hlen HL2.out (by simp) hcg).mono ?_; rintro e w2 ⟨rfl, hgr, hown3⟩; have hrow := own_row hown3; have HG := Lib.hid hgr; clear hgr; have HO3 := Lib.hid hown3; clear hown3; have HR3 := Lib.hid hrow; clear hrow) | (go_at_call 92; refine (compactEdges_any (sortE es) _ _ (by rw [sortE_length]; exact HR3.out) HNO.out).mono ?_; rintro e w3 ⟨hq3, rfl⟩; have HQ3 := Lib.hid hq3; clear hq3) | (go_at_call 33; refine (check_any L S (sortE es) _ _ ((by rw [sortE_length]; exact HR3.out : Row w2 (.slice (some ⟨g, 0, none⟩) es.length cap) (sortE es).length (ce (sortE es))).below (HQ3.out.alloc HQ3.out.size _) (Nat.le_refl _)) (okEs_sort HOK.out)).mono ?_; rintro e w4 ⟨hq4, rfl⟩; have b1 := (HRES.out.below HQ1.out (by simp)).alloc (.cells #[listF] 84); have b2 := b1.of_block (HG.out.block w.heap.size (by have := HQ1.out.size; simp at this ⊢; omega) (fun e => by have := Option.some.inj e; have h3 := hgl.1; simp at h3; omega)); have hs2 := HG.out.size; have hs1 := HQ1.out.size; have b3 := (b2.below HQ3.out (by simp at hs1 hs2; omega)).alloc (.cells #[.int .i64 L, .int .i64 S, .slice (some ⟨g, 0, none⟩) es.length cap] 46); have b4 := b3.below hq4 (by have := HQ3.out.size; simp at hs1 hs2 ⊢; omega); have n4 := (Blk.new w3 46 [.int .i64 L, .int .i64 S, .slice (some ⟨g, 0, none⟩) es.length cap]).below hq4 (by simp); have r0 := b4.cell (j := 0) rfl; have r1 := b4.cell (j := 1) rfl; have r2 := b4.cell (j := 2) rfl; have f0 := b4.frozen 0; have f1 := b4.frozen 1; have f2 := b4.frozen 2; have m0 := n4.cell (j := 0) rfl; have m1 := n4.cell (j := 1) rfl; have m2 := n4.cell (j := 2) rfl; clear b1 b2 b3 b4 n4; have HQ4 := Lib.hid hq4; clear hq4; rw [HCH.out]))
  have s1 := ((Below.refl w.heap.size w).alloc (Nat.le_refl _) (.cells #[.int .i64 0, .int .i64 0, .slice none 0 0] 46)).trans (HQ1.out.mono (by simp))
  have s2 := (s1.alloc s1.size (.cells #[listF] 84)).grown HG.out (by have := s1.size; simp; omega) (fun j hj => by cases hj; have h3 := hgl.1; simp only [World.size_alloc] at h3; omega)
  have s3 := s2.trans (HQ3.out.mono s2.size)
  have s4 := s3.alloc s3.size (.cells #[.int .i64 L, .int .i64 S, .slice (some ⟨g, 0, none⟩) es.length cap] 46)
  have s5 := s4.trans (HQ4.out.mono s4.size)
  have o5 := own_below ((own_below HO3.out HQ3.out).alloc (.cells #[.int .i64 L, .int .i64 S, .slice (some ⟨g, 0, none⟩) es.length cap] 46)) HQ4.out
  have hgw : (Value.slice (some ⟨g, 0, none⟩) es.length cap).ownBlock ≠ some w.heap.size := fun e => by have h4 := Option.some.inj (show some g = some w.heap.size from e); have h3 := hgl.1; simp only [World.size_alloc] at h3; omega
  have o6 := own_setCell (own_setCell (own_setCell (own_mono o5 (base' := w.heap.size) (by simp)) ⟨w.heap.size, 0, none⟩ (.int .i64 L) hgw) ⟨w.heap.size, 1, none⟩ (.int .i64 S) hgw) ⟨w.heap.size, 2, none⟩ (.slice (some ⟨g, 0, none⟩) es.length cap) hgw
  have s6 := ((s5.setCell (p := ⟨w.heap.size, 0, none⟩) (Nat.le_refl _) (.int .i64 L)).setCell (p := ⟨w.heap.size, 1, none⟩) (Nat.le_refl _) (.int .i64 S)).setCell (p := ⟨w.heap.size, 2, none⟩) (Nat.le_refl _) (.slice (some ⟨g, 0, none⟩) es.length cap)
  have S6 := Lib.hid s6; clear s1 s2 s3 s4 s5 s6
  have O6 := Lib.hid o6; clear o5 o6
  refine bodyPost_ret (v := .tuple #[.agg #[.int .i64 L, .int .i64 S, .slice (some ⟨g, 0, none⟩) es.length cap], .int .i64 0]) (by simp [results, Try.results76, go_sem, *]) rfl ⟨S6.out, g, cap, rfl, O6.out⟩
end Go.Proofs.Ytadibbbaegbljaa

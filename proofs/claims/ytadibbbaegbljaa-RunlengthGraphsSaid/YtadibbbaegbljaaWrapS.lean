/- runlength.Levels, Spaced, Transitions as wholes. -/
import Derived.Test.YtadibbbaegbljaaClosS
import Derived.Test.YtadibbbaegbljaaKeep
namespace Go.Proofs.Ytadibbbaegbljaa
open Go.RowKit

theorem gL_ne {g : Nat → List E3} {n : Nat} (h : g 0 ≠ []) (hn : 0 < n) : gL g n ≠ [] := by
  intro e
  apply h
  have : ∀ s ∈ List.range n, g s = [] := by
    unfold gL at e
    rw [List.flatMap_eq_nil_iff] at e
    exact e
  exact this 0 (by simpa using hn)
theorem spaced_ne (d st E : Nat) (h : d ≤ E) : gL (gS d st E) (E + 1) ≠ [] := by
  refine gL_ne ?_ (by omega)
  unfold gS
  by_cases h0 : 0 < E
  · rw [if_pos h0]; simp
  · rw [if_pos (c := d ≤ 0 ∧ (0 - d) % st = 0) ⟨by omega, by simp⟩]; simp
set_option maxRecDepth 100000 in
set_option maxHeartbeats 1600000 in
theorem spaced_any (d k st E : Nat) (w : World) (hdk : d ≤ k) (hk : k ≤ 9223372036854775807) (hst : 1 ≤ st) (hst2 : st ≤ 9223372036854775807) (hE : E = k - (k - d) % st) (hE64 : E < 64) :
    Calls Try.prog 27 #[.int .i64 (d : Int), .int .i64 (k : Int), .int .i64 (st : Int)] w (MakeRet w 2 ((E : Int) + 1) (gL (gS d st E) (E + 1))) := by
  have htl : Tells (E + 1) (tS d st E) (gL (gS d st E) (E + 1)) := spaced_tells d st E hE64
  have hlen := htl.len
  have hok := htl.ok
  have hno := htl.no
  have hchk := htl.chk
  have hne := spaced_ne d st E (by have := Nat.mod_le (k - d) st; omega)
  have hEi : (k : Int) - ((k : Int) - (d : Int)) % (st : Int) = (E : Int) := by
    have h1 : (k - d) % st ≤ k - d := Nat.mod_le _ _
    rw [show (k : Int) - (d : Int) = ((k - d : Nat) : Int) by omega, ← Int.natCast_emod]; omega
  have hE1 : decide ((64 : Int) ≤ (E : Int)) = false := by simp; omega
  have hE2 : decide (64 ≤ E) = false := by simp; omega
  have hnn : (0 : Int) ≤ (k : Int) - (d : Int) := by omega
  have HE := Lib.hid hE; clear hE
  have b0 := ((((Blk.new w 3 [.int .i64 (d : Int)]).alloc (.cells #[.int .i64 (st : Int)] 3)).alloc (.cells #[.int .i64 0, .int .i64 0, .slice none 0 0] 46)).alloc (.cells #[.int .i64 (E : Int)] 3))
  have b1 := (((Blk.new (w.alloc (.cells #[.int .i64 (d : Int)] 3)) 3 [.int .i64 (st : Int)]).alloc (.cells #[.int .i64 0, .int .i64 0, .slice none 0 0] 46)).alloc (.cells #[.int .i64 (E : Int)] 3))
  have b2 := ((Blk.new ((w.alloc (.cells #[.int .i64 (d : Int)] 3)).alloc (.cells #[.int .i64 (st : Int)] 3)) 46 [.int .i64 0, .int .i64 0, .slice none 0 0]).alloc (.cells #[.int .i64 (E : Int)] 3))
  have b3 := (Blk.new (((w.alloc (.cells #[.int .i64 (d : Int)] 3)).alloc (.cells #[.int .i64 (st : Int)] 3)).alloc (.cells #[.int .i64 0, .int .i64 0, .slice none 0 0] 46)) 3 [.int .i64 (E : Int)])
  have s0 := (((((Below.refl w.heap.size w).alloc (Nat.le_refl _) (.cells #[.int .i64 (d : Int)] 3)).alloc (by simp only [World.size_alloc]; omega) (.cells #[.int .i64 (st : Int)] 3)).alloc (by simp only [World.size_alloc]; omega) (.cells #[.int .i64 0, .int .i64 0, .slice none 0 0] 46)).alloc (by simp only [World.size_alloc]; omega) (.cells #[.int .i64 (E : Int)] 3))
  simp only [World.size_alloc] at b1 b2 b3
  have hF := spacedF_any d st E _ _ _ _ hE64 (by omega) hst hst2 b3.lt b0.lt b1.lt (b3.cell (j := 0) rfl) (b0.cell (j := 0) rfl) (b1.cell (j := 0) rfl)
  have hcon := build_any ((E : Int) + 1) 55 _ (gL (gS d st E) (E + 1)) _ hF (fun args w => enters_of Try.func55 (by kernel_rfl) rfl args w) (by omega) hok hne (by omega) hno hchk
  have HCON := Lib.hid hcon; clear hcon hF hok hno hchk hne htl
  have HB2 := Lib.hid b2
  have HS0 := Lib.hid s0; clear s0 b0 b1 b2 b3
  go_enter Try.func27, Try.ntmps27
  go_wp2_with (first | (go_at_call 51; refine HCON.out.mono ?_; rintro e w3 ⟨hq3, g, cap, rfl, hown3⟩; have hcg3 := HB2.out.keep hq3; have r0 := hcg3.cell (j := 0) rfl; have r1 := hcg3.cell (j := 1) rfl; have r2 := hcg3.cell (j := 2) rfl; have f0 := hcg3.frozen 0; have f1 := hcg3.frozen 1; have f2 := hcg3.frozen 2; clear hcg3; have HQ3 := Lib.hid hq3; clear hq3; have HO3 := Lib.hid hown3; clear hown3))
  have hg3 := (HO3.out.lt g rfl).1
  simp only [World.size_alloc] at hg3
  have s2 := HS0.out.trans (HQ3.out.mono HS0.out.size)
  have hgw : (Value.slice (some ⟨g, 0, none⟩) (gL (gS d st E) (E + 1)).length cap).ownBlock ≠ some (w.heap.size + 1 + 1) := fun e => by have h4 := Option.some.inj (show some g = some (w.heap.size + 1 + 1) from e); omega
  have o6 := own_setCell (own_setCell (own_setCell (own_mono HO3.out (base' := w.heap.size) (by simp only [World.size_alloc]; omega)) ⟨w.heap.size + 1 + 1, 0, none⟩ (.int .i64 2) hgw) ⟨w.heap.size + 1 + 1, 1, none⟩ (.int .i64 ((E : Int) + 1)) hgw) ⟨w.heap.size + 1 + 1, 2, none⟩ (.slice (some ⟨g, 0, none⟩) (gL (gS d st E) (E + 1)).length cap) hgw
  have s6 := ((s2.setCell (p := ⟨w.heap.size + 1 + 1, 0, none⟩) (by simp only []; omega) (.int .i64 2)).setCell (p := ⟨w.heap.size + 1 + 1, 1, none⟩) (by simp only []; omega) (.int .i64 ((E : Int) + 1))).setCell (p := ⟨w.heap.size + 1 + 1, 2, none⟩) (by simp only []; omega) (.slice (some ⟨g, 0, none⟩) (gL (gS d st E) (E + 1)).length cap)
  have S6 := Lib.hid s6; clear s2 s6
  have O6 := Lib.hid o6; clear o6
  refine bodyPost_ret (v := .tuple #[.agg #[.int .i64 2, .int .i64 ((E : Int) + 1), .slice (some ⟨g, 0, none⟩) (gL (gS d st E) (E + 1)).length cap], .int .i64 0]) (by simp [results, Try.results27, go_sem, *]) rfl ⟨S6.out, g, cap, rfl, O6.out⟩
end Go.Proofs.Ytadibbbaegbljaa

/- runlength.Levels as a whole. -/
import Derived.Test.YtadibbbaegbljaaClosL
import Derived.Test.YtadibbbaegbljaaKeep
import Derived.Test.YtadibbbaegbljaaPlainU
namespace Go.Proofs.Ytadibbbaegbljaa
open Go.RowKit

theorem gL_neL {g : Nat → List E3} {n : Nat} (h : g 0 ≠ []) (hn : 0 < n) : gL g n ≠ [] := by
  intro e
  apply h
  unfold gL at e
  rw [List.flatMap_eq_nil_iff] at e
  exact e 0 (by simpa using hn)
theorem levels_ne (d m : Nat) (inf : Bool) (hm : 1 ≤ m) (hdm : d < m) : gL (gV d inf m) (2 * m) ≠ [] := by
  refine gL_neL ?_ (by omega)
  unfold gV
  rw [Nat.zero_mod]
  by_cases h0 : 0 + 1 < m
  · rw [if_pos h0]; simp
  · rw [if_pos (c := d < 0 + 1) (by omega)]; simp
set_option maxRecDepth 100000 in
set_option maxHeartbeats 1600000 in
theorem levels_any (d m : Nat) (k : Int) (w : World) (hp : pairB (d : Int) k = true) (hl : lastI (d : Int) k = (m : Int) - 1) (hm : 1 ≤ m) (hm2 : 2 * m ≤ 64) (hdm : d < m) :
    Calls Try.prog 25 #[.int .i64 (d : Int), .int .i64 k] w (MakeRet w 2 (2 * (m : Int)) (gL (gV d (k == -1) m) (2 * m))) := by
  have htl : Tells (2 * m) (tL d (k == -1) m) (gL (gV d (k == -1) m) (2 * m)) := levels_tells d (k == -1) m hm hm2
  have hlen := htl.len
  have hok := htl.ok
  have hno := htl.no
  have hchk := htl.chk
  have hne := levels_ne d m (k == -1) hm hdm
  have HP := Lib.hid hp; clear hp
  have HL := Lib.hid hl; clear hl
  have b0 := ((((Blk.new w 3 [.int .i64 (d : Int)]).alloc (.cells #[.int .i64 k] 3)).alloc (.cells #[.int .i64 0, .int .i64 0, .slice none 0 0] 46)).alloc (.cells #[.int .i64 (m : Int)] 3))
  have b1 := (((Blk.new (w.alloc (.cells #[.int .i64 (d : Int)] 3)) 3 [.int .i64 k]).alloc (.cells #[.int .i64 0, .int .i64 0, .slice none 0 0] 46)).alloc (.cells #[.int .i64 (m : Int)] 3))
  have b2 := ((Blk.new ((w.alloc (.cells #[.int .i64 (d : Int)] 3)).alloc (.cells #[.int .i64 k] 3)) 46 [.int .i64 0, .int .i64 0, .slice none 0 0]).alloc (.cells #[.int .i64 (m : Int)] 3))
  have b3 := (Blk.new (((w.alloc (.cells #[.int .i64 (d : Int)] 3)).alloc (.cells #[.int .i64 k] 3)).alloc (.cells #[.int .i64 0, .int .i64 0, .slice none 0 0] 46)) 3 [.int .i64 (m : Int)])
  have s0 := (((((Below.refl w.heap.size w).alloc (Nat.le_refl _) (.cells #[.int .i64 (d : Int)] 3)).alloc (by simp only [World.size_alloc]; omega) (.cells #[.int .i64 k] 3)).alloc (by simp only [World.size_alloc]; omega) (.cells #[.int .i64 0, .int .i64 0, .slice none 0 0] 46)).alloc (by simp only [World.size_alloc]; omega) (.cells #[.int .i64 (m : Int)] 3))
  simp only [World.size_alloc] at b1 b2 b3
  have hF := levelsF_any d m k _ _ _ _ hm hm2 hdm b3.lt b1.lt b0.lt (b3.cell (j := 0) rfl) (b1.cell (j := 0) rfl) (b0.cell (j := 0) rfl)
  have hcon := build_any (2 * (m : Int)) 54 _ (gL (gV d (k == -1) m) (2 * m)) _ hF (fun args w => enters_of Try.func54 (by kernel_rfl) rfl args w) (by omega) hok hne (by omega) hno hchk
  have HCON := Lib.hid hcon; clear hcon hF hok hno hchk hne htl
  have HB2 := Lib.hid b2
  have HS0 := Lib.hid s0; clear s0 b0 b1 b2 b3
  go_enter Try.func25, Try.ntmps25
  go_wp2_with (first | (go_at_call 41; refine (pair_any _ _ _).mono ?_; rintro e w' ⟨rfl, rfl⟩; rw [HP.out]) | (go_at_call 50; refine (last_any _ _ _).mono ?_; rintro e w' ⟨rfl, rfl⟩; rw [HL.out]) | (go_at_call 51; refine HCON.out.mono ?_; rintro e w3 ⟨hq3, g, cap, rfl, hown3⟩; have hcg3 := HB2.out.keep hq3; have r0 := hcg3.cell (j := 0) rfl; have r1 := hcg3.cell (j := 1) rfl; have r2 := hcg3.cell (j := 2) rfl; have f0 := hcg3.frozen 0; have f1 := hcg3.frozen 1; have f2 := hcg3.frozen 2; clear hcg3; have HQ3 := Lib.hid hq3; clear hq3; have HO3 := Lib.hid hown3; clear hown3))
  have hg3 := (HO3.out.lt g rfl).1
  simp only [World.size_alloc] at hg3
  have s2 := HS0.out.trans (HQ3.out.mono HS0.out.size)
  have hgw : (Value.slice (some ⟨g, 0, none⟩) (gL (gV d (k == -1) m) (2 * m)).length cap).ownBlock ≠ some (w.heap.size + 1 + 1) := fun e => by have h4 := Option.some.inj (show some g = some (w.heap.size + 1 + 1) from e); omega
  have o6 := own_setCell (own_setCell (own_setCell (own_mono HO3.out (base' := w.heap.size) (by simp only [World.size_alloc]; omega)) ⟨w.heap.size + 1 + 1, 0, none⟩ (.int .i64 2) hgw) ⟨w.heap.size + 1 + 1, 1, none⟩ (.int .i64 (2 * (m : Int))) hgw) ⟨w.heap.size + 1 + 1, 2, none⟩ (.slice (some ⟨g, 0, none⟩) (gL (gV d (k == -1) m) (2 * m)).length cap) hgw
  have s6 := ((s2.setCell (p := ⟨w.heap.size + 1 + 1, 0, none⟩) (by simp only []; omega) (.int .i64 2)).setCell (p := ⟨w.heap.size + 1 + 1, 1, none⟩) (by simp only []; omega) (.int .i64 (2 * (m : Int)))).setCell (p := ⟨w.heap.size + 1 + 1, 2, none⟩) (by simp only []; omega) (.slice (some ⟨g, 0, none⟩) (gL (gV d (k == -1) m) (2 * m)).length cap)
  have S6 := Lib.hid s6; clear s2 s6
  have O6 := Lib.hid o6; clear o6
  refine bodyPost_ret (v := .tuple #[.agg #[.int .i64 2, .int .i64 (2 * (m : Int)), .slice (some ⟨g, 0, none⟩) (gL (gV d (k == -1) m) (2 * m)).length cap], .int .i64 0]) (by simp [results, Try.results25, go_sem, *]) rfl ⟨S6.out, g, cap, rfl, O6.out⟩
end Go.Proofs.Ytadibbbaegbljaa

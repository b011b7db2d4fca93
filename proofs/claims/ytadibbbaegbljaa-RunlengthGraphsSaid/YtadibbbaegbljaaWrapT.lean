/- runlength.Transitions as a whole. -/
import Derived.Test.YtadibbbaegbljaaClosT
import Derived.Test.YtadibbbaegbljaaKeep
import Derived.Test.YtadibbbaegbljaaPlainU
namespace Go.Proofs.Ytadibbbaegbljaa
open Go.RowKit

theorem trans_ne (j k : Nat) (hk : 1 ≤ k) : gL (gT2 j k) (j + k) ≠ [] := by
  intro e
  unfold gL at e
  rw [List.flatMap_eq_nil_iff] at e
  have h := e 0 (by simp; omega)
  rw [gT2, if_pos (by omega)] at h
  simp at h
set_option maxRecDepth 100000 in
set_option maxHeartbeats 1600000 in
theorem trans_any (j k : Nat) (w : World) (hj : 1 ≤ j) (hk : 1 ≤ k) (hjk : j + k ≤ 64) :
    Calls Try.prog 29 #[.int .i64 (j : Int), .int .i64 (k : Int)] w (MakeRet w 2 ((j : Int) + (k : Int)) (gL (gT2 j k) (j + k))) := by
  have htl : Tells (j + k) (tT j k) (gL (gT2 j k) (j + k)) := trans_tells j k hj hk hjk
  have hlen := htl.len
  have hok := htl.ok
  have hno := htl.no
  have hchk := htl.chk
  have hne := trans_ne j k hk
  have b0 := (((Blk.new w 3 [.int .i64 (j : Int)]).alloc (.cells #[.int .i64 (k : Int)] 3)).alloc (.cells #[.int .i64 0, .int .i64 0, .slice none 0 0] 46))
  have b1 := ((Blk.new (w.alloc (.cells #[.int .i64 (j : Int)] 3)) 3 [.int .i64 (k : Int)]).alloc (.cells #[.int .i64 0, .int .i64 0, .slice none 0 0] 46))
  have b2 := (Blk.new ((w.alloc (.cells #[.int .i64 (j : Int)] 3)).alloc (.cells #[.int .i64 (k : Int)] 3)) 46 [.int .i64 0, .int .i64 0, .slice none 0 0])
  have s0 := ((((Below.refl w.heap.size w).alloc (Nat.le_refl _) (.cells #[.int .i64 (j : Int)] 3)).alloc (by simp only [World.size_alloc]; omega) (.cells #[.int .i64 (k : Int)] 3)).alloc (by simp only [World.size_alloc]; omega) (.cells #[.int .i64 0, .int .i64 0, .slice none 0 0] 46))
  simp only [World.size_alloc] at b1 b2
  have hF := transF_any j k _ _ _ hj hk hjk b1.lt b0.lt (b1.cell (j := 0) rfl) (b0.cell (j := 0) rfl)
  have hcon := build_any ((j : Int) + (k : Int)) 56 _ (gL (gT2 j k) (j + k)) _ hF (fun args w => enters_of Try.func56 (by kernel_rfl) rfl args w) (by omega) hok hne (by omega) hno hchk
  have HCON := Lib.hid hcon; clear hcon hF hok hno hchk hne htl
  have HB2 := Lib.hid b2
  have HS0 := Lib.hid s0; clear s0 b0 b1 b2
  go_enter Try.func29, Try.ntmps29
  go_wp2_with (first | (go_at_call 51; refine HCON.out.mono ?_; rintro e w3 ⟨hq3, g, cap, rfl, hown3⟩; have hcg3 := HB2.out.keep hq3; have r0 := hcg3.cell (j := 0) rfl; have r1 := hcg3.cell (j := 1) rfl; have r2 := hcg3.cell (j := 2) rfl; have f0 := hcg3.frozen 0; have f1 := hcg3.frozen 1; have f2 := hcg3.frozen 2; clear hcg3; have HQ3 := Lib.hid hq3; clear hq3; have HO3 := Lib.hid hown3; clear hown3))
  have hg3 := (HO3.out.lt g rfl).1
  simp only [World.size_alloc] at hg3
  have s2 := HS0.out.trans (HQ3.out.mono HS0.out.size)
  have hgw : (Value.slice (some ⟨g, 0, none⟩) (gL (gT2 j k) (j + k)).length cap).ownBlock ≠ some (w.heap.size + 1 + 1) := fun e => by have h4 := Option.some.inj (show some g = some (w.heap.size + 1 + 1) from e); omega
  have o6 := own_setCell (own_setCell (own_setCell (own_mono HO3.out (base' := w.heap.size) (by simp only [World.size_alloc]; omega)) ⟨w.heap.size + 1 + 1, 0, none⟩ (.int .i64 2) hgw) ⟨w.heap.size + 1 + 1, 1, none⟩ (.int .i64 ((j : Int) + (k : Int))) hgw) ⟨w.heap.size + 1 + 1, 2, none⟩ (.slice (some ⟨g, 0, none⟩) (gL (gT2 j k) (j + k)).length cap) hgw
  have s6 := ((s2.setCell (p := ⟨w.heap.size + 1 + 1, 0, none⟩) (by simp only []; omega) (.int .i64 2)).setCell (p := ⟨w.heap.size + 1 + 1, 1, none⟩) (by simp only []; omega) (.int .i64 ((j : Int) + (k : Int)))).setCell (p := ⟨w.heap.size + 1 + 1, 2, none⟩) (by simp only []; omega) (.slice (some ⟨g, 0, none⟩) (gL (gT2 j k) (j + k)).length cap)
  have S6 := Lib.hid s6; clear s2 s6
  have O6 := Lib.hid o6; clear o6
  refine bodyPost_ret (v := .tuple #[.agg #[.int .i64 2, .int .i64 ((j : Int) + (k : Int)), .slice (some ⟨g, 0, none⟩) (gL (gT2 j k) (j + k)).length cap], .int .i64 0]) (by simp [results, Try.results29, go_sem, *]) rfl ⟨S6.out, g, cap, rfl, O6.out⟩
end Go.Proofs.Ytadibbbaegbljaa

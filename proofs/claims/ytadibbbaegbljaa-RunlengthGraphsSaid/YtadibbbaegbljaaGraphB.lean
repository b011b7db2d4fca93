/- The contract of runlength.Graph. -/
import Derived.Test.YtadibbbaegbljaaGraph
namespace Go.Proofs.Ytadibbbaegbljaa
open Go.RowKit

set_option maxRecDepth 100000 in
set_option maxHeartbeats 1600000 in
theorem graph_any (d k : Int) (E : Nat) (w : World) (hp : pairB d k = true) (hl : lastI d k = E) (hE : E < 64) (hok : okEs (graphEs d k E)) (hne : graphEs d k E ≠ []) (hno : NoTwins (sortE (graphEs d k E))) (hchk : chk 2 ((E : Int) + 1) (sortE (graphEs d k E)) = 0) :
    Calls Try.prog 23 #[.int .i64 d, .int .i64 k] w (MakeRet w 2 ((E : Int) + 1) (graphEs d k E)) := by
  have hlen : (graphEs d k E).length ≤ 1000000 := by
    have h1 := gList_length d ((E : Int) + 1) (E + 1)
    unfold graphEs
    split
    · have := addTo_length ((E : Int) + 1) (gList d ((E : Int) + 1) (E + 1)) ⟨E, 0, E⟩; omega
    · omega
  have hE64 : decide ((64 : Int) ≤ (E : Int)) = false := by simp; omega
  have hE64' : decide (64 ≤ E) = false := by simp; omega
  have HP := Lib.hid hp; clear hp
  have HL := Lib.hid hl; clear hl
  have HOK := Lib.hid hok; clear hok
  have HNE := Lib.hid hne; clear hne
  have HNO := Lib.hid hno; clear hno
  have HCH := Lib.hid hchk; clear hchk
  have hd0 : 0 ≤ d := by have h := HP.out; simp [pairB] at h; omega
  have b0 := (((Blk.new w 3 [.int .i64 d]).alloc (.cells #[.int .i64 k] 3)).alloc (.cells #[.int .i64 0, .int .i64 0, .slice none 0 0] 46)).alloc (.cells #[.int .i64 E] 3)
  have b1 := ((Blk.new (w.alloc (.cells #[.int .i64 d] 3)) 3 [.int .i64 k]).alloc (.cells #[.int .i64 0, .int .i64 0, .slice none 0 0] 46)).alloc (.cells #[.int .i64 E] 3)
  have b2 := (Blk.new ((w.alloc (.cells #[.int .i64 d] 3)).alloc (.cells #[.int .i64 k] 3)) 46 [.int .i64 0, .int .i64 0, .slice none 0 0]).alloc (.cells #[.int .i64 E] 3)
  have b3 := Blk.new (((w.alloc (.cells #[.int .i64 d] 3)).alloc (.cells #[.int .i64 k] 3)).alloc (.cells #[.int .i64 0, .int .i64 0, .slice none 0 0] 46)) 3 [.int .i64 E]
  have s0 := (((((Below.refl w.heap.size w).alloc (Nat.le_refl _) (.cells #[.int .i64 d] 3)).alloc (by simp) (.cells #[.int .i64 k] 3)).alloc (by simp only [World.size_alloc]; omega) (.cells #[.int .i64 0, .int .i64 0, .slice none 0 0] 46)).alloc (by simp only [World.size_alloc]; omega) (.cells #[.int .i64 E] 3))
  simp only [World.size_alloc] at b1 b2 b3
  have hF := graphF_any d k E _ _ _ _ (by omega) hd0 b3.lt b0.lt b1.lt (b3.cell (j := 0) rfl) (b0.cell (j := 0) rfl) (b1.cell (j := 0) rfl)
  have hcon := build_any ((E : Int) + 1) 52 _ (graphEs d k E) _ hF (fun args w => enters_of Try.func52 (by kernel_rfl) rfl args w) (by omega) HOK.out HNE.out hlen HNO.out HCH.out
  have HCON := Lib.hid hcon; clear hcon hF b0 b1 b3
  have HB2 := Lib.hid b2; clear b2
  have HS0 := Lib.hid s0; clear s0
  go_enter Try.func23, Try.ntmps23
  go_wp2_with (first | (go_at_call 41; refine (pair_any _ _ _).mono ?_; rintro e w' ⟨rfl, rfl⟩; rw [HP.out]) | (go_at_call 50; refine (last_any _ _ _).mono ?_; rintro e w' ⟨rfl, rfl⟩; rw [HL.out]) | (go_at_call 51; refine HCON.out.mono ?_; rintro e w3 ⟨hq3, g, cap, rfl, hown3⟩; have hcg3 := HB2.out.below hq3 (by simp); have r0 := hcg3.cell (j := 0) rfl; have r1 := hcg3.cell (j := 1) rfl; have r2 := hcg3.cell (j := 2) rfl; have f0 := hcg3.frozen 0; have f1 := hcg3.frozen 1; have f2 := hcg3.frozen 2; clear hcg3; have HQ3 := Lib.hid hq3; clear hq3; have HO3 := Lib.hid hown3; clear hown3))
  have hg3 := (HO3.out.lt g rfl).1
  simp only [World.size_alloc] at hg3
  have s2 := HS0.out.trans (HQ3.out.mono HS0.out.size)
  have hgw : (Value.slice (some ⟨g, 0, none⟩) (graphEs d k E).length cap).ownBlock ≠ some (w.heap.size + 1 + 1) := fun e => by have h4 := Option.some.inj (show some g = some (w.heap.size + 1 + 1) from e); omega
  have o6 := own_setCell (own_setCell (own_setCell (own_mono HO3.out (base' := w.heap.size) (by simp only [World.size_alloc]; omega)) ⟨w.heap.size + 1 + 1, 0, none⟩ (.int .i64 2) hgw) ⟨w.heap.size + 1 + 1, 1, none⟩ (.int .i64 ((E : Int) + 1)) hgw) ⟨w.heap.size + 1 + 1, 2, none⟩ (.slice (some ⟨g, 0, none⟩) (graphEs d k E).length cap) hgw
  have s6 := ((s2.setCell (p := ⟨w.heap.size + 1 + 1, 0, none⟩) (by simp only []; omega) (.int .i64 2)).setCell (p := ⟨w.heap.size + 1 + 1, 1, none⟩) (by simp only []; omega) (.int .i64 ((E : Int) + 1))).setCell (p := ⟨w.heap.size + 1 + 1, 2, none⟩) (by simp only []; omega) (.slice (some ⟨g, 0, none⟩) (graphEs d k E).length cap)
  have S6 := Lib.hid s6; clear s2 s6
  have O6 := Lib.hid o6; clear o6
  refine bodyPost_ret (v := .tuple #[.agg #[.int .i64 2, .int .i64 ((E : Int) + 1), .slice (some ⟨g, 0, none⟩) (graphEs d k E).length cap], .int .i64 0]) (by simp [results, Try.results23, go_sem, *]) rfl ⟨S6.out, g, cap, rfl, O6.out⟩
end Go.Proofs.Ytadibbbaegbljaa

/- The errors of the run-length graphs. -/
import Derived.Test.YtadibbbaegbljaaRun
import Derived.Test.YtadibbbaegbljaaKeep
import Derived.Test.YtadibbbaegbljaaBuild
namespace Go.Proofs.Ytadibbbaegbljaa
open Go.RowKit

/-- A graph, or the empty one, and an error. -/
def GOut (L S : Int) (es : List E3) (err : Int) (w : World) (e : Ending) (w' : World) : Prop :=
  Below w.heap.size w w' ∧ ∃ v, e = .returned (.tuple #[.agg #[.int .i64 L, .int .i64 S, v], .int .i64 err]) ∧ Row w' v es.length (ce es)
set_option maxRecDepth 100000 in
set_option maxHeartbeats 800000 in
theorem graph_no2 (d k : Int) (w : World) (hp : pairB d k = false) :
    Calls Try.prog 23 #[.int .i64 d, .int .i64 k] w (GOut 0 0 [] 2 w) := by
  have HP := Lib.hid hp; clear hp
  go_enter Try.func23, Try.ntmps23
  go_wp2_with (first | (go_at_call 41; refine (pair_any _ _ _).mono ?_; rintro e w' ⟨rfl, rfl⟩; rw [HP.out]))
  refine bodyPost_ret (v := .tuple #[.agg #[.int .i64 0, .int .i64 0, .slice none 0 0], .int .i64 2]) (by simp [results, Try.results23, go_sem]) rfl ⟨?_, _, rfl, Row.nil _⟩
  repeat (first | exact Below.refl _ _ | refine Below.alloc ?_ (by simp <;> omega) _)
set_option maxRecDepth 100000 in
set_option maxHeartbeats 800000 in
theorem graph_no4 (d k : Int) (w : World) (hp : pairB d k = true) (hl : 64 ≤ lastI d k) :
    Calls Try.prog 23 #[.int .i64 d, .int .i64 k] w (GOut 0 0 [] 4 w) := by
  have HP := Lib.hid hp; clear hp
  obtain ⟨z, hz⟩ : ∃ z, z = lastI d k := ⟨_, rfl⟩
  have hla := fun w' => last_any d k w'
  simp only [← hz] at hla
  rw [← hz] at hl
  have HLA := Lib.hid hla; clear hla hz
  go_enter Try.func23, Try.ntmps23
  go_wp2_with (first | (go_at_call 41; refine (pair_any _ _ _).mono ?_; rintro e w' ⟨rfl, rfl⟩; rw [HP.out]) | (go_at_call 50; refine (HLA.out _).mono ?_; rintro e w' ⟨rfl, rfl⟩))
  refine bodyPost_ret (v := .tuple #[.agg #[.int .i64 0, .int .i64 0, .slice none 0 0], .int .i64 4]) (by simp [results, Try.results23, go_sem]) rfl ⟨?_, _, rfl, Row.nil _⟩
  repeat (first | exact Below.refl _ _ | refine Below.alloc ?_ (by simp <;> omega) _)
set_option maxRecDepth 100000 in
set_option maxHeartbeats 800000 in
theorem levels_no2 (d k : Int) (w : World) (hp : pairB d k = false) :
    Calls Try.prog 25 #[.int .i64 d, .int .i64 k] w (GOut 0 0 [] 2 w) := by
  have HP := Lib.hid hp; clear hp
  go_enter Try.func25, Try.ntmps25
  go_wp2_with (first | (go_at_call 41; refine (pair_any _ _ _).mono ?_; rintro e w' ⟨rfl, rfl⟩; rw [HP.out]))
  refine bodyPost_ret (v := .tuple #[.agg #[.int .i64 0, .int .i64 0, .slice none 0 0], .int .i64 2]) (by simp [results, Try.results25, go_sem]) rfl ⟨?_, _, rfl, Row.nil _⟩
  repeat (first | exact Below.refl _ _ | refine Below.alloc ?_ (by simp <;> omega) _)
set_option maxRecDepth 100000 in
set_option maxHeartbeats 800000 in
theorem levels_no4 (d k : Int) (w : World) (hp : pairB d k = true) (hl : 64 ≤ lastI d k) :
    Calls Try.prog 25 #[.int .i64 d, .int .i64 k] w (GOut 0 0 [] 4 w) := by
  have HP := Lib.hid hp; clear hp
  obtain ⟨z, hz⟩ : ∃ z, z = lastI d k := ⟨_, rfl⟩
  have hla := fun w' => last_any d k w'
  simp only [← hz] at hla
  rw [← hz] at hl
  have HLA := Lib.hid hla; clear hla hz
  go_enter Try.func25, Try.ntmps25
  go_wp2_with (first | (go_at_call 41; refine (pair_any _ _ _).mono ?_; rintro e w' ⟨rfl, rfl⟩; rw [HP.out]) | (go_at_call 50; refine (HLA.out _).mono ?_; rintro e w' ⟨rfl, rfl⟩))
  refine bodyPost_ret (v := .tuple #[.agg #[.int .i64 0, .int .i64 0, .slice none 0 0], .int .i64 4]) (by simp [results, Try.results25, go_sem]) rfl ⟨?_, _, rfl, Row.nil _⟩
  repeat (first | exact Below.refl _ _ | refine Below.alloc ?_ (by simp <;> omega) _)
set_option maxRecDepth 100000 in
set_option maxHeartbeats 800000 in
theorem spaced_no2 (d k st : Int) (w : World) (h : d < 0 ∨ (0 ≤ d ∧ k < d) ∨ (0 ≤ d ∧ d ≤ k ∧ st < 1)) :
    Calls Try.prog 27 #[.int .i64 d, .int .i64 k, .int .i64 st] w (GOut 0 0 [] 2 w) := by
  rcases h with h | ⟨h1, h2⟩ | ⟨h1, h2, h3⟩
  · go_enter Try.func27, Try.ntmps27
    go_wp2_with fail
    refine bodyPost_ret (v := .tuple #[.agg #[.int .i64 0, .int .i64 0, .slice none 0 0], .int .i64 2]) (by simp [results, Try.results27, go_sem]) rfl ⟨?_, _, rfl, Row.nil _⟩
    repeat (first | exact Below.refl _ _ | refine Below.alloc ?_ (by simp <;> omega) _)
  · go_enter Try.func27, Try.ntmps27
    go_wp2_with fail
    refine bodyPost_ret (v := .tuple #[.agg #[.int .i64 0, .int .i64 0, .slice none 0 0], .int .i64 2]) (by simp [results, Try.results27, go_sem]) rfl ⟨?_, _, rfl, Row.nil _⟩
    repeat (first | exact Below.refl _ _ | refine Below.alloc ?_ (by simp <;> omega) _)
  · go_enter Try.func27, Try.ntmps27
    go_wp2_with fail
    refine bodyPost_ret (v := .tuple #[.agg #[.int .i64 0, .int .i64 0, .slice none 0 0], .int .i64 2]) (by simp [results, Try.results27, go_sem]) rfl ⟨?_, _, rfl, Row.nil _⟩
    repeat (first | exact Below.refl _ _ | refine Below.alloc ?_ (by simp <;> omega) _)
set_option maxRecDepth 100000 in
set_option maxHeartbeats 800000 in
theorem spaced_no4 (d k st : Int) (w : World) (h0 : 0 ≤ d) (h1 : d ≤ k) (hk : k ≤ 9223372036854775807) (h2 : 1 ≤ st) (h3 : 64 ≤ k - (k - d) % st) :
    Calls Try.prog 27 #[.int .i64 d, .int .i64 k, .int .i64 st] w (GOut 0 0 [] 4 w) := by
  have h4 : (0 : Int) ≤ k - d := by omega
  have h5 := Int.emod_nonneg (k - d) (show st ≠ 0 by omega)
  obtain ⟨z, hz⟩ : ∃ z, z = (k - d) % st := ⟨_, rfl⟩
  rw [← hz] at h3 h5
  have hz' := hz.symm
  clear hz
  go_enter Try.func27, Try.ntmps27
  go_wp2_with fail
  refine bodyPost_ret (v := .tuple #[.agg #[.int .i64 0, .int .i64 0, .slice none 0 0], .int .i64 4]) (by simp [results, Try.results27, go_sem]) rfl ⟨?_, _, rfl, Row.nil _⟩
  repeat (first | exact Below.refl _ _ | refine Below.alloc ?_ (by simp <;> omega) _)
set_option maxRecDepth 100000 in
set_option maxHeartbeats 800000 in
theorem trans_no2 (j k : Int) (w : World) (h : j < 1 ∨ (1 ≤ j ∧ k < 1)) :
    Calls Try.prog 29 #[.int .i64 j, .int .i64 k] w (GOut 0 0 [] 2 w) := by
  rcases h with h | ⟨h1, h2⟩
  · go_enter Try.func29, Try.ntmps29
    go_wp2_with fail
    refine bodyPost_ret (v := .tuple #[.agg #[.int .i64 0, .int .i64 0, .slice none 0 0], .int .i64 2]) (by simp [results, Try.results29, go_sem]) rfl ⟨?_, _, rfl, Row.nil _⟩
    repeat (first | exact Below.refl _ _ | refine Below.alloc ?_ (by simp <;> omega) _)
  · go_enter Try.func29, Try.ntmps29
    go_wp2_with fail
    refine bodyPost_ret (v := .tuple #[.agg #[.int .i64 0, .int .i64 0, .slice none 0 0], .int .i64 2]) (by simp [results, Try.results29, go_sem]) rfl ⟨?_, _, rfl, Row.nil _⟩
    repeat (first | exact Below.refl _ _ | refine Below.alloc ?_ (by simp <;> omega) _)
set_option maxRecDepth 100000 in
set_option maxHeartbeats 800000 in
theorem trans_no4 (j k : Int) (w : World) (h1 : 1 ≤ j) (h2 : 1 ≤ k) (h : 64 < j ∨ (j ≤ 64 ∧ 64 < k)) :
    Calls Try.prog 29 #[.int .i64 j, .int .i64 k] w (GOut 0 0 [] 4 w) := by
  rcases h with h | ⟨h3, h4⟩
  · go_enter Try.func29, Try.ntmps29
    go_wp2_with fail
    refine bodyPost_ret (v := .tuple #[.agg #[.int .i64 0, .int .i64 0, .slice none 0 0], .int .i64 4]) (by simp [results, Try.results29, go_sem]) rfl ⟨?_, _, rfl, Row.nil _⟩
    repeat (first | exact Below.refl _ _ | refine Below.alloc ?_ (by simp <;> omega) _)
  · go_enter Try.func29, Try.ntmps29
    go_wp2_with fail
    refine bodyPost_ret (v := .tuple #[.agg #[.int .i64 0, .int .i64 0, .slice none 0 0], .int .i64 4]) (by simp [results, Try.results29, go_sem]) rfl ⟨?_, _, rfl, Row.nil _⟩
    repeat (first | exact Below.refl _ _ | refine Below.alloc ?_ (by simp <;> omega) _)
set_option maxRecDepth 100000 in
set_option maxHeartbeats 800000 in
theorem build_no (S : Int) (fv : Value) (w : World) (h : 64 < S) :
    Calls Try.prog 51 #[.int .i64 S, fv] w (Ret w (.tuple #[.agg #[.int .i64 0, .int .i64 0, .slice none 0 0], .int .i64 4])) := by
  go_enter Try.func51, Try.ntmps51
  go_wp2_with fail
  refine bodyPost_ret (v := .tuple #[.agg #[.int .i64 0, .int .i64 0, .slice none 0 0], .int .i64 4]) (by simp [results, Try.results51, go_sem]) rfl ⟨?_, rfl⟩
  repeat (first | exact Below.refl _ _ | refine Below.alloc ?_ (by simp <;> omega) _)
set_option maxRecDepth 100000 in
set_option maxHeartbeats 800000 in
theorem levels_long (d k m : Int) (w : World) (hp : pairB d k = true) (hl : lastI d k = m - 1) (h1 : m ≤ 64) (h2 : 64 < 2 * m) :
    Calls Try.prog 25 #[.int .i64 d, .int .i64 k] w (GOut 0 0 [] 4 w) := by
  have HP := Lib.hid hp; clear hp
  have HL := Lib.hid hl; clear hl
  have b2 := ((Blk.new ((w.alloc (.cells #[.int .i64 d] 3)).alloc (.cells #[.int .i64 k] 3)) 46 [.int .i64 0, .int .i64 0, .slice none 0 0]).alloc (.cells #[.int .i64 m] 3))
  simp only [World.size_alloc] at b2
  have HB2 := Lib.hid b2; clear b2
  have s0 := (((((Below.refl w.heap.size w).alloc (Nat.le_refl _) (.cells #[.int .i64 d] 3)).alloc (by simp only [World.size_alloc]; omega) (.cells #[.int .i64 k] 3)).alloc (by simp only [World.size_alloc]; omega) (.cells #[.int .i64 0, .int .i64 0, .slice none 0 0] 46)).alloc (by simp only [World.size_alloc]; omega) (.cells #[.int .i64 m] 3))
  have HS0 := Lib.hid s0; clear s0
  go_enter Try.func25, Try.ntmps25
  go_wp2_with (first | (go_at_call 41; refine (pair_any _ _ _).mono ?_; rintro e w' ⟨rfl, rfl⟩; rw [HP.out]) | (go_at_call 50; refine (last_any _ _ _).mono ?_; rintro e w' ⟨rfl, rfl⟩; rw [HL.out]) | (go_at_call 51; refine (build_no _ _ _ ?_).mono ?_; omega; rintro e w3 ⟨hq3, rfl⟩; have hcg3 := HB2.out.keep hq3; have r0 := hcg3.cell (j := 0) rfl; have r1 := hcg3.cell (j := 1) rfl; have r2 := hcg3.cell (j := 2) rfl; have f0 := hcg3.frozen 0; have f1 := hcg3.frozen 1; have f2 := hcg3.frozen 2; clear hcg3; have HQ3 := Lib.hid hq3; clear hq3))
  have s2 := HS0.out.trans (HQ3.out.mono HS0.out.size)
  have s6 := ((s2.setCell (p := ⟨w.heap.size + 1 + 1, 0, none⟩) (by simp only []; omega) (.int .i64 0)).setCell (p := ⟨w.heap.size + 1 + 1, 1, none⟩) (by simp only []; omega) (.int .i64 0)).setCell (p := ⟨w.heap.size + 1 + 1, 2, none⟩) (by simp only []; omega) (.slice none 0 0)
  have S6 := Lib.hid s6; clear s2 s6
  refine bodyPost_ret (v := .tuple #[.agg #[.int .i64 0, .int .i64 0, .slice none 0 0], .int .i64 4]) (by simp [results, Try.results25, go_sem, *]) rfl ⟨S6.out, _, rfl, Row.nil _⟩
set_option maxRecDepth 100000 in
set_option maxHeartbeats 800000 in
theorem trans_long (j k : Int) (w : World) (h1 : 1 ≤ j) (h2 : 1 ≤ k) (h3 : j ≤ 64) (h4 : k ≤ 64) (h5 : 64 < j + k) :
    Calls Try.prog 29 #[.int .i64 j, .int .i64 k] w (GOut 0 0 [] 4 w) := by
  have b2 := (Blk.new ((w.alloc (.cells #[.int .i64 j] 3)).alloc (.cells #[.int .i64 k] 3)) 46 [.int .i64 0, .int .i64 0, .slice none 0 0])
  simp only [World.size_alloc] at b2
  have HB2 := Lib.hid b2; clear b2
  have s0 := ((((Below.refl w.heap.size w).alloc (Nat.le_refl _) (.cells #[.int .i64 j] 3)).alloc (by simp only [World.size_alloc]; omega) (.cells #[.int .i64 k] 3)).alloc (by simp only [World.size_alloc]; omega) (.cells #[.int .i64 0, .int .i64 0, .slice none 0 0] 46))
  have HS0 := Lib.hid s0; clear s0
  go_enter Try.func29, Try.ntmps29
  go_wp2_with (first | (go_at_call 51; refine (build_no _ _ _ ?_).mono ?_; omega; rintro e w3 ⟨hq3, rfl⟩; have hcg3 := HB2.out.keep hq3; have r0 := hcg3.cell (j := 0) rfl; have r1 := hcg3.cell (j := 1) rfl; have r2 := hcg3.cell (j := 2) rfl; have f0 := hcg3.frozen 0; have f1 := hcg3.frozen 1; have f2 := hcg3.frozen 2; clear hcg3; have HQ3 := Lib.hid hq3; clear hq3))
  have s2 := HS0.out.trans (HQ3.out.mono HS0.out.size)
  have s6 := ((s2.setCell (p := ⟨w.heap.size + 1 + 1, 0, none⟩) (by simp only []; omega) (.int .i64 0)).setCell (p := ⟨w.heap.size + 1 + 1, 1, none⟩) (by simp only []; omega) (.int .i64 0)).setCell (p := ⟨w.heap.size + 1 + 1, 2, none⟩) (by simp only []; omega) (.slice none 0 0)
  have S6 := Lib.hid s6; clear s2 s6
  refine bodyPost_ret (v := .tuple #[.agg #[.int .i64 0, .int .i64 0, .slice none 0 0], .int .i64 4]) (by simp [results, Try.results29, go_sem, *]) rfl ⟨S6.out, _, rfl, Row.nil _⟩
end Go.Proofs.Ytadibbbaegbljaa

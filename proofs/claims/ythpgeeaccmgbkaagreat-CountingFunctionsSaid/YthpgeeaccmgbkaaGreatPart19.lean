/- Contracts and plain laws of several functions, one after the other: Total, RPath, OrbC, AwkP22, AwkC22. -/
import Derived.Test.YthpgeeaccmgbkaaGreatFrom
import Derived.Test.YthpgeeaccmgbkaaGreatPart6
import Derived.Test.YthpgeeaccmgbkaaGreatPart2
import Derived.Test.YthpgeeaccmgbkaaGreatR22E
import Derived.Test.YthpgeeaccmgbkaaGreatPart14
import Derived.Test.YthpgeeaccmgbkaaGreatOrb
import Derived.Test.YthpgeeaccmgbkaaGreatSer
import Derived.Test.YthpgeeaccmgbkaaGreatDivN
/- counting.sum, counting.Total. -/
namespace Go.Proofs.YthpgeeaccmgbkaaGreat
open Go.RowKit

end Go.Proofs.YthpgeeaccmgbkaaGreat

/- grooveref22.Paths, From, Total, closed, Closed where they answer. -/
namespace Go.Proofs.YthpgeeaccmgbkaaGreat
open Go.RowKit

theorem all_unit (S : Nat) : ∀ s : Nat, s < S → allP (s : Int) = (decide ((s : Int) = -1) || decide ((-1 : Int) < 0)) := fun s _ => by simp [allP]
end Go.Proofs.YthpgeeaccmgbkaaGreat

/- counting.Orbits as a call. -/
namespace Go.Proofs.YthpgeeaccmgbkaaGreat
open Go.RowKit

theorem orbits_any (L : Int) (S N : Nat) (es : List E3) (v : Value) (q r : Int) (w : World) (hr : Row w v es.length (ce es)) (hok : okEs es) (hc : chk L (S : Int) es = 0) (hS : S ≤ 32) (hN1 : 1 ≤ N) (hN : N ≤ 4096)
    (hdiv : ∀ w', Calls Tryz.prog 46 #[IntV (oS (clN es S) (fun x : Nat × Int => x) (divL N N)), IntV (N : Int)] w' (Ret w' (.tuple #[IntV q, IntV r, .int .i64 0]))) :
    Calls Tryz.prog 16 #[.agg #[.int .i64 L, .int .i64 (S : Int), v], .int .i64 (N : Int)] w (Ret w (.tuple #[IntV q, .int .i64 0])) :=
  (callsIn_wide (n := 8)).1 (orbits_in L S N es v q r w hr hok hc hS hN1 hN hdiv)
end Go.Proofs.YthpgeeaccmgbkaaGreat

/- The example of groovelaw22.awake, in numbers. -/
namespace Go.Proofs.YthpgeeaccmgbkaaGreat

def kE : List E3 := [⟨0, 0, 0⟩, ⟨0, 1, 1⟩, ⟨1, 0, 0⟩]
def kC (j : Nat) : Int := if j = 0 then 1 else if j ≤ 2 then -1 else 0
theorem k_chk : chk 2 ((2 : Nat) : Int) kE = 0 := by decide +kernel
theorem k_row : rowK kE 2 allP 3 = [5, 3] := by decide +kernel
theorem k_closed : clN kE 2 3 = 4 := by decide +kernel
theorem k_A : matF 2 2 (adjF kE) = [[1, 1], [1, 0]] := by decide +kernel
theorem k_ch0 : chM [[1, 1], [1, 0]] 2 kC 0 = [[1, 0], [0, 1]] := by decide +kernel
theorem k_ch1 : chM [[1, 1], [1, 0]] 2 kC 1 = [[0, 1], [1, -1]] := by decide +kernel
theorem k_tr0 : trM (nxM [[1, 1], [1, 0]] 2 kC 0) 2 = 1 := by decide +kernel
theorem k_tr1 : trM (nxM [[1, 1], [1, 0]] 2 kC 1) 2 = 2 := by decide +kernel
theorem k_den : tzI (pL kC 2 3).reverse = [1, -1, -1] := by decide +kernel
theorem k_num : tzI (numL (pL kC 2 3).reverse (bL kE 0 2) 2) = [1, 1] := by decide +kernel
theorem k_orb : oS (clN kE 2) (fun x : Nat × Int => x) (divL 3 3) = 3 := by decide +kernel
theorem sm2_of {z : Int} (h : z.natAbs < 65536) : sm 2 z := by
  unfold sm
  have h2 : (256 : Nat) ^ 2 = 65536 := by decide
  omega
theorem k_ok (M : List (List Int)) (h : M.length = 2 ∧ (∀ r ∈ M, r.length = 2) ∧ ∀ r ∈ M, ∀ z ∈ r, z.natAbs < 65536) : MatOk M 2 2 2 where
  len := h.1
  row := h.2.1
  sm := fun r hr z hz => sm2_of (h.2.2 r hr z hz)
theorem k_ch : ∀ j, j < 2 → MatOk (chM (matF 2 2 (adjF kE)) 2 kC j) 2 2 2 := by
  intro j hj
  rw [k_A]
  match j, hj with
  | 0, _ => rw [k_ch0]; exact k_ok _ (by decide)
  | 1, _ => rw [k_ch1]; exact k_ok _ (by decide)
theorem k_c : ∀ j, j ≤ 2 → sm 2 (kC j) := by
  intro j hj
  refine sm2_of ?_
  unfold kC
  split
  · decide
  · decide
end Go.Proofs.YthpgeeaccmgbkaaGreat

/- The calls of groovelaw22.awake at its example. -/
namespace Go.Proofs.YthpgeeaccmgbkaaGreat
open Go.RowKit

theorem k_okEs : okEs kE := by
  intro e he
  simp only [kE, List.mem_cons, List.not_mem_nil, or_false] at he
  rcases he with rfl | rfl | rfl <;> (unfold E3.ok Ints; decide)
theorem k_from (v : Value) (w : World) (hr : Row w v 3 (ce kE)) : Calls Tryz.prog 10 #[.agg #[.int .i64 2, .int .i64 2, v], .int .i64 3] w (FromRet 2 [5, 3] w) := by
  have h := cfrom_ok 2 2 3 kE v w hr k_okEs k_chk (by omega)
  rw [k_row] at h
  exact h
theorem k_closedC (v : Value) (w : World) (hr : Row w v 3 (ce kE)) : Calls Tryz.prog 14 #[.agg #[.int .i64 2, .int .i64 2, v], .int .i64 3] w (Ret w (.tuple #[IntV 4, .int .i64 0])) := by
  have h := Closed_ok 2 2 3 kE v w hr k_okEs k_chk (by omega) (by omega)
  rw [k_closed] at h
  exact h
theorem k_orbits (v : Value) (w : World) (hr : Row w v 3 (ce kE)) : Calls Tryz.prog 16 #[.agg #[.int .i64 2, .int .i64 2, v], .int .i64 3] w (Ret w (.tuple #[IntV 1, .int .i64 0])) := by
  refine orbits_any 2 2 3 kE v 1 0 w hr k_okEs k_chk (by omega) (by omega) (by omega) (fun w' => ?_)
  rw [k_orb]
  exact div_one 3 3 w' (by omega) (by omega) (by omega)
theorem k_series (v : Value) (w : World) (hr : Row w v 3 (ce kE)) : Calls Tryz.prog 20 #[.agg #[.int .i64 2, .int .i64 2, v], .int .i64 0] w
    (fun e w' => Below w.heap.size w w' ∧ ∃ a b, e = .returned (.tuple #[a, b, .int .i64 0]) ∧ Row w' a 2 (civ [1, 1]) ∧ Row w' b 3 (civ [1, -1, -1])) := by
  have h := series_any 2 2 0 2 kE v kC (fun _ => 0) w hr k_okEs k_chk (by omega) (by omega) (by omega) (by omega) k_ch k_c (fun j hj w' => by
    rw [k_A]
    match j, hj with
    | 0, _ =>
      rw [k_tr0]
      exact div_neg 1 1 w' (by omega) (by omega) (by omega) (by omega) (by omega)
    | 1, _ =>
      rw [k_tr1]
      exact div_neg 2 2 w' (by omega) (by omega) (by omega) (by omega) (by omega))
  refine h.mono ?_
  rintro e w' ⟨h1, a, b, h2, h3, h4⟩
  rw [k_num] at h3
  rw [k_den] at h4
  exact ⟨h1, a, b, h2, h3, h4⟩
end Go.Proofs.YthpgeeaccmgbkaaGreat


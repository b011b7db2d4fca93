/-
  No cell of these rows narrows 'for every input' (looked for: loops, veiled, ifaces, maps, wideKeys, modest, calm, conditions, laid).
  DERIVED. THE GIVEN ROWS OF THIS SEAT. 6 by the template 'for every input the law returns true; each argument reads behind the call as it read before'; 0 by the template 'total and deterministic' (their statements: YthpgeeaccmgbkaaTotals.lean).
  GIVEN WITH THE SEED: the statements are not yours to turn. If you find one false, say at which input.
  Laid BY PROGRAM, IN A SANDBOX (cutbox-rows.mjs): the forced cells as the released guide's own fill.sh prints them over the translation 1c077b222fe6e043… (all of the seat's roots in one cut). By AI agents, Wed Nov 11 2026. No macro, syntax, notation, axiom, sorry.
-/
import Derived.Test.YthpgeeaccmgbkaaChecked
import GoSem.Claim
import GoSem.ClaimJoined
import GoSem.ClaimMapViews
import Derived.JoinedTies
import Derived.KernelRfl
namespace Go.Proofs.Ythpgeeaccmgbkaa
/- THE CELL 'sum', in the pinned program and in every row, IS THE sha256 OF THE DUMP (.gsa) THAT YthpgeeaccmgbkaaProg.lean LOADS. Nothing in Lean hashes anything: it is a label: what it is worth is what the hold of that sum in a sandbox is worth. -/
noncomputable def Try.pinned : Pinned := { name := "ythpgeeaccmgbkaa", sum := "1c077b222fe6e043d53b4577e45b5bb4a2120e3064bf6d604177bdf6a0d1d6c0", checked := Try.checked }
namespace Rows
def none {H : Type} : Left H := { results := [], args := [] }

/-- 'groovelaw22.CountingOrbits': WHATEVER THE INPUT: true; the input reads as it did. -/
def countingOrbitsSpec : ChangeSpec := { name := "countingOrbits", fn := fun _ => fun
  | [d1, d2] => { results := [.lit (.bool true)], args := [d1, d2] }
  | _ => none }
def countingOrbitsRow : OpenClaim := { program := "ythpgeeaccmgbkaa", sum := "1c077b222fe6e043d53b4577e45b5bb4a2120e3064bf6d604177bdf6a0d1d6c0", func := "groove/groovelaw22.CountingOrbits", spec := "countingOrbits", unfollowed := true, recurses := true, apart := false }
def CountingOrbitsSaid : Prop := countingOrbitsRow.holds Try.pinned (OpenSpec.ofChange countingOrbitsSpec)

/-- ITS FALSE NEIGHBOUR: 'it returns false'. Refute it at one input. -/
def countingOrbitsWrong : ChangeSpec := { name := "countingOrbits", fn := fun _ => fun
  | [d1, d2] => { results := [.lit (.bool false)], args := [d1, d2] }
  | _ => none }
def CountingOrbitsWrongFalsely : Prop := countingOrbitsRow.holds Try.pinned (OpenSpec.ofChange countingOrbitsWrong)

/-- 'groovelaw22.CountingComposes': WHATEVER THE INPUT: true; the input reads as it did. -/
def countingComposesSpec : ChangeSpec := { name := "countingComposes", fn := fun _ => fun
  | [d1, d2, d3, d4, d5] => { results := [.lit (.bool true)], args := [d1, d2, d3, d4, d5] }
  | _ => none }
def countingComposesRow : OpenClaim := { program := "ythpgeeaccmgbkaa", sum := "1c077b222fe6e043d53b4577e45b5bb4a2120e3064bf6d604177bdf6a0d1d6c0", func := "groove/groovelaw22.CountingComposes", spec := "countingComposes", unfollowed := true, recurses := true, apart := false }
def CountingComposesSaid : Prop := countingComposesRow.holds Try.pinned (OpenSpec.ofChange countingComposesSpec)

/-- ITS FALSE NEIGHBOUR: 'it returns false'. Refute it at one input. -/
def countingComposesWrong : ChangeSpec := { name := "countingComposes", fn := fun _ => fun
  | [d1, d2, d3, d4, d5] => { results := [.lit (.bool false)], args := [d1, d2, d3, d4, d5] }
  | _ => none }
def CountingComposesWrongFalsely : Prop := countingComposesRow.holds Try.pinned (OpenSpec.ofChange countingComposesWrong)

/-- 'groovelaw22.CountingSeries': WHATEVER THE INPUT: true; the input reads as it did. -/
def countingSeriesSpec : ChangeSpec := { name := "countingSeries", fn := fun _ => fun
  | [d1, d2] => { results := [.lit (.bool true)], args := [d1, d2] }
  | _ => none }
def countingSeriesRow : OpenClaim := { program := "ythpgeeaccmgbkaa", sum := "1c077b222fe6e043d53b4577e45b5bb4a2120e3064bf6d604177bdf6a0d1d6c0", func := "groove/groovelaw22.CountingSeries", spec := "countingSeries", unfollowed := true, recurses := true, apart := false }
def CountingSeriesSaid : Prop := countingSeriesRow.holds Try.pinned (OpenSpec.ofChange countingSeriesSpec)

/-- ITS FALSE NEIGHBOUR: 'it returns false'. Refute it at one input. -/
def countingSeriesWrong : ChangeSpec := { name := "countingSeries", fn := fun _ => fun
  | [d1, d2] => { results := [.lit (.bool false)], args := [d1, d2] }
  | _ => none }
def CountingSeriesWrongFalsely : Prop := countingSeriesRow.holds Try.pinned (OpenSpec.ofChange countingSeriesWrong)

/-- 'groovelaw22.CountingExpands': WHATEVER THE INPUT: true; the input reads as it did. -/
def countingExpandsSpec : ChangeSpec := { name := "countingExpands", fn := fun _ => fun
  | [d1, d2, d3] => { results := [.lit (.bool true)], args := [d1, d2, d3] }
  | _ => none }
def countingExpandsRow : OpenClaim := { program := "ythpgeeaccmgbkaa", sum := "1c077b222fe6e043d53b4577e45b5bb4a2120e3064bf6d604177bdf6a0d1d6c0", func := "groove/groovelaw22.CountingExpands", spec := "countingExpands", unfollowed := true, recurses := true, apart := false }
def CountingExpandsSaid : Prop := countingExpandsRow.holds Try.pinned (OpenSpec.ofChange countingExpandsSpec)

/-- ITS FALSE NEIGHBOUR: 'it returns false'. Refute it at one input. -/
def countingExpandsWrong : ChangeSpec := { name := "countingExpands", fn := fun _ => fun
  | [d1, d2, d3] => { results := [.lit (.bool false)], args := [d1, d2, d3] }
  | _ => none }
def CountingExpandsWrongFalsely : Prop := countingExpandsRow.holds Try.pinned (OpenSpec.ofChange countingExpandsWrong)

/-- 'groovelaw22.CountingMatrices': WHATEVER THE INPUT: true; the input reads as it did. -/
def countingMatricesSpec : ChangeSpec := { name := "countingMatrices", fn := fun _ => fun
  | [d1, d2] => { results := [.lit (.bool true)], args := [d1, d2] }
  | _ => none }
def countingMatricesRow : OpenClaim := { program := "ythpgeeaccmgbkaa", sum := "1c077b222fe6e043d53b4577e45b5bb4a2120e3064bf6d604177bdf6a0d1d6c0", func := "groove/groovelaw22.CountingMatrices", spec := "countingMatrices", unfollowed := true, recurses := true, apart := false }
def CountingMatricesSaid : Prop := countingMatricesRow.holds Try.pinned (OpenSpec.ofChange countingMatricesSpec)

/-- ITS FALSE NEIGHBOUR: 'it returns false'. Refute it at one input. -/
def countingMatricesWrong : ChangeSpec := { name := "countingMatrices", fn := fun _ => fun
  | [d1, d2] => { results := [.lit (.bool false)], args := [d1, d2] }
  | _ => none }
def CountingMatricesWrongFalsely : Prop := countingMatricesRow.holds Try.pinned (OpenSpec.ofChange countingMatricesWrong)

/-- 'groovelaw22.CountingReverse': WHATEVER THE INPUT: true; the input reads as it did. -/
def countingReverseSpec : ChangeSpec := { name := "countingReverse", fn := fun _ => fun
  | [d1, d2, d3, d4] => { results := [.lit (.bool true)], args := [d1, d2, d3, d4] }
  | _ => none }
def countingReverseRow : OpenClaim := { program := "ythpgeeaccmgbkaa", sum := "1c077b222fe6e043d53b4577e45b5bb4a2120e3064bf6d604177bdf6a0d1d6c0", func := "groove/groovelaw22.CountingReverse", spec := "countingReverse", unfollowed := true, recurses := true, apart := false }
def CountingReverseSaid : Prop := countingReverseRow.holds Try.pinned (OpenSpec.ofChange countingReverseSpec)

/-- ITS FALSE NEIGHBOUR: 'it returns false'. Refute it at one input. -/
def countingReverseWrong : ChangeSpec := { name := "countingReverse", fn := fun _ => fun
  | [d1, d2, d3, d4] => { results := [.lit (.bool false)], args := [d1, d2, d3, d4] }
  | _ => none }
def CountingReverseWrongFalsely : Prop := countingReverseRow.holds Try.pinned (OpenSpec.ofChange countingReverseWrong)

/- THE SECOND FORM. 'bulk': how many values and letters a reading holds, each counted each time it is reached (what is shared counts as often as it is met; a slice's spare places count too). A statement '..UptoSaid' is the law's where the arguments, and the package variables that the reading takes, are together of bulk at most 1048576: NARROWER than '..Said'. Prove '..Said' where nothing that the law and all that it calls make is longer than what came in: it says more and counts as full. Else prove '..UptoSaid'. A law counts once. -/
mutual
def uptoBulk {H : Type} : DataW H → Nat
  | .lit (.string bytes) => bytes.length + 1
  | .lit _ => 1
  | .nil => 1
  | .ptr d => uptoBulk d + 1
  | .slice elems spare => uptoBulkAll elems + uptoBulkAll spare + 1
  | .agg parts => uptoBulkAll parts + 1
  | .iface _ d => uptoBulk d + 1
  | .map entries => uptoBulkEntries entries + 1
  | .held _ => 1
def uptoBulkAll {H : Type} : List (DataW H) → Nat
  | [] => 0
  | d :: r => uptoBulk d + uptoBulkAll r
def uptoBulkEntries {H : Type} : List (Lit × DataW H) → Nat
  | [] => 0
  | x :: r => uptoBulkEntry x + uptoBulkEntries r
def uptoBulkEntry {H : Type} : Lit × DataW H → Nat
  | (.string bytes, d) => bytes.length + uptoBulk d + 1
  | (_, d) => uptoBulk d + 1
 end
def uptoSmall : (H : Type) → List (DataW H) → Bool := fun _ ds => decide (uptoBulkAll ds ≤ 1048576)
def OpenSpec.upto (s : _root_.Go.ChangeSpec) : _root_.Go.OpenSpec := { _root_.Go.OpenSpec.ofChange s with cond := some uptoSmall }

/-- 'groovelaw22.CountingOrbits', WHERE WHAT IT READS IS OF BULK AT MOST 1048576: true; the input reads as it did. -/
def countingOrbitsUptoRow : OpenClaim := { program := "ythpgeeaccmgbkaa", sum := "1c077b222fe6e043d53b4577e45b5bb4a2120e3064bf6d604177bdf6a0d1d6c0", func := "groove/groovelaw22.CountingOrbits", spec := "countingOrbits", unfollowed := true, recurses := true, apart := false, narrowed := true }
def CountingOrbitsUptoSaid : Prop := countingOrbitsUptoRow.holds Try.pinned (OpenSpec.upto countingOrbitsSpec)

/-- 'groovelaw22.CountingComposes', WHERE WHAT IT READS IS OF BULK AT MOST 1048576: true; the input reads as it did. -/
def countingComposesUptoRow : OpenClaim := { program := "ythpgeeaccmgbkaa", sum := "1c077b222fe6e043d53b4577e45b5bb4a2120e3064bf6d604177bdf6a0d1d6c0", func := "groove/groovelaw22.CountingComposes", spec := "countingComposes", unfollowed := true, recurses := true, apart := false, narrowed := true }
def CountingComposesUptoSaid : Prop := countingComposesUptoRow.holds Try.pinned (OpenSpec.upto countingComposesSpec)

/-- 'groovelaw22.CountingSeries', WHERE WHAT IT READS IS OF BULK AT MOST 1048576: true; the input reads as it did. -/
def countingSeriesUptoRow : OpenClaim := { program := "ythpgeeaccmgbkaa", sum := "1c077b222fe6e043d53b4577e45b5bb4a2120e3064bf6d604177bdf6a0d1d6c0", func := "groove/groovelaw22.CountingSeries", spec := "countingSeries", unfollowed := true, recurses := true, apart := false, narrowed := true }
def CountingSeriesUptoSaid : Prop := countingSeriesUptoRow.holds Try.pinned (OpenSpec.upto countingSeriesSpec)

/-- 'groovelaw22.CountingExpands', WHERE WHAT IT READS IS OF BULK AT MOST 1048576: true; the input reads as it did. -/
def countingExpandsUptoRow : OpenClaim := { program := "ythpgeeaccmgbkaa", sum := "1c077b222fe6e043d53b4577e45b5bb4a2120e3064bf6d604177bdf6a0d1d6c0", func := "groove/groovelaw22.CountingExpands", spec := "countingExpands", unfollowed := true, recurses := true, apart := false, narrowed := true }
def CountingExpandsUptoSaid : Prop := countingExpandsUptoRow.holds Try.pinned (OpenSpec.upto countingExpandsSpec)

/-- 'groovelaw22.CountingMatrices', WHERE WHAT IT READS IS OF BULK AT MOST 1048576: true; the input reads as it did. -/
def countingMatricesUptoRow : OpenClaim := { program := "ythpgeeaccmgbkaa", sum := "1c077b222fe6e043d53b4577e45b5bb4a2120e3064bf6d604177bdf6a0d1d6c0", func := "groove/groovelaw22.CountingMatrices", spec := "countingMatrices", unfollowed := true, recurses := true, apart := false, narrowed := true }
def CountingMatricesUptoSaid : Prop := countingMatricesUptoRow.holds Try.pinned (OpenSpec.upto countingMatricesSpec)

/-- 'groovelaw22.CountingReverse', WHERE WHAT IT READS IS OF BULK AT MOST 1048576: true; the input reads as it did. -/
def countingReverseUptoRow : OpenClaim := { program := "ythpgeeaccmgbkaa", sum := "1c077b222fe6e043d53b4577e45b5bb4a2120e3064bf6d604177bdf6a0d1d6c0", func := "groove/groovelaw22.CountingReverse", spec := "countingReverse", unfollowed := true, recurses := true, apart := false, narrowed := true }
def CountingReverseUptoSaid : Prop := countingReverseUptoRow.holds Try.pinned (OpenSpec.upto countingReverseSpec)

end Rows
end Go.Proofs.Ythpgeeaccmgbkaa

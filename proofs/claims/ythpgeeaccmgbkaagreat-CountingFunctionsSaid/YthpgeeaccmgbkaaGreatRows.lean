/-
  No cell of these rows narrows 'for every input' (looked for: loops, veiled, ifaces, maps, wideKeys, modest, calm, conditions, laid).
  DERIVED. THE GIVEN ROWS OF THIS SEAT. 3 by the template 'for every input the law returns true; each argument reads behind the call as it read before'; 0 by the template 'total and deterministic' (their statements: YthpgeeaccmgbkaaGreatTotals.lean).
  GIVEN WITH THE SEED: the statements are not yours to turn. If you find one false, say at which input.
  Laid BY PROGRAM, IN A SANDBOX (cutbox-rows.mjs): the forced cells as the released guide's own fill.sh prints them over the translation 442721ecb6e92c59… (all of the seat's roots in one cut). By AI agents, Wed Nov 11 2026. No macro, syntax, notation, axiom, sorry.
-/
import Derived.Test.YthpgeeaccmgbkaaGreatChecked
import GoSem.Claim
import GoSem.ClaimJoined
import GoSem.ClaimMapViews
import Derived.JoinedTies
import Derived.KernelRfl
namespace Go.Proofs.YthpgeeaccmgbkaaGreat
/- THE CELL 'sum', in the pinned program and in every row, IS THE sha256 OF THE DUMP (.gsa) THAT YthpgeeaccmgbkaaGreatProg.lean LOADS. Nothing in Lean hashes anything: it is a label: what it is worth is what the hold of that sum in a sandbox is worth. -/
noncomputable def Tryz.pinned : Pinned := { name := "ythpgeeaccmgbkaagreat", sum := "442721ecb6e92c5940094790fa8866666e60ee1d2b72e1489558749751dc8d63", checked := Tryz.checked }
namespace Rows
def none {H : Type} : Left H := { results := [], args := [] }

/-- 'groovelaw22.CountingPaths': WHATEVER THE INPUT: true; the input reads as it did. -/
def countingPathsSpec : ChangeSpec := { name := "countingPaths", fn := fun _ => fun
  | [d1, d2, d3, d4] => { results := [.lit (.bool true)], args := [d1, d2, d3, d4] }
  | _ => none }
def countingPathsRow : OpenClaim := { program := "ythpgeeaccmgbkaagreat", sum := "442721ecb6e92c5940094790fa8866666e60ee1d2b72e1489558749751dc8d63", func := "groove/groovelaw22.CountingPaths", spec := "countingPaths", unfollowed := true, recurses := true, apart := false }
def CountingPathsSaid : Prop := countingPathsRow.holds Tryz.pinned (OpenSpec.ofChange countingPathsSpec)

/-- ITS FALSE NEIGHBOUR: 'it returns false'. Refute it at one input. -/
def countingPathsWrong : ChangeSpec := { name := "countingPaths", fn := fun _ => fun
  | [d1, d2, d3, d4] => { results := [.lit (.bool false)], args := [d1, d2, d3, d4] }
  | _ => none }
def CountingPathsWrongFalsely : Prop := countingPathsRow.holds Tryz.pinned (OpenSpec.ofChange countingPathsWrong)

/-- 'groovelaw22.CountingFunctions': WHATEVER THE INPUT: true; the input reads as it did. -/
def countingFunctionsSpec : ChangeSpec := { name := "countingFunctions", fn := fun _ => fun
  | [d1, d2, d3, d4, d5] => { results := [.lit (.bool true)], args := [d1, d2, d3, d4, d5] }
  | _ => none }
def countingFunctionsRow : OpenClaim := { program := "ythpgeeaccmgbkaagreat", sum := "442721ecb6e92c5940094790fa8866666e60ee1d2b72e1489558749751dc8d63", func := "groove/groovelaw22.CountingFunctions", spec := "countingFunctions", unfollowed := true, recurses := true, apart := false }
def CountingFunctionsSaid : Prop := countingFunctionsRow.holds Tryz.pinned (OpenSpec.ofChange countingFunctionsSpec)

/-- ITS FALSE NEIGHBOUR: 'it returns false'. Refute it at one input. -/
def countingFunctionsWrong : ChangeSpec := { name := "countingFunctions", fn := fun _ => fun
  | [d1, d2, d3, d4, d5] => { results := [.lit (.bool false)], args := [d1, d2, d3, d4, d5] }
  | _ => none }
def CountingFunctionsWrongFalsely : Prop := countingFunctionsRow.holds Tryz.pinned (OpenSpec.ofChange countingFunctionsWrong)

/-- 'groovelaw22.CountingWords': WHATEVER THE INPUT: true; the input reads as it did. -/
def countingWordsSpec : ChangeSpec := { name := "countingWords", fn := fun _ => fun
  | [d1, d2] => { results := [.lit (.bool true)], args := [d1, d2] }
  | _ => none }
def countingWordsRow : OpenClaim := { program := "ythpgeeaccmgbkaagreat", sum := "442721ecb6e92c5940094790fa8866666e60ee1d2b72e1489558749751dc8d63", func := "groove/groovelaw22.CountingWords", spec := "countingWords", inPlace := ["internal/bytealg.IndexByteString"], unfollowed := true, recurses := true, apart := false }
def CountingWordsSaid : Prop := countingWordsRow.holds Tryz.pinned (OpenSpec.ofChange countingWordsSpec)

/-- ITS FALSE NEIGHBOUR: 'it returns false'. Refute it at one input. -/
def countingWordsWrong : ChangeSpec := { name := "countingWords", fn := fun _ => fun
  | [d1, d2] => { results := [.lit (.bool false)], args := [d1, d2] }
  | _ => none }
def CountingWordsWrongFalsely : Prop := countingWordsRow.holds Tryz.pinned (OpenSpec.ofChange countingWordsWrong)

/- THE SECOND FORM. 'bulk': how many values and letters a reading holds, each counted each time it is reached (what is shared counts as often as it is met; a slice's spare places count too). A statement '..UptoSaid' is the law's where the arguments, and the package variables that the reading takes, are together of bulk at most 1048576: NARROWER than '..Said'. Prove '..Said' where nothing that the law and all that it calls make is longer than what came in: it says more and counts as full. Else prove '..UptoSaid'. A law counts once. -/
mutual
def uptoBulk {H : Type} : DataW H → Nat
  | .lit (.string bytes) => bytes.length + 1
  | .lit _ => 1
  | .nil => 1
  | .ptr d => uptoBulk d + 1
  | .slice elems spare => uptoBulkAll elems + uptoBulkAll spare + 1
  | .agg parts => uptoBulkAll parts + 1
  | .iface _ d => uptoBulk d + 1
  | .map entries => uptoBulkEntries entries + 1
  | .held _ => 1
def uptoBulkAll {H : Type} : List (DataW H) → Nat
  | [] => 0
  | d :: r => uptoBulk d + uptoBulkAll r
def uptoBulkEntries {H : Type} : List (Lit × DataW H) → Nat
  | [] => 0
  | x :: r => uptoBulkEntry x + uptoBulkEntries r
def uptoBulkEntry {H : Type} : Lit × DataW H → Nat
  | (.string bytes, d) => bytes.length + uptoBulk d + 1
  | (_, d) => uptoBulk d + 1
 end
def uptoSmall : (H : Type) → List (DataW H) → Bool := fun _ ds => decide (uptoBulkAll ds ≤ 1048576)
def OpenSpec.upto (s : _root_.Go.ChangeSpec) : _root_.Go.OpenSpec := { _root_.Go.OpenSpec.ofChange s with cond := some uptoSmall }

/-- 'groovelaw22.CountingPaths', WHERE WHAT IT READS IS OF BULK AT MOST 1048576: true; the input reads as it did. -/
def countingPathsUptoRow : OpenClaim := { program := "ythpgeeaccmgbkaagreat", sum := "442721ecb6e92c5940094790fa8866666e60ee1d2b72e1489558749751dc8d63", func := "groove/groovelaw22.CountingPaths", spec := "countingPaths", unfollowed := true, recurses := true, apart := false, narrowed := true }
def CountingPathsUptoSaid : Prop := countingPathsUptoRow.holds Tryz.pinned (OpenSpec.upto countingPathsSpec)

/-- 'groovelaw22.CountingFunctions', WHERE WHAT IT READS IS OF BULK AT MOST 1048576: true; the input reads as it did. -/
def countingFunctionsUptoRow : OpenClaim := { program := "ythpgeeaccmgbkaagreat", sum := "442721ecb6e92c5940094790fa8866666e60ee1d2b72e1489558749751dc8d63", func := "groove/groovelaw22.CountingFunctions", spec := "countingFunctions", unfollowed := true, recurses := true, apart := false, narrowed := true }
def CountingFunctionsUptoSaid : Prop := countingFunctionsUptoRow.holds Tryz.pinned (OpenSpec.upto countingFunctionsSpec)

/-- 'groovelaw22.CountingWords', WHERE WHAT IT READS IS OF BULK AT MOST 1048576: true; the input reads as it did. -/
def countingWordsUptoRow : OpenClaim := { program := "ythpgeeaccmgbkaagreat", sum := "442721ecb6e92c5940094790fa8866666e60ee1d2b72e1489558749751dc8d63", func := "groove/groovelaw22.CountingWords", spec := "countingWords", inPlace := ["internal/bytealg.IndexByteString"], unfollowed := true, recurses := true, apart := false, narrowed := true }
def CountingWordsUptoSaid : Prop := countingWordsUptoRow.holds Tryz.pinned (OpenSpec.upto countingWordsSpec)

end Rows
end Go.Proofs.YthpgeeaccmgbkaaGreat

/-
  No cell of these rows narrows 'for every input' (looked for: loops, veiled, ifaces, maps, wideKeys, modest, calm, conditions, laid).
  DERIVED. THE GIVEN ROWS OF THIS SEAT. 8 by the template 'for every input the law returns true; each argument reads behind the call as it read before'; 0 by the template 'total and deterministic' (their statements: YtadibbbaegbljaaTotals.lean).
  GIVEN WITH THE SEED: the statements are not yours to turn. If you find one false, say at which input.
  Laid BY PROGRAM, IN A SANDBOX (cutbox-rows.mjs): the forced cells as the released guide's own fill.sh prints them over the translation 6e80d217a1a3d601… (all of the seat's roots in one cut). By AI agents, Wed Nov 11 2026. No macro, syntax, notation, axiom, sorry.
-/
import Derived.Test.YtadibbbaegbljaaChecked
import GoSem.Claim
import GoSem.ClaimJoined
import GoSem.ClaimMapViews
import Derived.JoinedTies
import Derived.KernelRfl
namespace Go.Proofs.Ytadibbbaegbljaa
/- THE CELL 'sum', in the pinned program and in every row, IS THE sha256 OF THE DUMP (.gsa) THAT YtadibbbaegbljaaProg.lean LOADS. Nothing in Lean hashes anything: it is a label: what it is worth is what the hold of that sum in a sandbox is worth. -/
noncomputable def Try.pinned : Pinned := { name := "ytadibbbaegbljaa", sum := "6e80d217a1a3d601cc27f6516b6fd57e92f8b999e10e9f67ac749ba72bd8c958", checked := Try.checked }
namespace Rows
def none {H : Type} : Left H := { results := [], args := [] }

/-- 'groovelaw17.RunlengthFactors': WHATEVER THE INPUT: true; the input reads as it did. -/
def runlengthFactorsSpec : ChangeSpec := { name := "runlengthFactors", fn := fun _ => fun
  | [d1, d2, d3, d4, d5] => { results := [.lit (.bool true)], args := [d1, d2, d3, d4, d5] }
  | _ => none }
def runlengthFactorsRow : OpenClaim := { program := "ytadibbbaegbljaa", sum := "6e80d217a1a3d601cc27f6516b6fd57e92f8b999e10e9f67ac749ba72bd8c958", func := "groove/groovelaw17.RunlengthFactors", spec := "runlengthFactors", inPlace := ["internal/bytealg.IndexByteString"], unfollowed := true, recurses := true, apart := false }
def RunlengthFactorsSaid : Prop := runlengthFactorsRow.holds Try.pinned (OpenSpec.ofChange runlengthFactorsSpec)

/-- ITS FALSE NEIGHBOUR: 'it returns false'. Refute it at one input. -/
def runlengthFactorsWrong : ChangeSpec := { name := "runlengthFactors", fn := fun _ => fun
  | [d1, d2, d3, d4, d5] => { results := [.lit (.bool false)], args := [d1, d2, d3, d4, d5] }
  | _ => none }
def RunlengthFactorsWrongFalsely : Prop := runlengthFactorsRow.holds Try.pinned (OpenSpec.ofChange runlengthFactorsWrong)

/-- 'groovelaw17.RunlengthReads': WHATEVER THE INPUT: true; the input reads as it did. -/
def runlengthReadsSpec : ChangeSpec := { name := "runlengthReads", fn := fun _ => fun
  | [d1, d2, d3, d4] => { results := [.lit (.bool true)], args := [d1, d2, d3, d4] }
  | _ => none }
def runlengthReadsRow : OpenClaim := { program := "ytadibbbaegbljaa", sum := "6e80d217a1a3d601cc27f6516b6fd57e92f8b999e10e9f67ac749ba72bd8c958", func := "groove/groovelaw17.RunlengthReads", spec := "runlengthReads", inPlace := ["internal/bytealg.IndexByteString"], unfollowed := true, recurses := true, apart := false }
def RunlengthReadsSaid : Prop := runlengthReadsRow.holds Try.pinned (OpenSpec.ofChange runlengthReadsSpec)

/-- ITS FALSE NEIGHBOUR: 'it returns false'. Refute it at one input. -/
def runlengthReadsWrong : ChangeSpec := { name := "runlengthReads", fn := fun _ => fun
  | [d1, d2, d3, d4] => { results := [.lit (.bool false)], args := [d1, d2, d3, d4] }
  | _ => none }
def RunlengthReadsWrongFalsely : Prop := runlengthReadsRow.holds Try.pinned (OpenSpec.ofChange runlengthReadsWrong)

/-- 'groovelaw17.RunlengthGreatest': WHATEVER THE INPUT: true; the input reads as it did. -/
def runlengthGreatestSpec : ChangeSpec := { name := "runlengthGreatest", fn := fun _ => fun
  | [d1, d2, d3] => { results := [.lit (.bool true)], args := [d1, d2, d3] }
  | _ => none }
def runlengthGreatestRow : OpenClaim := { program := "ytadibbbaegbljaa", sum := "6e80d217a1a3d601cc27f6516b6fd57e92f8b999e10e9f67ac749ba72bd8c958", func := "groove/groovelaw17.RunlengthGreatest", spec := "runlengthGreatest", inPlace := ["internal/bytealg.IndexByteString"], unfollowed := true, recurses := true, apart := false }
def RunlengthGreatestSaid : Prop := runlengthGreatestRow.holds Try.pinned (OpenSpec.ofChange runlengthGreatestSpec)

/-- ITS FALSE NEIGHBOUR: 'it returns false'. Refute it at one input. -/
def runlengthGreatestWrong : ChangeSpec := { name := "runlengthGreatest", fn := fun _ => fun
  | [d1, d2, d3] => { results := [.lit (.bool false)], args := [d1, d2, d3] }
  | _ => none }
def RunlengthGreatestWrongFalsely : Prop := runlengthGreatestRow.holds Try.pinned (OpenSpec.ofChange runlengthGreatestWrong)

/-- 'groovelaw17.RunlengthCounts': WHATEVER THE INPUT: true; the input reads as it did. -/
def runlengthCountsSpec : ChangeSpec := { name := "runlengthCounts", fn := fun _ => fun
  | [d1, d2, d3, d4] => { results := [.lit (.bool true)], args := [d1, d2, d3, d4] }
  | _ => none }
def runlengthCountsRow : OpenClaim := { program := "ytadibbbaegbljaa", sum := "6e80d217a1a3d601cc27f6516b6fd57e92f8b999e10e9f67ac749ba72bd8c958", func := "groove/groovelaw17.RunlengthCounts", spec := "runlengthCounts", inPlace := ["internal/bytealg.IndexByteString"], unfollowed := true, recurses := true, apart := false }
def RunlengthCountsSaid : Prop := runlengthCountsRow.holds Try.pinned (OpenSpec.ofChange runlengthCountsSpec)

/-- ITS FALSE NEIGHBOUR: 'it returns false'. Refute it at one input. -/
def runlengthCountsWrong : ChangeSpec := { name := "runlengthCounts", fn := fun _ => fun
  | [d1, d2, d3, d4] => { results := [.lit (.bool false)], args := [d1, d2, d3, d4] }
  | _ => none }
def RunlengthCountsWrongFalsely : Prop := runlengthCountsRow.holds Try.pinned (OpenSpec.ofChange runlengthCountsWrong)

/-- 'groovelaw17.RunlengthGraphs': WHATEVER THE INPUT: true; the input reads as it did. -/
def runlengthGraphsSpec : ChangeSpec := { name := "runlengthGraphs", fn := fun _ => fun
  | [d1, d2, d3] => { results := [.lit (.bool true)], args := [d1, d2, d3] }
  | _ => none }
def runlengthGraphsRow : OpenClaim := { program := "ytadibbbaegbljaa", sum := "6e80d217a1a3d601cc27f6516b6fd57e92f8b999e10e9f67ac749ba72bd8c958", func := "groove/groovelaw17.RunlengthGraphs", spec := "runlengthGraphs", inPlace := ["internal/bytealg.IndexByteString"], unfollowed := true, recurses := true, apart := false }
def RunlengthGraphsSaid : Prop := runlengthGraphsRow.holds Try.pinned (OpenSpec.ofChange runlengthGraphsSpec)

/-- ITS FALSE NEIGHBOUR: 'it returns false'. Refute it at one input. -/
def runlengthGraphsWrong : ChangeSpec := { name := "runlengthGraphs", fn := fun _ => fun
  | [d1, d2, d3] => { results := [.lit (.bool false)], args := [d1, d2, d3] }
  | _ => none }
def RunlengthGraphsWrongFalsely : Prop := runlengthGraphsRow.holds Try.pinned (OpenSpec.ofChange runlengthGraphsWrong)

/-- 'groovelaw17.RunlengthWords': WHATEVER THE INPUT: true; the input reads as it did. -/
def runlengthWordsSpec : ChangeSpec := { name := "runlengthWords", fn := fun _ => fun
  | [d1, d2, d3, d4] => { results := [.lit (.bool true)], args := [d1, d2, d3, d4] }
  | _ => none }
def runlengthWordsRow : OpenClaim := { program := "ytadibbbaegbljaa", sum := "6e80d217a1a3d601cc27f6516b6fd57e92f8b999e10e9f67ac749ba72bd8c958", func := "groove/groovelaw17.RunlengthWords", spec := "runlengthWords", inPlace := ["internal/bytealg.IndexByteString"], unfollowed := true, recurses := true, apart := false }
def RunlengthWordsSaid : Prop := runlengthWordsRow.holds Try.pinned (OpenSpec.ofChange runlengthWordsSpec)

/-- ITS FALSE NEIGHBOUR: 'it returns false'. Refute it at one input. -/
def runlengthWordsWrong : ChangeSpec := { name := "runlengthWords", fn := fun _ => fun
  | [d1, d2, d3, d4] => { results := [.lit (.bool false)], args := [d1, d2, d3, d4] }
  | _ => none }
def RunlengthWordsWrongFalsely : Prop := runlengthWordsRow.holds Try.pinned (OpenSpec.ofChange runlengthWordsWrong)

/-- 'groovelaw17.RunlengthLevels': WHATEVER THE INPUT: true; the input reads as it did. -/
def runlengthLevelsSpec : ChangeSpec := { name := "runlengthLevels", fn := fun _ => fun
  | [d1, d2, d3] => { results := [.lit (.bool true)], args := [d1, d2, d3] }
  | _ => none }
def runlengthLevelsRow : OpenClaim := { program := "ytadibbbaegbljaa", sum := "6e80d217a1a3d601cc27f6516b6fd57e92f8b999e10e9f67ac749ba72bd8c958", func := "groove/groovelaw17.RunlengthLevels", spec := "runlengthLevels", inPlace := ["internal/bytealg.IndexByteString"], unfollowed := true, recurses := true, apart := false }
def RunlengthLevelsSaid : Prop := runlengthLevelsRow.holds Try.pinned (OpenSpec.ofChange runlengthLevelsSpec)

/-- ITS FALSE NEIGHBOUR: 'it returns false'. Refute it at one input. -/
def runlengthLevelsWrong : ChangeSpec := { name := "runlengthLevels", fn := fun _ => fun
  | [d1, d2, d3] => { results := [.lit (.bool false)], args := [d1, d2, d3] }
  | _ => none }
def RunlengthLevelsWrongFalsely : Prop := runlengthLevelsRow.holds Try.pinned (OpenSpec.ofChange runlengthLevelsWrong)

/-- 'groovelaw17.RunlengthRuns': WHATEVER THE INPUT: true; the input reads as it did. -/
def runlengthRunsSpec : ChangeSpec := { name := "runlengthRuns", fn := fun _ => fun
  | [d1, d2, d3] => { results := [.lit (.bool true)], args := [d1, d2, d3] }
  | _ => none }
def runlengthRunsRow : OpenClaim := { program := "ytadibbbaegbljaa", sum := "6e80d217a1a3d601cc27f6516b6fd57e92f8b999e10e9f67ac749ba72bd8c958", func := "groove/groovelaw17.RunlengthRuns", spec := "runlengthRuns", inPlace := ["internal/bytealg.IndexByteString"], unfollowed := true, recurses := true, apart := false }
def RunlengthRunsSaid : Prop := runlengthRunsRow.holds Try.pinned (OpenSpec.ofChange runlengthRunsSpec)

/-- ITS FALSE NEIGHBOUR: 'it returns false'. Refute it at one input. -/
def runlengthRunsWrong : ChangeSpec := { name := "runlengthRuns", fn := fun _ => fun
  | [d1, d2, d3] => { results := [.lit (.bool false)], args := [d1, d2, d3] }
  | _ => none }
def RunlengthRunsWrongFalsely : Prop := runlengthRunsRow.holds Try.pinned (OpenSpec.ofChange runlengthRunsWrong)

/- THE SECOND FORM. 'bulk': how many values and letters a reading holds, each counted each time it is reached (what is shared counts as often as it is met; a slice's spare places count too). A statement '..UptoSaid' is the law's where the arguments, and the package variables that the reading takes, are together of bulk at most 1048576: NARROWER than '..Said'. Prove '..Said' where nothing that the law and all that it calls make is longer than what came in: it says more and counts as full. Else prove '..UptoSaid'. A law counts once. -/
mutual
def uptoBulk {H : Type} : DataW H → Nat
  | .lit (.string bytes) => bytes.length + 1
  | .lit _ => 1
  | .nil => 1
  | .ptr d => uptoBulk d + 1
  | .slice elems spare => uptoBulkAll elems + uptoBulkAll spare + 1
  | .agg parts => uptoBulkAll parts + 1
  | .iface _ d => uptoBulk d + 1
  | .map entries => uptoBulkEntries entries + 1
  | .held _ => 1
def uptoBulkAll {H : Type} : List (DataW H) → Nat
  | [] => 0
  | d :: r => uptoBulk d + uptoBulkAll r
def uptoBulkEntries {H : Type} : List (Lit × DataW H) → Nat
  | [] => 0
  | x :: r => uptoBulkEntry x + uptoBulkEntries r
def uptoBulkEntry {H : Type} : Lit × DataW H → Nat
  | (.string bytes, d) => bytes.length + uptoBulk d + 1
  | (_, d) => uptoBulk d + 1
 end
def uptoSmall : (H : Type) → List (DataW H) → Bool := fun _ ds => decide (uptoBulkAll ds ≤ 1048576)
def OpenSpec.upto (s : _root_.Go.ChangeSpec) : _root_.Go.OpenSpec := { _root_.Go.OpenSpec.ofChange s with cond := some uptoSmall }

/-- 'groovelaw17.RunlengthFactors', WHERE WHAT IT READS IS OF BULK AT MOST 1048576: true; the input reads as it did. -/
def runlengthFactorsUptoRow : OpenClaim := { program := "ytadibbbaegbljaa", sum := "6e80d217a1a3d601cc27f6516b6fd57e92f8b999e10e9f67ac749ba72bd8c958", func := "groove/groovelaw17.RunlengthFactors", spec := "runlengthFactors", inPlace := ["internal/bytealg.IndexByteString"], unfollowed := true, recurses := true, apart := false, narrowed := true }
def RunlengthFactorsUptoSaid : Prop := runlengthFactorsUptoRow.holds Try.pinned (OpenSpec.upto runlengthFactorsSpec)

/-- 'groovelaw17.RunlengthReads', WHERE WHAT IT READS IS OF BULK AT MOST 1048576: true; the input reads as it did. -/
def runlengthReadsUptoRow : OpenClaim := { program := "ytadibbbaegbljaa", sum := "6e80d217a1a3d601cc27f6516b6fd57e92f8b999e10e9f67ac749ba72bd8c958", func := "groove/groovelaw17.RunlengthReads", spec := "runlengthReads", inPlace := ["internal/bytealg.IndexByteString"], unfollowed := true, recurses := true, apart := false, narrowed := true }
def RunlengthReadsUptoSaid : Prop := runlengthReadsUptoRow.holds Try.pinned (OpenSpec.upto runlengthReadsSpec)

/-- 'groovelaw17.RunlengthGreatest', WHERE WHAT IT READS IS OF BULK AT MOST 1048576: true; the input reads as it did. -/
def runlengthGreatestUptoRow : OpenClaim := { program := "ytadibbbaegbljaa", sum := "6e80d217a1a3d601cc27f6516b6fd57e92f8b999e10e9f67ac749ba72bd8c958", func := "groove/groovelaw17.RunlengthGreatest", spec := "runlengthGreatest", inPlace := ["internal/bytealg.IndexByteString"], unfollowed := true, recurses := true, apart := false, narrowed := true }
def RunlengthGreatestUptoSaid : Prop := runlengthGreatestUptoRow.holds Try.pinned (OpenSpec.upto runlengthGreatestSpec)

/-- 'groovelaw17.RunlengthCounts', WHERE WHAT IT READS IS OF BULK AT MOST 1048576: true; the input reads as it did. -/
def runlengthCountsUptoRow : OpenClaim := { program := "ytadibbbaegbljaa", sum := "6e80d217a1a3d601cc27f6516b6fd57e92f8b999e10e9f67ac749ba72bd8c958", func := "groove/groovelaw17.RunlengthCounts", spec := "runlengthCounts", inPlace := ["internal/bytealg.IndexByteString"], unfollowed := true, recurses := true, apart := false, narrowed := true }
def RunlengthCountsUptoSaid : Prop := runlengthCountsUptoRow.holds Try.pinned (OpenSpec.upto runlengthCountsSpec)

/-- 'groovelaw17.RunlengthGraphs', WHERE WHAT IT READS IS OF BULK AT MOST 1048576: true; the input reads as it did. -/
def runlengthGraphsUptoRow : OpenClaim := { program := "ytadibbbaegbljaa", sum := "6e80d217a1a3d601cc27f6516b6fd57e92f8b999e10e9f67ac749ba72bd8c958", func := "groove/groovelaw17.RunlengthGraphs", spec := "runlengthGraphs", inPlace := ["internal/bytealg.IndexByteString"], unfollowed := true, recurses := true, apart := false, narrowed := true }
def RunlengthGraphsUptoSaid : Prop := runlengthGraphsUptoRow.holds Try.pinned (OpenSpec.upto runlengthGraphsSpec)

/-- 'groovelaw17.RunlengthWords', WHERE WHAT IT READS IS OF BULK AT MOST 1048576: true; the input reads as it did. -/
def runlengthWordsUptoRow : OpenClaim := { program := "ytadibbbaegbljaa", sum := "6e80d217a1a3d601cc27f6516b6fd57e92f8b999e10e9f67ac749ba72bd8c958", func := "groove/groovelaw17.RunlengthWords", spec := "runlengthWords", inPlace := ["internal/bytealg.IndexByteString"], unfollowed := true, recurses := true, apart := false, narrowed := true }
def RunlengthWordsUptoSaid : Prop := runlengthWordsUptoRow.holds Try.pinned (OpenSpec.upto runlengthWordsSpec)

/-- 'groovelaw17.RunlengthLevels', WHERE WHAT IT READS IS OF BULK AT MOST 1048576: true; the input reads as it did. -/
def runlengthLevelsUptoRow : OpenClaim := { program := "ytadibbbaegbljaa", sum := "6e80d217a1a3d601cc27f6516b6fd57e92f8b999e10e9f67ac749ba72bd8c958", func := "groove/groovelaw17.RunlengthLevels", spec := "runlengthLevels", inPlace := ["internal/bytealg.IndexByteString"], unfollowed := true, recurses := true, apart := false, narrowed := true }
def RunlengthLevelsUptoSaid : Prop := runlengthLevelsUptoRow.holds Try.pinned (OpenSpec.upto runlengthLevelsSpec)

/-- 'groovelaw17.RunlengthRuns', WHERE WHAT IT READS IS OF BULK AT MOST 1048576: true; the input reads as it did. -/
def runlengthRunsUptoRow : OpenClaim := { program := "ytadibbbaegbljaa", sum := "6e80d217a1a3d601cc27f6516b6fd57e92f8b999e10e9f67ac749ba72bd8c958", func := "groove/groovelaw17.RunlengthRuns", spec := "runlengthRuns", inPlace := ["internal/bytealg.IndexByteString"], unfollowed := true, recurses := true, apart := false, narrowed := true }
def RunlengthRunsUptoSaid : Prop := runlengthRunsUptoRow.holds Try.pinned (OpenSpec.upto runlengthRunsSpec)

end Rows
end Go.Proofs.Ytadibbbaegbljaa

/-
  No cell of these rows narrows 'for every input' (looked for: loops, veiled, ifaces, maps, wideKeys, modest, calm, conditions, laid).
  DERIVED. THE GIVEN ROWS OF THIS SEAT. 8 by the template 'for every input the law returns true; each argument reads behind the call as it read before'; 0 by the template 'total and deterministic' (their statements: YtjpalbonclgflaaGreatTotals.lean).
  GIVEN WITH THE SEED: the statements are not yours to turn. If you find one false, say at which input.
  Laid BY PROGRAM, IN A SANDBOX (cutbox-rows.mjs): the forced cells as the released guide's own fill.sh prints them over the translation d0ed8720178a0f9a… (all of the seat's roots in one cut). By AI agents, Wed Nov 11 2026. No macro, syntax, notation, axiom, sorry.
-/
import Derived.Test.YtjpalbonclgflaaGreatChecked
import GoSem.Claim
import GoSem.ClaimJoined
import GoSem.ClaimMapViews
import Derived.JoinedTies
import Derived.KernelRfl
namespace Go.Proofs.YtjpalbonclgflaaGreat
/- THE CELL 'sum', in the pinned program and in every row, IS THE sha256 OF THE DUMP (.gsa) THAT YtjpalbonclgflaaGreatProg.lean LOADS. Nothing in Lean hashes anything: it is a label: what it is worth is what the hold of that sum in a sandbox is worth. -/
noncomputable def Tryz.pinned : Pinned := { name := "ytjpalbonclgflaagreat", sum := "d0ed8720178a0f9af9a3baeea373bab4d27bac7d99c0418752f2b8796c48aa22", checked := Tryz.checked }
namespace Rows
def none {H : Type} : Left H := { results := [], args := [] }

/-- 'groovelaw05.SturmChains': WHATEVER THE INPUT: true; the input reads as it did. -/
def sturmChainsSpec : ChangeSpec := { name := "sturmChains", fn := fun _ => fun
  | [d1, d2, d3] => { results := [.lit (.bool true)], args := [d1, d2, d3] }
  | _ => none }
def sturmChainsRow : OpenClaim := { program := "ytjpalbonclgflaagreat", sum := "d0ed8720178a0f9af9a3baeea373bab4d27bac7d99c0418752f2b8796c48aa22", func := "groove/groovelaw05.SturmChains", spec := "sturmChains", unfollowed := true, recurses := true, apart := false }
def SturmChainsSaid : Prop := sturmChainsRow.holds Tryz.pinned (OpenSpec.ofChange sturmChainsSpec)

/-- ITS FALSE NEIGHBOUR: 'it returns false'. Refute it at one input. -/
def sturmChainsWrong : ChangeSpec := { name := "sturmChains", fn := fun _ => fun
  | [d1, d2, d3] => { results := [.lit (.bool false)], args := [d1, d2, d3] }
  | _ => none }
def SturmChainsWrongFalsely : Prop := sturmChainsRow.holds Tryz.pinned (OpenSpec.ofChange sturmChainsWrong)

/-- 'groovelaw05.SturmIntervals': WHATEVER THE INPUT: true; the input reads as it did. -/
def sturmIntervalsSpec : ChangeSpec := { name := "sturmIntervals", fn := fun _ => fun
  | [d1, d2, d3] => { results := [.lit (.bool true)], args := [d1, d2, d3] }
  | _ => none }
def sturmIntervalsRow : OpenClaim := { program := "ytjpalbonclgflaagreat", sum := "d0ed8720178a0f9af9a3baeea373bab4d27bac7d99c0418752f2b8796c48aa22", func := "groove/groovelaw05.SturmIntervals", spec := "sturmIntervals", unfollowed := true, recurses := true, apart := false }
def SturmIntervalsSaid : Prop := sturmIntervalsRow.holds Tryz.pinned (OpenSpec.ofChange sturmIntervalsSpec)

/-- ITS FALSE NEIGHBOUR: 'it returns false'. Refute it at one input. -/
def sturmIntervalsWrong : ChangeSpec := { name := "sturmIntervals", fn := fun _ => fun
  | [d1, d2, d3] => { results := [.lit (.bool false)], args := [d1, d2, d3] }
  | _ => none }
def SturmIntervalsWrongFalsely : Prop := sturmIntervalsRow.holds Tryz.pinned (OpenSpec.ofChange sturmIntervalsWrong)

/-- 'groovelaw05.SturmRefines': WHATEVER THE INPUT: true; the input reads as it did. -/
def sturmRefinesSpec : ChangeSpec := { name := "sturmRefines", fn := fun _ => fun
  | [d1, d2, d3] => { results := [.lit (.bool true)], args := [d1, d2, d3] }
  | _ => none }
def sturmRefinesRow : OpenClaim := { program := "ytjpalbonclgflaagreat", sum := "d0ed8720178a0f9af9a3baeea373bab4d27bac7d99c0418752f2b8796c48aa22", func := "groove/groovelaw05.SturmRefines", spec := "sturmRefines", unfollowed := true, recurses := true, apart := false }
def SturmRefinesSaid : Prop := sturmRefinesRow.holds Tryz.pinned (OpenSpec.ofChange sturmRefinesSpec)

/-- ITS FALSE NEIGHBOUR: 'it returns false'. Refute it at one input. -/
def sturmRefinesWrong : ChangeSpec := { name := "sturmRefines", fn := fun _ => fun
  | [d1, d2, d3] => { results := [.lit (.bool false)], args := [d1, d2, d3] }
  | _ => none }
def SturmRefinesWrongFalsely : Prop := sturmRefinesRow.holds Tryz.pinned (OpenSpec.ofChange sturmRefinesWrong)

/-- 'groovelaw05.SturmCounts': WHATEVER THE INPUT: true; the input reads as it did. -/
def sturmCountsSpec : ChangeSpec := { name := "sturmCounts", fn := fun _ => fun
  | [d1, d2, d3] => { results := [.lit (.bool true)], args := [d1, d2, d3] }
  | _ => none }
def sturmCountsRow : OpenClaim := { program := "ytjpalbonclgflaagreat", sum := "d0ed8720178a0f9af9a3baeea373bab4d27bac7d99c0418752f2b8796c48aa22", func := "groove/groovelaw05.SturmCounts", spec := "sturmCounts", unfollowed := true, recurses := true, apart := false }
def SturmCountsSaid : Prop := sturmCountsRow.holds Tryz.pinned (OpenSpec.ofChange sturmCountsSpec)

/-- ITS FALSE NEIGHBOUR: 'it returns false'. Refute it at one input. -/
def sturmCountsWrong : ChangeSpec := { name := "sturmCounts", fn := fun _ => fun
  | [d1, d2, d3] => { results := [.lit (.bool false)], args := [d1, d2, d3] }
  | _ => none }
def SturmCountsWrongFalsely : Prop := sturmCountsRow.holds Tryz.pinned (OpenSpec.ofChange sturmCountsWrong)

/-- 'groovelaw05.SturmIsolates': WHATEVER THE INPUT: true; the input reads as it did. -/
def sturmIsolatesSpec : ChangeSpec := { name := "sturmIsolates", fn := fun _ => fun
  | [d] => { results := [.lit (.bool true)], args := [d] }
  | _ => none }
def sturmIsolatesRow : OpenClaim := { program := "ytjpalbonclgflaagreat", sum := "d0ed8720178a0f9af9a3baeea373bab4d27bac7d99c0418752f2b8796c48aa22", func := "groove/groovelaw05.SturmIsolates", spec := "sturmIsolates", unfollowed := true, recurses := true, apart := false }
def SturmIsolatesSaid : Prop := sturmIsolatesRow.holds Tryz.pinned (OpenSpec.ofChange sturmIsolatesSpec)

/-- ITS FALSE NEIGHBOUR: 'it returns false'. Refute it at one input. -/
def sturmIsolatesWrong : ChangeSpec := { name := "sturmIsolates", fn := fun _ => fun
  | [d] => { results := [.lit (.bool false)], args := [d] }
  | _ => none }
def SturmIsolatesWrongFalsely : Prop := sturmIsolatesRow.holds Tryz.pinned (OpenSpec.ofChange sturmIsolatesWrong)

/-- 'groovelaw05.SturmProducts': WHATEVER THE INPUT: true; the input reads as it did. -/
def sturmProductsSpec : ChangeSpec := { name := "sturmProducts", fn := fun _ => fun
  | [d1, d2, d3, d4] => { results := [.lit (.bool true)], args := [d1, d2, d3, d4] }
  | _ => none }
def sturmProductsRow : OpenClaim := { program := "ytjpalbonclgflaagreat", sum := "d0ed8720178a0f9af9a3baeea373bab4d27bac7d99c0418752f2b8796c48aa22", func := "groove/groovelaw05.SturmProducts", spec := "sturmProducts", unfollowed := true, recurses := true, apart := false }
def SturmProductsSaid : Prop := sturmProductsRow.holds Tryz.pinned (OpenSpec.ofChange sturmProductsSpec)

/-- ITS FALSE NEIGHBOUR: 'it returns false'. Refute it at one input. -/
def sturmProductsWrong : ChangeSpec := { name := "sturmProducts", fn := fun _ => fun
  | [d1, d2, d3, d4] => { results := [.lit (.bool false)], args := [d1, d2, d3, d4] }
  | _ => none }
def SturmProductsWrongFalsely : Prop := sturmProductsRow.holds Tryz.pinned (OpenSpec.ofChange sturmProductsWrong)

/-- 'groovelaw05.SturmBounds': WHATEVER THE INPUT: true; the input reads as it did. -/
def sturmBoundsSpec : ChangeSpec := { name := "sturmBounds", fn := fun _ => fun
  | [d] => { results := [.lit (.bool true)], args := [d] }
  | _ => none }
def sturmBoundsRow : OpenClaim := { program := "ytjpalbonclgflaagreat", sum := "d0ed8720178a0f9af9a3baeea373bab4d27bac7d99c0418752f2b8796c48aa22", func := "groove/groovelaw05.SturmBounds", spec := "sturmBounds", unfollowed := true, recurses := true, apart := false }
def SturmBoundsSaid : Prop := sturmBoundsRow.holds Tryz.pinned (OpenSpec.ofChange sturmBoundsSpec)

/-- ITS FALSE NEIGHBOUR: 'it returns false'. Refute it at one input. -/
def sturmBoundsWrong : ChangeSpec := { name := "sturmBounds", fn := fun _ => fun
  | [d] => { results := [.lit (.bool false)], args := [d] }
  | _ => none }
def SturmBoundsWrongFalsely : Prop := sturmBoundsRow.holds Tryz.pinned (OpenSpec.ofChange sturmBoundsWrong)

/-- 'groovelaw05.SturmSums': WHATEVER THE INPUT: true; the input reads as it did. -/
def sturmSumsSpec : ChangeSpec := { name := "sturmSums", fn := fun _ => fun
  | [d1, d2, d3, d4] => { results := [.lit (.bool true)], args := [d1, d2, d3, d4] }
  | _ => none }
def sturmSumsRow : OpenClaim := { program := "ytjpalbonclgflaagreat", sum := "d0ed8720178a0f9af9a3baeea373bab4d27bac7d99c0418752f2b8796c48aa22", func := "groove/groovelaw05.SturmSums", spec := "sturmSums", unfollowed := true, recurses := true, apart := false }
def SturmSumsSaid : Prop := sturmSumsRow.holds Tryz.pinned (OpenSpec.ofChange sturmSumsSpec)

/-- ITS FALSE NEIGHBOUR: 'it returns false'. Refute it at one input. -/
def sturmSumsWrong : ChangeSpec := { name := "sturmSums", fn := fun _ => fun
  | [d1, d2, d3, d4] => { results := [.lit (.bool false)], args := [d1, d2, d3, d4] }
  | _ => none }
def SturmSumsWrongFalsely : Prop := sturmSumsRow.holds Tryz.pinned (OpenSpec.ofChange sturmSumsWrong)

/- THE SECOND FORM. 'bulk': how many values and letters a reading holds, each counted each time it is reached (what is shared counts as often as it is met; a slice's spare places count too). A statement '..UptoSaid' is the law's where the arguments, and the package variables that the reading takes, are together of bulk at most 1048576: NARROWER than '..Said'. Prove '..Said' where nothing that the law and all that it calls make is longer than what came in: it says more and counts as full. Else prove '..UptoSaid'. A law counts once. -/
mutual
def uptoBulk {H : Type} : DataW H → Nat
  | .lit (.string bytes) => bytes.length + 1
  | .lit _ => 1
  | .nil => 1
  | .ptr d => uptoBulk d + 1
  | .slice elems spare => uptoBulkAll elems + uptoBulkAll spare + 1
  | .agg parts => uptoBulkAll parts + 1
  | .iface _ d => uptoBulk d + 1
  | .map entries => uptoBulkEntries entries + 1
  | .held _ => 1
def uptoBulkAll {H : Type} : List (DataW H) → Nat
  | [] => 0
  | d :: r => uptoBulk d + uptoBulkAll r
def uptoBulkEntries {H : Type} : List (Lit × DataW H) → Nat
  | [] => 0
  | x :: r => uptoBulkEntry x + uptoBulkEntries r
def uptoBulkEntry {H : Type} : Lit × DataW H → Nat
  | (.string bytes, d) => bytes.length + uptoBulk d + 1
  | (_, d) => uptoBulk d + 1
 end
def uptoSmall : (H : Type) → List (DataW H) → Bool := fun _ ds => decide (uptoBulkAll ds ≤ 1048576)
def OpenSpec.upto (s : _root_.Go.ChangeSpec) : _root_.Go.OpenSpec := { _root_.Go.OpenSpec.ofChange s with cond := some uptoSmall }

/-- 'groovelaw05.SturmChains', WHERE WHAT IT READS IS OF BULK AT MOST 1048576: true; the input reads as it did. -/
def sturmChainsUptoRow : OpenClaim := { program := "ytjpalbonclgflaagreat", sum := "d0ed8720178a0f9af9a3baeea373bab4d27bac7d99c0418752f2b8796c48aa22", func := "groove/groovelaw05.SturmChains", spec := "sturmChains", unfollowed := true, recurses := true, apart := false, narrowed := true }
def SturmChainsUptoSaid : Prop := sturmChainsUptoRow.holds Tryz.pinned (OpenSpec.upto sturmChainsSpec)

/-- 'groovelaw05.SturmIntervals', WHERE WHAT IT READS IS OF BULK AT MOST 1048576: true; the input reads as it did. -/
def sturmIntervalsUptoRow : OpenClaim := { program := "ytjpalbonclgflaagreat", sum := "d0ed8720178a0f9af9a3baeea373bab4d27bac7d99c0418752f2b8796c48aa22", func := "groove/groovelaw05.SturmIntervals", spec := "sturmIntervals", unfollowed := true, recurses := true, apart := false, narrowed := true }
def SturmIntervalsUptoSaid : Prop := sturmIntervalsUptoRow.holds Tryz.pinned (OpenSpec.upto sturmIntervalsSpec)

/-- 'groovelaw05.SturmRefines', WHERE WHAT IT READS IS OF BULK AT MOST 1048576: true; the input reads as it did. -/
def sturmRefinesUptoRow : OpenClaim := { program := "ytjpalbonclgflaagreat", sum := "d0ed8720178a0f9af9a3baeea373bab4d27bac7d99c0418752f2b8796c48aa22", func := "groove/groovelaw05.SturmRefines", spec := "sturmRefines", unfollowed := true, recurses := true, apart := false, narrowed := true }
def SturmRefinesUptoSaid : Prop := sturmRefinesUptoRow.holds Tryz.pinned (OpenSpec.upto sturmRefinesSpec)

/-- 'groovelaw05.SturmCounts', WHERE WHAT IT READS IS OF BULK AT MOST 1048576: true; the input reads as it did. -/
def sturmCountsUptoRow : OpenClaim := { program := "ytjpalbonclgflaagreat", sum := "d0ed8720178a0f9af9a3baeea373bab4d27bac7d99c0418752f2b8796c48aa22", func := "groove/groovelaw05.SturmCounts", spec := "sturmCounts", unfollowed := true, recurses := true, apart := false, narrowed := true }
def SturmCountsUptoSaid : Prop := sturmCountsUptoRow.holds Tryz.pinned (OpenSpec.upto sturmCountsSpec)

/-- 'groovelaw05.SturmIsolates', WHERE WHAT IT READS IS OF BULK AT MOST 1048576: true; the input reads as it did. -/
def sturmIsolatesUptoRow : OpenClaim := { program := "ytjpalbonclgflaagreat", sum := "d0ed8720178a0f9af9a3baeea373bab4d27bac7d99c0418752f2b8796c48aa22", func := "groove/groovelaw05.SturmIsolates", spec := "sturmIsolates", unfollowed := true, recurses := true, apart := false, narrowed := true }
def SturmIsolatesUptoSaid : Prop := sturmIsolatesUptoRow.holds Tryz.pinned (OpenSpec.upto sturmIsolatesSpec)

/-- 'groovelaw05.SturmProducts', WHERE WHAT IT READS IS OF BULK AT MOST 1048576: true; the input reads as it did. -/
def sturmProductsUptoRow : OpenClaim := { program := "ytjpalbonclgflaagreat", sum := "d0ed8720178a0f9af9a3baeea373bab4d27bac7d99c0418752f2b8796c48aa22", func := "groove/groovelaw05.SturmProducts", spec := "sturmProducts", unfollowed := true, recurses := true, apart := false, narrowed := true }
def SturmProductsUptoSaid : Prop := sturmProductsUptoRow.holds Tryz.pinned (OpenSpec.upto sturmProductsSpec)

/-- 'groovelaw05.SturmBounds', WHERE WHAT IT READS IS OF BULK AT MOST 1048576: true; the input reads as it did. -/
def sturmBoundsUptoRow : OpenClaim := { program := "ytjpalbonclgflaagreat", sum := "d0ed8720178a0f9af9a3baeea373bab4d27bac7d99c0418752f2b8796c48aa22", func := "groove/groovelaw05.SturmBounds", spec := "sturmBounds", unfollowed := true, recurses := true, apart := false, narrowed := true }
def SturmBoundsUptoSaid : Prop := sturmBoundsUptoRow.holds Tryz.pinned (OpenSpec.upto sturmBoundsSpec)

/-- 'groovelaw05.SturmSums', WHERE WHAT IT READS IS OF BULK AT MOST 1048576: true; the input reads as it did. -/
def sturmSumsUptoRow : OpenClaim := { program := "ytjpalbonclgflaagreat", sum := "d0ed8720178a0f9af9a3baeea373bab4d27bac7d99c0418752f2b8796c48aa22", func := "groove/groovelaw05.SturmSums", spec := "sturmSums", unfollowed := true, recurses := true, apart := false, narrowed := true }
def SturmSumsUptoSaid : Prop := sturmSumsUptoRow.holds Tryz.pinned (OpenSpec.upto sturmSumsSpec)

end Rows
end Go.Proofs.YtjpalbonclgflaaGreat

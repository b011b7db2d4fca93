/-
  No cell of these rows narrows 'for every input' (looked for: loops, veiled, ifaces, maps, wideKeys, modest, calm, conditions, laid).
  DERIVED. THE GIVEN ROWS OF THIS SEAT. 5 by the template 'for every input the law returns true; each argument reads behind the call as it read before'; 0 by the template 'total and deterministic' (their statements: YtalipfnbpnkgnaaTotals.lean).
  GIVEN WITH THE SEED: the statements are not yours to turn. If you find one false, say at which input.
  Laid BY PROGRAM, IN A SANDBOX (cutbox-rows.mjs): the forced cells as the released guide's own fill.sh prints them over the translation 8e686da080314d84… (all of the seat's roots in one cut). By AI agents, Wed Nov 11 2026. No macro, syntax, notation, axiom, sorry.
-/
import Derived.Test.YtalipfnbpnkgnaaChecked
import GoSem.Claim
import GoSem.ClaimJoined
import GoSem.ClaimMapViews
import Derived.JoinedTies
import Derived.KernelRfl
namespace Go.Proofs.Ytalipfnbpnkgnaa
/- THE CELL 'sum', in the pinned program and in every row, IS THE sha256 OF THE DUMP (.gsa) THAT YtalipfnbpnkgnaaProg.lean LOADS. Nothing in Lean hashes anything: it is a label: what it is worth is what the hold of that sum in a sandbox is worth. -/
noncomputable def Try.pinned : Pinned := { name := "ytalipfnbpnkgnaa", sum := "8e686da080314d84f3b13f894081a748c37b43ca223d16040702d222de881d48", checked := Try.checked }
namespace Rows
def none {H : Type} : Left H := { results := [], args := [] }

/-- 'groovelaw29.EnumerativePrincipal': WHATEVER THE INPUT: true; the input reads as it did. -/
def enumerativePrincipalSpec : ChangeSpec := { name := "enumerativePrincipal", fn := fun _ => fun
  | [d1, d2, d3] => { results := [.lit (.bool true)], args := [d1, d2, d3] }
  | _ => none }
def enumerativePrincipalRow : OpenClaim := { program := "ytalipfnbpnkgnaa", sum := "8e686da080314d84f3b13f894081a748c37b43ca223d16040702d222de881d48", func := "groove/groovelaw29.EnumerativePrincipal", spec := "enumerativePrincipal", inPlace := ["internal/bytealg.IndexByteString", "internal/abi.NoEscape"], unfollowed := true, recurses := true, apart := false }
def EnumerativePrincipalSaid : Prop := enumerativePrincipalRow.holds Try.pinned (OpenSpec.ofChange enumerativePrincipalSpec)

/-- ITS FALSE NEIGHBOUR: 'it returns false'. Refute it at one input. -/
def enumerativePrincipalWrong : ChangeSpec := { name := "enumerativePrincipal", fn := fun _ => fun
  | [d1, d2, d3] => { results := [.lit (.bool false)], args := [d1, d2, d3] }
  | _ => none }
def EnumerativePrincipalWrongFalsely : Prop := enumerativePrincipalRow.holds Try.pinned (OpenSpec.ofChange enumerativePrincipalWrong)

/-- 'groovelaw29.EnumerativeBits': WHATEVER THE INPUT: true; the input reads as it did. -/
def enumerativeBitsSpec : ChangeSpec := { name := "enumerativeBits", fn := fun _ => fun
  | [d1, d2] => { results := [.lit (.bool true)], args := [d1, d2] }
  | _ => none }
def enumerativeBitsRow : OpenClaim := { program := "ytalipfnbpnkgnaa", sum := "8e686da080314d84f3b13f894081a748c37b43ca223d16040702d222de881d48", func := "groove/groovelaw29.EnumerativeBits", spec := "enumerativeBits", inPlace := ["internal/bytealg.IndexByteString", "internal/abi.NoEscape"], unfollowed := true, recurses := true, apart := false }
def EnumerativeBitsSaid : Prop := enumerativeBitsRow.holds Try.pinned (OpenSpec.ofChange enumerativeBitsSpec)

/-- ITS FALSE NEIGHBOUR: 'it returns false'. Refute it at one input. -/
def enumerativeBitsWrong : ChangeSpec := { name := "enumerativeBits", fn := fun _ => fun
  | [d1, d2] => { results := [.lit (.bool false)], args := [d1, d2] }
  | _ => none }
def EnumerativeBitsWrongFalsely : Prop := enumerativeBitsRow.holds Try.pinned (OpenSpec.ofChange enumerativeBitsWrong)

/-- 'groovelaw29.EnumerativeGreatest': WHATEVER THE INPUT: true; the input reads as it did. -/
def enumerativeGreatestSpec : ChangeSpec := { name := "enumerativeGreatest", fn := fun _ => fun
  | [d1, d2, d3, d4] => { results := [.lit (.bool true)], args := [d1, d2, d3, d4] }
  | _ => none }
def enumerativeGreatestRow : OpenClaim := { program := "ytalipfnbpnkgnaa", sum := "8e686da080314d84f3b13f894081a748c37b43ca223d16040702d222de881d48", func := "groove/groovelaw29.EnumerativeGreatest", spec := "enumerativeGreatest", inPlace := ["internal/bytealg.IndexByteString", "internal/abi.NoEscape"], unfollowed := true, recurses := true, apart := false }
def EnumerativeGreatestSaid : Prop := enumerativeGreatestRow.holds Try.pinned (OpenSpec.ofChange enumerativeGreatestSpec)

/-- ITS FALSE NEIGHBOUR: 'it returns false'. Refute it at one input. -/
def enumerativeGreatestWrong : ChangeSpec := { name := "enumerativeGreatest", fn := fun _ => fun
  | [d1, d2, d3, d4] => { results := [.lit (.bool false)], args := [d1, d2, d3, d4] }
  | _ => none }
def EnumerativeGreatestWrongFalsely : Prop := enumerativeGreatestRow.holds Try.pinned (OpenSpec.ofChange enumerativeGreatestWrong)

/-- 'groovelaw29.EnumerativeStreams': WHATEVER THE INPUT: true; the input reads as it did. -/
def enumerativeStreamsSpec : ChangeSpec := { name := "enumerativeStreams", fn := fun _ => fun
  | [d1, d2, d3, d4, d5] => { results := [.lit (.bool true)], args := [d1, d2, d3, d4, d5] }
  | _ => none }
def enumerativeStreamsRow : OpenClaim := { program := "ytalipfnbpnkgnaa", sum := "8e686da080314d84f3b13f894081a748c37b43ca223d16040702d222de881d48", func := "groove/groovelaw29.EnumerativeStreams", spec := "enumerativeStreams", inPlace := ["internal/bytealg.IndexByteString", "internal/abi.NoEscape"], unfollowed := true, recurses := true, apart := false }
def EnumerativeStreamsSaid : Prop := enumerativeStreamsRow.holds Try.pinned (OpenSpec.ofChange enumerativeStreamsSpec)

/-- ITS FALSE NEIGHBOUR: 'it returns false'. Refute it at one input. -/
def enumerativeStreamsWrong : ChangeSpec := { name := "enumerativeStreams", fn := fun _ => fun
  | [d1, d2, d3, d4, d5] => { results := [.lit (.bool false)], args := [d1, d2, d3, d4, d5] }
  | _ => none }
def EnumerativeStreamsWrongFalsely : Prop := enumerativeStreamsRow.holds Try.pinned (OpenSpec.ofChange enumerativeStreamsWrong)

/-- 'groovelaw29.EnumerativeOrder': WHATEVER THE INPUT: true; the input reads as it did. -/
def enumerativeOrderSpec : ChangeSpec := { name := "enumerativeOrder", fn := fun _ => fun
  | [d1, d2, d3, d4, d5, d6] => { results := [.lit (.bool true)], args := [d1, d2, d3, d4, d5, d6] }
  | _ => none }
def enumerativeOrderRow : OpenClaim := { program := "ytalipfnbpnkgnaa", sum := "8e686da080314d84f3b13f894081a748c37b43ca223d16040702d222de881d48", func := "groove/groovelaw29.EnumerativeOrder", spec := "enumerativeOrder", inPlace := ["internal/bytealg.IndexByteString", "internal/abi.NoEscape"], unfollowed := true, recurses := true, apart := false }
def EnumerativeOrderSaid : Prop := enumerativeOrderRow.holds Try.pinned (OpenSpec.ofChange enumerativeOrderSpec)

/-- ITS FALSE NEIGHBOUR: 'it returns false'. Refute it at one input. -/
def enumerativeOrderWrong : ChangeSpec := { name := "enumerativeOrder", fn := fun _ => fun
  | [d1, d2, d3, d4, d5, d6] => { results := [.lit (.bool false)], args := [d1, d2, d3, d4, d5, d6] }
  | _ => none }
def EnumerativeOrderWrongFalsely : Prop := enumerativeOrderRow.holds Try.pinned (OpenSpec.ofChange enumerativeOrderWrong)

/- THE SECOND FORM. 'bulk': how many values and letters a reading holds, each counted each time it is reached (what is shared counts as often as it is met; a slice's spare places count too). A statement '..UptoSaid' is the law's where the arguments, and the package variables that the reading takes, are together of bulk at most 1048576: NARROWER than '..Said'. Prove '..Said' where nothing that the law and all that it calls make is longer than what came in: it says more and counts as full. Else prove '..UptoSaid'. A law counts once. -/
mutual
def uptoBulk {H : Type} : DataW H → Nat
  | .lit (.string bytes) => bytes.length + 1
  | .lit _ => 1
  | .nil => 1
  | .ptr d => uptoBulk d + 1
  | .slice elems spare => uptoBulkAll elems + uptoBulkAll spare + 1
  | .agg parts => uptoBulkAll parts + 1
  | .iface _ d => uptoBulk d + 1
  | .map entries => uptoBulkEntries entries + 1
  | .held _ => 1
def uptoBulkAll {H : Type} : List (DataW H) → Nat
  | [] => 0
  | d :: r => uptoBulk d + uptoBulkAll r
def uptoBulkEntries {H : Type} : List (Lit × DataW H) → Nat
  | [] => 0
  | x :: r => uptoBulkEntry x + uptoBulkEntries r
def uptoBulkEntry {H : Type} : Lit × DataW H → Nat
  | (.string bytes, d) => bytes.length + uptoBulk d + 1
  | (_, d) => uptoBulk d + 1
 end
def uptoSmall : (H : Type) → List (DataW H) → Bool := fun _ ds => decide (uptoBulkAll ds ≤ 1048576)
def OpenSpec.upto (s : _root_.Go.ChangeSpec) : _root_.Go.OpenSpec := { _root_.Go.OpenSpec.ofChange s with cond := some uptoSmall }

/-- 'groovelaw29.EnumerativePrincipal', WHERE WHAT IT READS IS OF BULK AT MOST 1048576: true; the input reads as it did. -/
def enumerativePrincipalUptoRow : OpenClaim := { program := "ytalipfnbpnkgnaa", sum := "8e686da080314d84f3b13f894081a748c37b43ca223d16040702d222de881d48", func := "groove/groovelaw29.EnumerativePrincipal", spec := "enumerativePrincipal", inPlace := ["internal/bytealg.IndexByteString", "internal/abi.NoEscape"], unfollowed := true, recurses := true, apart := false, narrowed := true }
def EnumerativePrincipalUptoSaid : Prop := enumerativePrincipalUptoRow.holds Try.pinned (OpenSpec.upto enumerativePrincipalSpec)

/-- 'groovelaw29.EnumerativeBits', WHERE WHAT IT READS IS OF BULK AT MOST 1048576: true; the input reads as it did. -/
def enumerativeBitsUptoRow : OpenClaim := { program := "ytalipfnbpnkgnaa", sum := "8e686da080314d84f3b13f894081a748c37b43ca223d16040702d222de881d48", func := "groove/groovelaw29.EnumerativeBits", spec := "enumerativeBits", inPlace := ["internal/bytealg.IndexByteString", "internal/abi.NoEscape"], unfollowed := true, recurses := true, apart := false, narrowed := true }
def EnumerativeBitsUptoSaid : Prop := enumerativeBitsUptoRow.holds Try.pinned (OpenSpec.upto enumerativeBitsSpec)

/-- 'groovelaw29.EnumerativeGreatest', WHERE WHAT IT READS IS OF BULK AT MOST 1048576: true; the input reads as it did. -/
def enumerativeGreatestUptoRow : OpenClaim := { program := "ytalipfnbpnkgnaa", sum := "8e686da080314d84f3b13f894081a748c37b43ca223d16040702d222de881d48", func := "groove/groovelaw29.EnumerativeGreatest", spec := "enumerativeGreatest", inPlace := ["internal/bytealg.IndexByteString", "internal/abi.NoEscape"], unfollowed := true, recurses := true, apart := false, narrowed := true }
def EnumerativeGreatestUptoSaid : Prop := enumerativeGreatestUptoRow.holds Try.pinned (OpenSpec.upto enumerativeGreatestSpec)

/-- 'groovelaw29.EnumerativeStreams', WHERE WHAT IT READS IS OF BULK AT MOST 1048576: true; the input reads as it did. -/
def enumerativeStreamsUptoRow : OpenClaim := { program := "ytalipfnbpnkgnaa", sum := "8e686da080314d84f3b13f894081a748c37b43ca223d16040702d222de881d48", func := "groove/groovelaw29.EnumerativeStreams", spec := "enumerativeStreams", inPlace := ["internal/bytealg.IndexByteString", "internal/abi.NoEscape"], unfollowed := true, recurses := true, apart := false, narrowed := true }
def EnumerativeStreamsUptoSaid : Prop := enumerativeStreamsUptoRow.holds Try.pinned (OpenSpec.upto enumerativeStreamsSpec)

/-- 'groovelaw29.EnumerativeOrder', WHERE WHAT IT READS IS OF BULK AT MOST 1048576: true; the input reads as it did. -/
def enumerativeOrderUptoRow : OpenClaim := { program := "ytalipfnbpnkgnaa", sum := "8e686da080314d84f3b13f894081a748c37b43ca223d16040702d222de881d48", func := "groove/groovelaw29.EnumerativeOrder", spec := "enumerativeOrder", inPlace := ["internal/bytealg.IndexByteString", "internal/abi.NoEscape"], unfollowed := true, recurses := true, apart := false, narrowed := true }
def EnumerativeOrderUptoSaid : Prop := enumerativeOrderUptoRow.holds Try.pinned (OpenSpec.upto enumerativeOrderSpec)

end Rows
end Go.Proofs.Ytalipfnbpnkgnaa

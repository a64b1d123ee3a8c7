/-
  No cell of these rows narrows 'for every input' (looked for: loops, veiled, ifaces, maps, wideKeys, modest, calm, conditions, laid).
  DERIVED. THE GIVEN ROWS OF THIS SEAT. 5 by the template 'for every input the law returns true; each argument reads behind the call as it read before'; 0 by the template 'total and deterministic' (their statements: YtngbaiijdgmpoaaTotals.lean).
  GIVEN WITH THE SEED: the statements are not yours to turn. If you find one false, say at which input.
  Laid BY PROGRAM, IN A SANDBOX (cutbox-rows.mjs): the forced cells as the released guide's own fill.sh prints them over the translation 11b9e7a3bcedc591… (all of the seat's roots in one cut). By AI agents, Wed Nov 11 2026. No macro, syntax, notation, axiom, sorry.
-/
import Derived.Test.YtngbaiijdgmpoaaChecked
import GoSem.Claim
import GoSem.ClaimJoined
import GoSem.ClaimMapViews
import Derived.JoinedTies
import Derived.KernelRfl
namespace Go.Proofs.Ytngbaiijdgmpoaa
/- THE CELL 'sum', in the pinned program and in every row, IS THE sha256 OF THE DUMP (.gsa) THAT YtngbaiijdgmpoaaProg.lean LOADS. Nothing in Lean hashes anything: it is a label: what it is worth is what the hold of that sum in a sandbox is worth. -/
noncomputable def Try.pinned : Pinned := { name := "ytngbaiijdgmpoaa", sum := "11b9e7a3bcedc5914799d3a4a7200a1ece4c8ae2bfa6d6ec81f63735eb7584e0", checked := Try.checked }
namespace Rows
def none {H : Type} : Left H := { results := [], args := [] }

/-- 'paternosterlaw06.SizesAt': WHATEVER THE INPUT: true; the input reads as it did. -/
def sizesAtSpec : ChangeSpec := { name := "sizesAt", fn := fun _ => fun
  | [d1, d2, d3] => { results := [.lit (.bool true)], args := [d1, d2, d3] }
  | _ => none }
def sizesAtRow : OpenClaim := { program := "ytngbaiijdgmpoaa", sum := "11b9e7a3bcedc5914799d3a4a7200a1ece4c8ae2bfa6d6ec81f63735eb7584e0", func := "paternoster/paternosterlaw06.SizesAt", spec := "sizesAt", unfollowed := true, recurses := true, apart := false }
def SizesAtSaid : Prop := sizesAtRow.holds Try.pinned (OpenSpec.ofChange sizesAtSpec)

/-- ITS FALSE NEIGHBOUR: 'it returns false'. Refute it at one input. -/
def sizesAtWrong : ChangeSpec := { name := "sizesAt", fn := fun _ => fun
  | [d1, d2, d3] => { results := [.lit (.bool false)], args := [d1, d2, d3] }
  | _ => none }
def SizesAtWrongFalsely : Prop := sizesAtRow.holds Try.pinned (OpenSpec.ofChange sizesAtWrong)

/-- 'paternosterlaw06.SizesUnknown': WHATEVER THE INPUT: true; the input reads as it did. -/
def sizesUnknownSpec : ChangeSpec := { name := "sizesUnknown", fn := fun _ => fun
  | [d1, d2, d3] => { results := [.lit (.bool true)], args := [d1, d2, d3] }
  | _ => none }
def sizesUnknownRow : OpenClaim := { program := "ytngbaiijdgmpoaa", sum := "11b9e7a3bcedc5914799d3a4a7200a1ece4c8ae2bfa6d6ec81f63735eb7584e0", func := "paternoster/paternosterlaw06.SizesUnknown", spec := "sizesUnknown", unfollowed := true, recurses := true, apart := false }
def SizesUnknownSaid : Prop := sizesUnknownRow.holds Try.pinned (OpenSpec.ofChange sizesUnknownSpec)

/-- ITS FALSE NEIGHBOUR: 'it returns false'. Refute it at one input. -/
def sizesUnknownWrong : ChangeSpec := { name := "sizesUnknown", fn := fun _ => fun
  | [d1, d2, d3] => { results := [.lit (.bool false)], args := [d1, d2, d3] }
  | _ => none }
def SizesUnknownWrongFalsely : Prop := sizesUnknownRow.holds Try.pinned (OpenSpec.ofChange sizesUnknownWrong)

/-- 'paternosterlaw06.SizesKnown': WHATEVER THE INPUT: true; the input reads as it did. -/
def sizesKnownSpec : ChangeSpec := { name := "sizesKnown", fn := fun _ => fun
  | [] => { results := [.lit (.bool true)], args := [] }
  | _ => none }
def sizesKnownRow : OpenClaim := { program := "ytngbaiijdgmpoaa", sum := "11b9e7a3bcedc5914799d3a4a7200a1ece4c8ae2bfa6d6ec81f63735eb7584e0", func := "paternoster/paternosterlaw06.SizesKnown", spec := "sizesKnown", unfollowed := true, recurses := true, apart := false }
def SizesKnownSaid : Prop := sizesKnownRow.holds Try.pinned (OpenSpec.ofChange sizesKnownSpec)

/-- ITS FALSE NEIGHBOUR: 'it returns false'. Refute it at one input. -/
def sizesKnownWrong : ChangeSpec := { name := "sizesKnown", fn := fun _ => fun
  | [] => { results := [.lit (.bool false)], args := [] }
  | _ => none }
def SizesKnownWrongFalsely : Prop := sizesKnownRow.holds Try.pinned (OpenSpec.ofChange sizesKnownWrong)

/-- 'paternosterlaw06.SizesScript': WHATEVER THE INPUT: true; the input reads as it did. -/
def sizesScriptSpec : ChangeSpec := { name := "sizesScript", fn := fun _ => fun
  | [d1, d2] => { results := [.lit (.bool true)], args := [d1, d2] }
  | _ => none }
def sizesScriptRow : OpenClaim := { program := "ytngbaiijdgmpoaa", sum := "11b9e7a3bcedc5914799d3a4a7200a1ece4c8ae2bfa6d6ec81f63735eb7584e0", func := "paternoster/paternosterlaw06.SizesScript", spec := "sizesScript", unfollowed := true, recurses := true, apart := false }
def SizesScriptSaid : Prop := sizesScriptRow.holds Try.pinned (OpenSpec.ofChange sizesScriptSpec)

/-- ITS FALSE NEIGHBOUR: 'it returns false'. Refute it at one input. -/
def sizesScriptWrong : ChangeSpec := { name := "sizesScript", fn := fun _ => fun
  | [d1, d2] => { results := [.lit (.bool false)], args := [d1, d2] }
  | _ => none }
def SizesScriptWrongFalsely : Prop := sizesScriptRow.holds Try.pinned (OpenSpec.ofChange sizesScriptWrong)

/-- 'paternosterlaw06.SizesMoves': WHATEVER THE INPUT: true; the input reads as it did. -/
def sizesMovesSpec : ChangeSpec := { name := "sizesMoves", fn := fun _ => fun
  | [d1, d2] => { results := [.lit (.bool true)], args := [d1, d2] }
  | _ => none }
def sizesMovesRow : OpenClaim := { program := "ytngbaiijdgmpoaa", sum := "11b9e7a3bcedc5914799d3a4a7200a1ece4c8ae2bfa6d6ec81f63735eb7584e0", func := "paternoster/paternosterlaw06.SizesMoves", spec := "sizesMoves", unfollowed := true, recurses := true, apart := false }
def SizesMovesSaid : Prop := sizesMovesRow.holds Try.pinned (OpenSpec.ofChange sizesMovesSpec)

/-- ITS FALSE NEIGHBOUR: 'it returns false'. Refute it at one input. -/
def sizesMovesWrong : ChangeSpec := { name := "sizesMoves", fn := fun _ => fun
  | [d1, d2] => { results := [.lit (.bool false)], args := [d1, d2] }
  | _ => none }
def SizesMovesWrongFalsely : Prop := sizesMovesRow.holds Try.pinned (OpenSpec.ofChange sizesMovesWrong)

/- THE SECOND FORM. 'bulk': how many values and letters a reading holds, each counted each time it is reached (what is shared counts as often as it is met; a slice's spare places count too). A statement '..UptoSaid' is the law's where the arguments, and the package variables that the reading takes, are together of bulk at most 1048576: NARROWER than '..Said'. Prove '..Said' where nothing that the law and all that it calls make is longer than what came in: it says more and counts as full. Else prove '..UptoSaid'. A law counts once. -/
mutual
def uptoBulk {H : Type} : DataW H → Nat
  | .lit (.string bytes) => bytes.length + 1
  | .lit _ => 1
  | .nil => 1
  | .ptr d => uptoBulk d + 1
  | .slice elems spare => uptoBulkAll elems + uptoBulkAll spare + 1
  | .agg parts => uptoBulkAll parts + 1
  | .iface _ d => uptoBulk d + 1
  | .map entries => uptoBulkEntries entries + 1
  | .held _ => 1
def uptoBulkAll {H : Type} : List (DataW H) → Nat
  | [] => 0
  | d :: r => uptoBulk d + uptoBulkAll r
def uptoBulkEntries {H : Type} : List (Lit × DataW H) → Nat
  | [] => 0
  | x :: r => uptoBulkEntry x + uptoBulkEntries r
def uptoBulkEntry {H : Type} : Lit × DataW H → Nat
  | (.string bytes, d) => bytes.length + uptoBulk d + 1
  | (_, d) => uptoBulk d + 1
 end
def uptoSmall : (H : Type) → List (DataW H) → Bool := fun _ ds => decide (uptoBulkAll ds ≤ 1048576)
def OpenSpec.upto (s : _root_.Go.ChangeSpec) : _root_.Go.OpenSpec := { _root_.Go.OpenSpec.ofChange s with cond := some uptoSmall }

/-- 'paternosterlaw06.SizesAt', WHERE WHAT IT READS IS OF BULK AT MOST 1048576: true; the input reads as it did. -/
def sizesAtUptoRow : OpenClaim := { program := "ytngbaiijdgmpoaa", sum := "11b9e7a3bcedc5914799d3a4a7200a1ece4c8ae2bfa6d6ec81f63735eb7584e0", func := "paternoster/paternosterlaw06.SizesAt", spec := "sizesAt", unfollowed := true, recurses := true, apart := false, narrowed := true }
def SizesAtUptoSaid : Prop := sizesAtUptoRow.holds Try.pinned (OpenSpec.upto sizesAtSpec)

/-- 'paternosterlaw06.SizesUnknown', WHERE WHAT IT READS IS OF BULK AT MOST 1048576: true; the input reads as it did. -/
def sizesUnknownUptoRow : OpenClaim := { program := "ytngbaiijdgmpoaa", sum := "11b9e7a3bcedc5914799d3a4a7200a1ece4c8ae2bfa6d6ec81f63735eb7584e0", func := "paternoster/paternosterlaw06.SizesUnknown", spec := "sizesUnknown", unfollowed := true, recurses := true, apart := false, narrowed := true }
def SizesUnknownUptoSaid : Prop := sizesUnknownUptoRow.holds Try.pinned (OpenSpec.upto sizesUnknownSpec)

/-- 'paternosterlaw06.SizesKnown', WHERE WHAT IT READS IS OF BULK AT MOST 1048576: true; the input reads as it did. -/
def sizesKnownUptoRow : OpenClaim := { program := "ytngbaiijdgmpoaa", sum := "11b9e7a3bcedc5914799d3a4a7200a1ece4c8ae2bfa6d6ec81f63735eb7584e0", func := "paternoster/paternosterlaw06.SizesKnown", spec := "sizesKnown", unfollowed := true, recurses := true, apart := false, narrowed := true }
def SizesKnownUptoSaid : Prop := sizesKnownUptoRow.holds Try.pinned (OpenSpec.upto sizesKnownSpec)

/-- 'paternosterlaw06.SizesScript', WHERE WHAT IT READS IS OF BULK AT MOST 1048576: true; the input reads as it did. -/
def sizesScriptUptoRow : OpenClaim := { program := "ytngbaiijdgmpoaa", sum := "11b9e7a3bcedc5914799d3a4a7200a1ece4c8ae2bfa6d6ec81f63735eb7584e0", func := "paternoster/paternosterlaw06.SizesScript", spec := "sizesScript", unfollowed := true, recurses := true, apart := false, narrowed := true }
def SizesScriptUptoSaid : Prop := sizesScriptUptoRow.holds Try.pinned (OpenSpec.upto sizesScriptSpec)

/-- 'paternosterlaw06.SizesMoves', WHERE WHAT IT READS IS OF BULK AT MOST 1048576: true; the input reads as it did. -/
def sizesMovesUptoRow : OpenClaim := { program := "ytngbaiijdgmpoaa", sum := "11b9e7a3bcedc5914799d3a4a7200a1ece4c8ae2bfa6d6ec81f63735eb7584e0", func := "paternoster/paternosterlaw06.SizesMoves", spec := "sizesMoves", unfollowed := true, recurses := true, apart := false, narrowed := true }
def SizesMovesUptoSaid : Prop := sizesMovesUptoRow.holds Try.pinned (OpenSpec.upto sizesMovesSpec)

end Rows
end Go.Proofs.Ytngbaiijdgmpoaa

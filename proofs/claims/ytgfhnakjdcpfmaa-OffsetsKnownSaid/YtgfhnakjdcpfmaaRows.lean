/-
  No cell of these rows narrows 'for every input' (looked for: loops, veiled, ifaces, maps, wideKeys, modest, calm, conditions, laid).
  DERIVED. THE GIVEN ROWS OF THIS SEAT. 7 by the template 'for every input the law returns true; each argument reads behind the call as it read before'; 0 by the template 'total and deterministic' (their statements: YtgfhnakjdcpfmaaTotals.lean).
  GIVEN WITH THE SEED: the statements are not yours to turn. If you find one false, say at which input.
  Laid BY PROGRAM, IN A SANDBOX (cutbox-rows.mjs): the forced cells as the released guide's own fill.sh prints them over the translation 6a831108ae07c2ae… (all of the seat's roots in one cut). By AI agents, Wed Nov 11 2026. No macro, syntax, notation, axiom, sorry.
-/
import Derived.Test.YtgfhnakjdcpfmaaChecked
import GoSem.Claim
import GoSem.ClaimJoined
import GoSem.ClaimMapViews
import Derived.JoinedTies
import Derived.KernelRfl
namespace Go.Proofs.Ytgfhnakjdcpfmaa
/- THE CELL 'sum', in the pinned program and in every row, IS THE sha256 OF THE DUMP (.gsa) THAT YtgfhnakjdcpfmaaProg.lean LOADS. Nothing in Lean hashes anything: it is a label: what it is worth is what the hold of that sum in a sandbox is worth. -/
noncomputable def Try.pinned : Pinned := { name := "ytgfhnakjdcpfmaa", sum := "6a831108ae07c2ae39bbf591d82b31fcce6853f63dbadb2ad4e8836dd6053542", checked := Try.checked }
namespace Rows
def none {H : Type} : Left H := { results := [], args := [] }

/-- 'paternosterlaw10.OffsetsPlus': WHATEVER THE INPUT: true; the input reads as it did. -/
def offsetsPlusSpec : ChangeSpec := { name := "offsetsPlus", fn := fun _ => fun
  | [d1, d2] => { results := [.lit (.bool true)], args := [d1, d2] }
  | _ => none }
def offsetsPlusRow : OpenClaim := { program := "ytgfhnakjdcpfmaa", sum := "6a831108ae07c2ae39bbf591d82b31fcce6853f63dbadb2ad4e8836dd6053542", func := "paternoster/paternosterlaw10.OffsetsPlus", spec := "offsetsPlus", inPlace := ["math.archTrunc", "math.Float64bits", "math.Float64frombits"], apart := false }
def OffsetsPlusSaid : Prop := offsetsPlusRow.holds Try.pinned (OpenSpec.ofChange offsetsPlusSpec)

/-- ITS FALSE NEIGHBOUR: 'it returns false'. Refute it at one input. -/
def offsetsPlusWrong : ChangeSpec := { name := "offsetsPlus", fn := fun _ => fun
  | [d1, d2] => { results := [.lit (.bool false)], args := [d1, d2] }
  | _ => none }
def OffsetsPlusWrongFalsely : Prop := offsetsPlusRow.holds Try.pinned (OpenSpec.ofChange offsetsPlusWrong)

/-- 'paternosterlaw10.OffsetsClamp': WHATEVER THE INPUT: true; the input reads as it did. -/
def offsetsClampSpec : ChangeSpec := { name := "offsetsClamp", fn := fun _ => fun
  | [d1, d2, d3] => { results := [.lit (.bool true)], args := [d1, d2, d3] }
  | _ => none }
def offsetsClampRow : OpenClaim := { program := "ytgfhnakjdcpfmaa", sum := "6a831108ae07c2ae39bbf591d82b31fcce6853f63dbadb2ad4e8836dd6053542", func := "paternoster/paternosterlaw10.OffsetsClamp", spec := "offsetsClamp", inPlace := ["math.archTrunc", "math.Float64bits", "math.Float64frombits"], apart := false }
def OffsetsClampSaid : Prop := offsetsClampRow.holds Try.pinned (OpenSpec.ofChange offsetsClampSpec)

/-- ITS FALSE NEIGHBOUR: 'it returns false'. Refute it at one input. -/
def offsetsClampWrong : ChangeSpec := { name := "offsetsClamp", fn := fun _ => fun
  | [d1, d2, d3] => { results := [.lit (.bool false)], args := [d1, d2, d3] }
  | _ => none }
def OffsetsClampWrongFalsely : Prop := offsetsClampRow.holds Try.pinned (OpenSpec.ofChange offsetsClampWrong)

/-- 'paternosterlaw10.OffsetsCeil': WHATEVER THE INPUT: true; the input reads as it did. -/
def offsetsCeilSpec : ChangeSpec := { name := "offsetsCeil", fn := fun _ => fun
  | [d1, d2, d3] => { results := [.lit (.bool true)], args := [d1, d2, d3] }
  | _ => none }
def offsetsCeilRow : OpenClaim := { program := "ytgfhnakjdcpfmaa", sum := "6a831108ae07c2ae39bbf591d82b31fcce6853f63dbadb2ad4e8836dd6053542", func := "paternoster/paternosterlaw10.OffsetsCeil", spec := "offsetsCeil", inPlace := ["math.archTrunc", "math.Float64bits", "math.Float64frombits"], apart := false }
def OffsetsCeilSaid : Prop := offsetsCeilRow.holds Try.pinned (OpenSpec.ofChange offsetsCeilSpec)

/-- ITS FALSE NEIGHBOUR: 'it returns false'. Refute it at one input. -/
def offsetsCeilWrong : ChangeSpec := { name := "offsetsCeil", fn := fun _ => fun
  | [d1, d2, d3] => { results := [.lit (.bool false)], args := [d1, d2, d3] }
  | _ => none }
def OffsetsCeilWrongFalsely : Prop := offsetsCeilRow.holds Try.pinned (OpenSpec.ofChange offsetsCeilWrong)

/-- 'paternosterlaw10.OffsetsTops': WHATEVER THE INPUT: true; the input reads as it did. -/
def offsetsTopsSpec : ChangeSpec := { name := "offsetsTops", fn := fun _ => fun
  | [d] => { results := [.lit (.bool true)], args := [d] }
  | _ => none }
def offsetsTopsRow : OpenClaim := { program := "ytgfhnakjdcpfmaa", sum := "6a831108ae07c2ae39bbf591d82b31fcce6853f63dbadb2ad4e8836dd6053542", func := "paternoster/paternosterlaw10.OffsetsTops", spec := "offsetsTops", inPlace := ["math.archTrunc", "math.Float64bits", "math.Float64frombits"], apart := false }
def OffsetsTopsSaid : Prop := offsetsTopsRow.holds Try.pinned (OpenSpec.ofChange offsetsTopsSpec)

/-- ITS FALSE NEIGHBOUR: 'it returns false'. Refute it at one input. -/
def offsetsTopsWrong : ChangeSpec := { name := "offsetsTops", fn := fun _ => fun
  | [d] => { results := [.lit (.bool false)], args := [d] }
  | _ => none }
def OffsetsTopsWrongFalsely : Prop := offsetsTopsRow.holds Try.pinned (OpenSpec.ofChange offsetsTopsWrong)

/-- 'paternosterlaw10.OffsetsMeets': WHATEVER THE INPUT: true; the input reads as it did. -/
def offsetsMeetsSpec : ChangeSpec := { name := "offsetsMeets", fn := fun _ => fun
  | [d1, d2, d3] => { results := [.lit (.bool true)], args := [d1, d2, d3] }
  | _ => none }
def offsetsMeetsRow : OpenClaim := { program := "ytgfhnakjdcpfmaa", sum := "6a831108ae07c2ae39bbf591d82b31fcce6853f63dbadb2ad4e8836dd6053542", func := "paternoster/paternosterlaw10.OffsetsMeets", spec := "offsetsMeets", inPlace := ["math.archTrunc", "math.Float64bits", "math.Float64frombits"], apart := false }
def OffsetsMeetsSaid : Prop := offsetsMeetsRow.holds Try.pinned (OpenSpec.ofChange offsetsMeetsSpec)

/-- ITS FALSE NEIGHBOUR: 'it returns false'. Refute it at one input. -/
def offsetsMeetsWrong : ChangeSpec := { name := "offsetsMeets", fn := fun _ => fun
  | [d1, d2, d3] => { results := [.lit (.bool false)], args := [d1, d2, d3] }
  | _ => none }
def OffsetsMeetsWrongFalsely : Prop := offsetsMeetsRow.holds Try.pinned (OpenSpec.ofChange offsetsMeetsWrong)

/-- 'paternosterlaw10.OffsetsRows': WHATEVER THE INPUT: true; the input reads as it did. -/
def offsetsRowsSpec : ChangeSpec := { name := "offsetsRows", fn := fun _ => fun
  | [d1, d2] => { results := [.lit (.bool true)], args := [d1, d2] }
  | _ => none }
def offsetsRowsRow : OpenClaim := { program := "ytgfhnakjdcpfmaa", sum := "6a831108ae07c2ae39bbf591d82b31fcce6853f63dbadb2ad4e8836dd6053542", func := "paternoster/paternosterlaw10.OffsetsRows", spec := "offsetsRows", inPlace := ["math.archTrunc", "math.Float64bits", "math.Float64frombits"], apart := false }
def OffsetsRowsSaid : Prop := offsetsRowsRow.holds Try.pinned (OpenSpec.ofChange offsetsRowsSpec)

/-- ITS FALSE NEIGHBOUR: 'it returns false'. Refute it at one input. -/
def offsetsRowsWrong : ChangeSpec := { name := "offsetsRows", fn := fun _ => fun
  | [d1, d2] => { results := [.lit (.bool false)], args := [d1, d2] }
  | _ => none }
def OffsetsRowsWrongFalsely : Prop := offsetsRowsRow.holds Try.pinned (OpenSpec.ofChange offsetsRowsWrong)

/-- 'paternosterlaw10.OffsetsKnown': WHATEVER THE INPUT: true; the input reads as it did. -/
def offsetsKnownSpec : ChangeSpec := { name := "offsetsKnown", fn := fun _ => fun
  | [] => { results := [.lit (.bool true)], args := [] }
  | _ => none }
def offsetsKnownRow : OpenClaim := { program := "ytgfhnakjdcpfmaa", sum := "6a831108ae07c2ae39bbf591d82b31fcce6853f63dbadb2ad4e8836dd6053542", func := "paternoster/paternosterlaw10.OffsetsKnown", spec := "offsetsKnown", inPlace := ["math.archTrunc", "math.Float64bits", "math.Float64frombits"], apart := false }
def OffsetsKnownSaid : Prop := offsetsKnownRow.holds Try.pinned (OpenSpec.ofChange offsetsKnownSpec)

/-- ITS FALSE NEIGHBOUR: 'it returns false'. Refute it at one input. -/
def offsetsKnownWrong : ChangeSpec := { name := "offsetsKnown", fn := fun _ => fun
  | [] => { results := [.lit (.bool false)], args := [] }
  | _ => none }
def OffsetsKnownWrongFalsely : Prop := offsetsKnownRow.holds Try.pinned (OpenSpec.ofChange offsetsKnownWrong)

/- THE SECOND FORM. 'bulk': how many values and letters a reading holds, each counted each time it is reached (what is shared counts as often as it is met; a slice's spare places count too). A statement '..UptoSaid' is the law's where the arguments, and the package variables that the reading takes, are together of bulk at most 1048576: NARROWER than '..Said'. Prove '..Said' where nothing that the law and all that it calls make is longer than what came in: it says more and counts as full. Else prove '..UptoSaid'. A law counts once. -/
mutual
def uptoBulk {H : Type} : DataW H → Nat
  | .lit (.string bytes) => bytes.length + 1
  | .lit _ => 1
  | .nil => 1
  | .ptr d => uptoBulk d + 1
  | .slice elems spare => uptoBulkAll elems + uptoBulkAll spare + 1
  | .agg parts => uptoBulkAll parts + 1
  | .iface _ d => uptoBulk d + 1
  | .map entries => uptoBulkEntries entries + 1
  | .held _ => 1
def uptoBulkAll {H : Type} : List (DataW H) → Nat
  | [] => 0
  | d :: r => uptoBulk d + uptoBulkAll r
def uptoBulkEntries {H : Type} : List (Lit × DataW H) → Nat
  | [] => 0
  | x :: r => uptoBulkEntry x + uptoBulkEntries r
def uptoBulkEntry {H : Type} : Lit × DataW H → Nat
  | (.string bytes, d) => bytes.length + uptoBulk d + 1
  | (_, d) => uptoBulk d + 1
 end
def uptoSmall : (H : Type) → List (DataW H) → Bool := fun _ ds => decide (uptoBulkAll ds ≤ 1048576)
def OpenSpec.upto (s : _root_.Go.ChangeSpec) : _root_.Go.OpenSpec := { _root_.Go.OpenSpec.ofChange s with cond := some uptoSmall }

/-- 'paternosterlaw10.OffsetsPlus', WHERE WHAT IT READS IS OF BULK AT MOST 1048576: true; the input reads as it did. -/
def offsetsPlusUptoRow : OpenClaim := { program := "ytgfhnakjdcpfmaa", sum := "6a831108ae07c2ae39bbf591d82b31fcce6853f63dbadb2ad4e8836dd6053542", func := "paternoster/paternosterlaw10.OffsetsPlus", spec := "offsetsPlus", inPlace := ["math.archTrunc", "math.Float64bits", "math.Float64frombits"], apart := false, narrowed := true }
def OffsetsPlusUptoSaid : Prop := offsetsPlusUptoRow.holds Try.pinned (OpenSpec.upto offsetsPlusSpec)

/-- 'paternosterlaw10.OffsetsClamp', WHERE WHAT IT READS IS OF BULK AT MOST 1048576: true; the input reads as it did. -/
def offsetsClampUptoRow : OpenClaim := { program := "ytgfhnakjdcpfmaa", sum := "6a831108ae07c2ae39bbf591d82b31fcce6853f63dbadb2ad4e8836dd6053542", func := "paternoster/paternosterlaw10.OffsetsClamp", spec := "offsetsClamp", inPlace := ["math.archTrunc", "math.Float64bits", "math.Float64frombits"], apart := false, narrowed := true }
def OffsetsClampUptoSaid : Prop := offsetsClampUptoRow.holds Try.pinned (OpenSpec.upto offsetsClampSpec)

/-- 'paternosterlaw10.OffsetsCeil', WHERE WHAT IT READS IS OF BULK AT MOST 1048576: true; the input reads as it did. -/
def offsetsCeilUptoRow : OpenClaim := { program := "ytgfhnakjdcpfmaa", sum := "6a831108ae07c2ae39bbf591d82b31fcce6853f63dbadb2ad4e8836dd6053542", func := "paternoster/paternosterlaw10.OffsetsCeil", spec := "offsetsCeil", inPlace := ["math.archTrunc", "math.Float64bits", "math.Float64frombits"], apart := false, narrowed := true }
def OffsetsCeilUptoSaid : Prop := offsetsCeilUptoRow.holds Try.pinned (OpenSpec.upto offsetsCeilSpec)

/-- 'paternosterlaw10.OffsetsTops', WHERE WHAT IT READS IS OF BULK AT MOST 1048576: true; the input reads as it did. -/
def offsetsTopsUptoRow : OpenClaim := { program := "ytgfhnakjdcpfmaa", sum := "6a831108ae07c2ae39bbf591d82b31fcce6853f63dbadb2ad4e8836dd6053542", func := "paternoster/paternosterlaw10.OffsetsTops", spec := "offsetsTops", inPlace := ["math.archTrunc", "math.Float64bits", "math.Float64frombits"], apart := false, narrowed := true }
def OffsetsTopsUptoSaid : Prop := offsetsTopsUptoRow.holds Try.pinned (OpenSpec.upto offsetsTopsSpec)

/-- 'paternosterlaw10.OffsetsMeets', WHERE WHAT IT READS IS OF BULK AT MOST 1048576: true; the input reads as it did. -/
def offsetsMeetsUptoRow : OpenClaim := { program := "ytgfhnakjdcpfmaa", sum := "6a831108ae07c2ae39bbf591d82b31fcce6853f63dbadb2ad4e8836dd6053542", func := "paternoster/paternosterlaw10.OffsetsMeets", spec := "offsetsMeets", inPlace := ["math.archTrunc", "math.Float64bits", "math.Float64frombits"], apart := false, narrowed := true }
def OffsetsMeetsUptoSaid : Prop := offsetsMeetsUptoRow.holds Try.pinned (OpenSpec.upto offsetsMeetsSpec)

/-- 'paternosterlaw10.OffsetsRows', WHERE WHAT IT READS IS OF BULK AT MOST 1048576: true; the input reads as it did. -/
def offsetsRowsUptoRow : OpenClaim := { program := "ytgfhnakjdcpfmaa", sum := "6a831108ae07c2ae39bbf591d82b31fcce6853f63dbadb2ad4e8836dd6053542", func := "paternoster/paternosterlaw10.OffsetsRows", spec := "offsetsRows", inPlace := ["math.archTrunc", "math.Float64bits", "math.Float64frombits"], apart := false, narrowed := true }
def OffsetsRowsUptoSaid : Prop := offsetsRowsUptoRow.holds Try.pinned (OpenSpec.upto offsetsRowsSpec)

/-- 'paternosterlaw10.OffsetsKnown', WHERE WHAT IT READS IS OF BULK AT MOST 1048576: true; the input reads as it did. -/
def offsetsKnownUptoRow : OpenClaim := { program := "ytgfhnakjdcpfmaa", sum := "6a831108ae07c2ae39bbf591d82b31fcce6853f63dbadb2ad4e8836dd6053542", func := "paternoster/paternosterlaw10.OffsetsKnown", spec := "offsetsKnown", inPlace := ["math.archTrunc", "math.Float64bits", "math.Float64frombits"], apart := false, narrowed := true }
def OffsetsKnownUptoSaid : Prop := offsetsKnownUptoRow.holds Try.pinned (OpenSpec.upto offsetsKnownSpec)

end Rows
end Go.Proofs.Ytgfhnakjdcpfmaa

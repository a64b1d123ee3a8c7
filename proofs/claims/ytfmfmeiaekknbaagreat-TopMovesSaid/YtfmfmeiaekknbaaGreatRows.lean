/-
  No cell of these rows narrows 'for every input' (looked for: loops, veiled, ifaces, maps, wideKeys, modest, calm, conditions, laid).
  DERIVED. THE GIVEN ROWS OF THIS SEAT. 4 by the template 'for every input the law returns true; each argument reads behind the call as it read before'; 0 by the template 'total and deterministic' (their statements: YtfmfmeiaekknbaaGreatTotals.lean).
  GIVEN WITH THE SEED: the statements are not yours to turn. If you find one false, say at which input.
  Laid BY PROGRAM, IN A SANDBOX (cutbox-rows.mjs): the forced cells as the released guide's own fill.sh prints them over the translation 33bbf18ed48b3abd… (all of the seat's roots in one cut). By AI agents, Wed Nov 11 2026. No macro, syntax, notation, axiom, sorry.
-/
import Derived.Test.YtfmfmeiaekknbaaGreatChecked
import GoSem.Claim
import GoSem.ClaimJoined
import GoSem.ClaimMapViews
import Derived.JoinedTies
import Derived.KernelRfl
namespace Go.Proofs.YtfmfmeiaekknbaaGreat
/- THE CELL 'sum', in the pinned program and in every row, IS THE sha256 OF THE DUMP (.gsa) THAT YtfmfmeiaekknbaaGreatProg.lean LOADS. Nothing in Lean hashes anything: it is a label: what it is worth is what the hold of that sum in a sandbox is worth. -/
noncomputable def Tryz.pinned : Pinned := { name := "ytfmfmeiaekknbaagreat", sum := "33bbf18ed48b3abd522ca6edcc68a594813e413456123edd965ec7af1c40ffca", checked := Tryz.checked }
namespace Rows
def none {H : Type} : Left H := { results := [], args := [] }

/-- 'paternostertop.TopOffsets': WHATEVER THE INPUT: true; the input reads as it did. -/
def topOffsetsSpec : ChangeSpec := { name := "topOffsets", fn := fun _ => fun
  | [d1, d2] => { results := [.lit (.bool true)], args := [d1, d2] }
  | _ => none }
def topOffsetsRow : OpenClaim := { program := "ytfmfmeiaekknbaagreat", sum := "33bbf18ed48b3abd522ca6edcc68a594813e413456123edd965ec7af1c40ffca", func := "paternoster/paternostertop.TopOffsets", spec := "topOffsets", unfollowed := true, recurses := true, apart := false }
def TopOffsetsSaid : Prop := topOffsetsRow.holds Tryz.pinned (OpenSpec.ofChange topOffsetsSpec)

/-- ITS FALSE NEIGHBOUR: 'it returns false'. Refute it at one input. -/
def topOffsetsWrong : ChangeSpec := { name := "topOffsets", fn := fun _ => fun
  | [d1, d2] => { results := [.lit (.bool false)], args := [d1, d2] }
  | _ => none }
def TopOffsetsWrongFalsely : Prop := topOffsetsRow.holds Tryz.pinned (OpenSpec.ofChange topOffsetsWrong)

/-- 'paternostertop.TopOrders': WHATEVER THE INPUT: true; the input reads as it did. -/
def topOrdersSpec : ChangeSpec := { name := "topOrders", fn := fun _ => fun
  | [d] => { results := [.lit (.bool true)], args := [d] }
  | _ => none }
def topOrdersRow : OpenClaim := { program := "ytfmfmeiaekknbaagreat", sum := "33bbf18ed48b3abd522ca6edcc68a594813e413456123edd965ec7af1c40ffca", func := "paternoster/paternostertop.TopOrders", spec := "topOrders", unfollowed := true, recurses := true, apart := false }
def TopOrdersSaid : Prop := topOrdersRow.holds Tryz.pinned (OpenSpec.ofChange topOrdersSpec)

/-- ITS FALSE NEIGHBOUR: 'it returns false'. Refute it at one input. -/
def topOrdersWrong : ChangeSpec := { name := "topOrders", fn := fun _ => fun
  | [d] => { results := [.lit (.bool false)], args := [d] }
  | _ => none }
def TopOrdersWrongFalsely : Prop := topOrdersRow.holds Tryz.pinned (OpenSpec.ofChange topOrdersWrong)

/-- 'paternostertop.TopBound': WHATEVER THE INPUT: true; the input reads as it did. -/
def topBoundSpec : ChangeSpec := { name := "topBound", fn := fun _ => fun
  | [d1, d2, d3] => { results := [.lit (.bool true)], args := [d1, d2, d3] }
  | _ => none }
def topBoundRow : OpenClaim := { program := "ytfmfmeiaekknbaagreat", sum := "33bbf18ed48b3abd522ca6edcc68a594813e413456123edd965ec7af1c40ffca", func := "paternoster/paternostertop.TopBound", spec := "topBound", inPlace := ["math.archTrunc", "math.Float64bits", "math.Float64frombits"], unfollowed := true, recurses := true, apart := false }
def TopBoundSaid : Prop := topBoundRow.holds Tryz.pinned (OpenSpec.ofChange topBoundSpec)

/-- ITS FALSE NEIGHBOUR: 'it returns false'. Refute it at one input. -/
def topBoundWrong : ChangeSpec := { name := "topBound", fn := fun _ => fun
  | [d1, d2, d3] => { results := [.lit (.bool false)], args := [d1, d2, d3] }
  | _ => none }
def TopBoundWrongFalsely : Prop := topBoundRow.holds Tryz.pinned (OpenSpec.ofChange topBoundWrong)

/-- 'paternostertop.TopMoves': WHATEVER THE INPUT: true; the input reads as it did. -/
def topMovesSpec : ChangeSpec := { name := "topMoves", fn := fun _ => fun
  | [d1, d2] => { results := [.lit (.bool true)], args := [d1, d2] }
  | _ => none }
def topMovesRow : OpenClaim := { program := "ytfmfmeiaekknbaagreat", sum := "33bbf18ed48b3abd522ca6edcc68a594813e413456123edd965ec7af1c40ffca", func := "paternoster/paternostertop.TopMoves", spec := "topMoves", inPlace := ["slices.overlaps[int]"], unfollowed := true, recurses := true, apart := false }
def TopMovesSaid : Prop := topMovesRow.holds Tryz.pinned (OpenSpec.ofChange topMovesSpec)

/-- ITS FALSE NEIGHBOUR: 'it returns false'. Refute it at one input. -/
def topMovesWrong : ChangeSpec := { name := "topMoves", fn := fun _ => fun
  | [d1, d2] => { results := [.lit (.bool false)], args := [d1, d2] }
  | _ => none }
def TopMovesWrongFalsely : Prop := topMovesRow.holds Tryz.pinned (OpenSpec.ofChange topMovesWrong)

/- THE SECOND FORM. 'bulk': how many values and letters a reading holds, each counted each time it is reached (what is shared counts as often as it is met; a slice's spare places count too). A statement '..UptoSaid' is the law's where the arguments, and the package variables that the reading takes, are together of bulk at most 1048576: NARROWER than '..Said'. Prove '..Said' where nothing that the law and all that it calls make is longer than what came in: it says more and counts as full. Else prove '..UptoSaid'. A law counts once. -/
mutual
def uptoBulk {H : Type} : DataW H → Nat
  | .lit (.string bytes) => bytes.length + 1
  | .lit _ => 1
  | .nil => 1
  | .ptr d => uptoBulk d + 1
  | .slice elems spare => uptoBulkAll elems + uptoBulkAll spare + 1
  | .agg parts => uptoBulkAll parts + 1
  | .iface _ d => uptoBulk d + 1
  | .map entries => uptoBulkEntries entries + 1
  | .held _ => 1
def uptoBulkAll {H : Type} : List (DataW H) → Nat
  | [] => 0
  | d :: r => uptoBulk d + uptoBulkAll r
def uptoBulkEntries {H : Type} : List (Lit × DataW H) → Nat
  | [] => 0
  | x :: r => uptoBulkEntry x + uptoBulkEntries r
def uptoBulkEntry {H : Type} : Lit × DataW H → Nat
  | (.string bytes, d) => bytes.length + uptoBulk d + 1
  | (_, d) => uptoBulk d + 1
 end
def uptoSmall : (H : Type) → List (DataW H) → Bool := fun _ ds => decide (uptoBulkAll ds ≤ 1048576)
def OpenSpec.upto (s : _root_.Go.ChangeSpec) : _root_.Go.OpenSpec := { _root_.Go.OpenSpec.ofChange s with cond := some uptoSmall }

/-- 'paternostertop.TopOffsets', WHERE WHAT IT READS IS OF BULK AT MOST 1048576: true; the input reads as it did. -/
def topOffsetsUptoRow : OpenClaim := { program := "ytfmfmeiaekknbaagreat", sum := "33bbf18ed48b3abd522ca6edcc68a594813e413456123edd965ec7af1c40ffca", func := "paternoster/paternostertop.TopOffsets", spec := "topOffsets", unfollowed := true, recurses := true, apart := false, narrowed := true }
def TopOffsetsUptoSaid : Prop := topOffsetsUptoRow.holds Tryz.pinned (OpenSpec.upto topOffsetsSpec)

/-- 'paternostertop.TopOrders', WHERE WHAT IT READS IS OF BULK AT MOST 1048576: true; the input reads as it did. -/
def topOrdersUptoRow : OpenClaim := { program := "ytfmfmeiaekknbaagreat", sum := "33bbf18ed48b3abd522ca6edcc68a594813e413456123edd965ec7af1c40ffca", func := "paternoster/paternostertop.TopOrders", spec := "topOrders", unfollowed := true, recurses := true, apart := false, narrowed := true }
def TopOrdersUptoSaid : Prop := topOrdersUptoRow.holds Tryz.pinned (OpenSpec.upto topOrdersSpec)

/-- 'paternostertop.TopBound', WHERE WHAT IT READS IS OF BULK AT MOST 1048576: true; the input reads as it did. -/
def topBoundUptoRow : OpenClaim := { program := "ytfmfmeiaekknbaagreat", sum := "33bbf18ed48b3abd522ca6edcc68a594813e413456123edd965ec7af1c40ffca", func := "paternoster/paternostertop.TopBound", spec := "topBound", inPlace := ["math.archTrunc", "math.Float64bits", "math.Float64frombits"], unfollowed := true, recurses := true, apart := false, narrowed := true }
def TopBoundUptoSaid : Prop := topBoundUptoRow.holds Tryz.pinned (OpenSpec.upto topBoundSpec)

/-- 'paternostertop.TopMoves', WHERE WHAT IT READS IS OF BULK AT MOST 1048576: true; the input reads as it did. -/
def topMovesUptoRow : OpenClaim := { program := "ytfmfmeiaekknbaagreat", sum := "33bbf18ed48b3abd522ca6edcc68a594813e413456123edd965ec7af1c40ffca", func := "paternoster/paternostertop.TopMoves", spec := "topMoves", inPlace := ["slices.overlaps[int]"], unfollowed := true, recurses := true, apart := false, narrowed := true }
def TopMovesUptoSaid : Prop := topMovesUptoRow.holds Tryz.pinned (OpenSpec.upto topMovesSpec)

end Rows
end Go.Proofs.YtfmfmeiaekknbaaGreat

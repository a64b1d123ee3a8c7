/-
  No cell of these rows narrows 'for every input' (looked for: loops, veiled, ifaces, maps, wideKeys, modest, calm, conditions, laid).
  DERIVED. THE GIVEN ROWS OF THIS SEAT. 6 by the template 'for every input the law returns true; each argument reads behind the call as it read before'; 0 by the template 'total and deterministic' (their statements: YtglgkbocmnkokaaTotals.lean).
  GIVEN WITH THE SEED: the statements are not yours to turn. If you find one false, say at which input.
  Laid BY PROGRAM, IN A SANDBOX (cutbox-rows.mjs): the forced cells as the released guide's own fill.sh prints them over the translation 8eb8c1da45be7937… (all of the seat's roots in one cut). By AI agents, Wed Nov 11 2026. No macro, syntax, notation, axiom, sorry.
-/
import Derived.Test.YtglgkbocmnkokaaChecked
import GoSem.Claim
import GoSem.ClaimJoined
import GoSem.ClaimMapViews
import Derived.JoinedTies
import Derived.KernelRfl
namespace Go.Proofs.Ytglgkbocmnkokaa
/- THE CELL 'sum', in the pinned program and in every row, IS THE sha256 OF THE DUMP (.gsa) THAT YtglgkbocmnkokaaProg.lean LOADS. Nothing in Lean hashes anything: it is a label: what it is worth is what the hold of that sum in a sandbox is worth. -/
noncomputable def Try.pinned : Pinned := { name := "ytglgkbocmnkokaa", sum := "8eb8c1da45be793788ac9fa3851a065c31f60de4b53c7c7bb80c79eb7876dfab", checked := Try.checked }
namespace Rows
def none {H : Type} : Left H := { results := [], args := [] }

/-- 'paternosterlaw01.SpansCheck': WHATEVER THE INPUT: true; the input reads as it did. -/
def spansCheckSpec : ChangeSpec := { name := "spansCheck", fn := fun _ => fun
  | [d1, d2] => { results := [.lit (.bool true)], args := [d1, d2] }
  | _ => none }
def spansCheckRow : OpenClaim := { program := "ytglgkbocmnkokaa", sum := "8eb8c1da45be793788ac9fa3851a065c31f60de4b53c7c7bb80c79eb7876dfab", func := "paternoster/paternosterlaw01.SpansCheck", spec := "spansCheck", unfollowed := true, recurses := true, apart := false }
def SpansCheckSaid : Prop := spansCheckRow.holds Try.pinned (OpenSpec.ofChange spansCheckSpec)

/-- ITS FALSE NEIGHBOUR: 'it returns false'. Refute it at one input. -/
def spansCheckWrong : ChangeSpec := { name := "spansCheck", fn := fun _ => fun
  | [d1, d2] => { results := [.lit (.bool false)], args := [d1, d2] }
  | _ => none }
def SpansCheckWrongFalsely : Prop := spansCheckRow.holds Try.pinned (OpenSpec.ofChange spansCheckWrong)

/-- 'paternosterlaw01.SpansOf': WHATEVER THE INPUT: true; the input reads as it did. -/
def spansOfSpec : ChangeSpec := { name := "spansOf", fn := fun _ => fun
  | [d] => { results := [.lit (.bool true)], args := [d] }
  | _ => none }
def spansOfRow : OpenClaim := { program := "ytglgkbocmnkokaa", sum := "8eb8c1da45be793788ac9fa3851a065c31f60de4b53c7c7bb80c79eb7876dfab", func := "paternoster/paternosterlaw01.SpansOf", spec := "spansOf", unfollowed := true, recurses := true, apart := false }
def SpansOfSaid : Prop := spansOfRow.holds Try.pinned (OpenSpec.ofChange spansOfSpec)

/-- ITS FALSE NEIGHBOUR: 'it returns false'. Refute it at one input. -/
def spansOfWrong : ChangeSpec := { name := "spansOf", fn := fun _ => fun
  | [d] => { results := [.lit (.bool false)], args := [d] }
  | _ => none }
def SpansOfWrongFalsely : Prop := spansOfRow.holds Try.pinned (OpenSpec.ofChange spansOfWrong)

/-- 'paternosterlaw01.SpansSets': WHATEVER THE INPUT: true; the input reads as it did. -/
def spansSetsSpec : ChangeSpec := { name := "spansSets", fn := fun _ => fun
  | [d1, d2] => { results := [.lit (.bool true)], args := [d1, d2] }
  | _ => none }
def spansSetsRow : OpenClaim := { program := "ytglgkbocmnkokaa", sum := "8eb8c1da45be793788ac9fa3851a065c31f60de4b53c7c7bb80c79eb7876dfab", func := "paternoster/paternosterlaw01.SpansSets", spec := "spansSets", unfollowed := true, recurses := true, apart := false }
def SpansSetsSaid : Prop := spansSetsRow.holds Try.pinned (OpenSpec.ofChange spansSetsSpec)

/-- ITS FALSE NEIGHBOUR: 'it returns false'. Refute it at one input. -/
def spansSetsWrong : ChangeSpec := { name := "spansSets", fn := fun _ => fun
  | [d1, d2] => { results := [.lit (.bool false)], args := [d1, d2] }
  | _ => none }
def SpansSetsWrongFalsely : Prop := spansSetsRow.holds Try.pinned (OpenSpec.ofChange spansSetsWrong)

/-- 'paternosterlaw01.SpansMoves': WHATEVER THE INPUT: true; the input reads as it did. -/
def spansMovesSpec : ChangeSpec := { name := "spansMoves", fn := fun _ => fun
  | [d1, d2, d3] => { results := [.lit (.bool true)], args := [d1, d2, d3] }
  | _ => none }
def spansMovesRow : OpenClaim := { program := "ytglgkbocmnkokaa", sum := "8eb8c1da45be793788ac9fa3851a065c31f60de4b53c7c7bb80c79eb7876dfab", func := "paternoster/paternosterlaw01.SpansMoves", spec := "spansMoves", unfollowed := true, recurses := true, apart := false }
def SpansMovesSaid : Prop := spansMovesRow.holds Try.pinned (OpenSpec.ofChange spansMovesSpec)

/-- ITS FALSE NEIGHBOUR: 'it returns false'. Refute it at one input. -/
def spansMovesWrong : ChangeSpec := { name := "spansMoves", fn := fun _ => fun
  | [d1, d2, d3] => { results := [.lit (.bool false)], args := [d1, d2, d3] }
  | _ => none }
def SpansMovesWrongFalsely : Prop := spansMovesRow.holds Try.pinned (OpenSpec.ofChange spansMovesWrong)

/-- 'paternosterlaw01.SpansErrors': WHATEVER THE INPUT: true; the input reads as it did. -/
def spansErrorsSpec : ChangeSpec := { name := "spansErrors", fn := fun _ => fun
  | [d1, d2, d3] => { results := [.lit (.bool true)], args := [d1, d2, d3] }
  | _ => none }
def spansErrorsRow : OpenClaim := { program := "ytglgkbocmnkokaa", sum := "8eb8c1da45be793788ac9fa3851a065c31f60de4b53c7c7bb80c79eb7876dfab", func := "paternoster/paternosterlaw01.SpansErrors", spec := "spansErrors", unfollowed := true, recurses := true, apart := false }
def SpansErrorsSaid : Prop := spansErrorsRow.holds Try.pinned (OpenSpec.ofChange spansErrorsSpec)

/-- ITS FALSE NEIGHBOUR: 'it returns false'. Refute it at one input. -/
def spansErrorsWrong : ChangeSpec := { name := "spansErrors", fn := fun _ => fun
  | [d1, d2, d3] => { results := [.lit (.bool false)], args := [d1, d2, d3] }
  | _ => none }
def SpansErrorsWrongFalsely : Prop := spansErrorsRow.holds Try.pinned (OpenSpec.ofChange spansErrorsWrong)

/-- 'paternosterlaw01.SpansKnown': WHATEVER THE INPUT: true; the input reads as it did. -/
def spansKnownSpec : ChangeSpec := { name := "spansKnown", fn := fun _ => fun
  | [] => { results := [.lit (.bool true)], args := [] }
  | _ => none }
def spansKnownRow : OpenClaim := { program := "ytglgkbocmnkokaa", sum := "8eb8c1da45be793788ac9fa3851a065c31f60de4b53c7c7bb80c79eb7876dfab", func := "paternoster/paternosterlaw01.SpansKnown", spec := "spansKnown", unfollowed := true, recurses := true, apart := false }
def SpansKnownSaid : Prop := spansKnownRow.holds Try.pinned (OpenSpec.ofChange spansKnownSpec)

/-- ITS FALSE NEIGHBOUR: 'it returns false'. Refute it at one input. -/
def spansKnownWrong : ChangeSpec := { name := "spansKnown", fn := fun _ => fun
  | [] => { results := [.lit (.bool false)], args := [] }
  | _ => none }
def SpansKnownWrongFalsely : Prop := spansKnownRow.holds Try.pinned (OpenSpec.ofChange spansKnownWrong)

/- THE SECOND FORM. 'bulk': how many values and letters a reading holds, each counted each time it is reached (what is shared counts as often as it is met; a slice's spare places count too). A statement '..UptoSaid' is the law's where the arguments, and the package variables that the reading takes, are together of bulk at most 1048576: NARROWER than '..Said'. Prove '..Said' where nothing that the law and all that it calls make is longer than what came in: it says more and counts as full. Else prove '..UptoSaid'. A law counts once. -/
mutual
def uptoBulk {H : Type} : DataW H → Nat
  | .lit (.string bytes) => bytes.length + 1
  | .lit _ => 1
  | .nil => 1
  | .ptr d => uptoBulk d + 1
  | .slice elems spare => uptoBulkAll elems + uptoBulkAll spare + 1
  | .agg parts => uptoBulkAll parts + 1
  | .iface _ d => uptoBulk d + 1
  | .map entries => uptoBulkEntries entries + 1
  | .held _ => 1
def uptoBulkAll {H : Type} : List (DataW H) → Nat
  | [] => 0
  | d :: r => uptoBulk d + uptoBulkAll r
def uptoBulkEntries {H : Type} : List (Lit × DataW H) → Nat
  | [] => 0
  | x :: r => uptoBulkEntry x + uptoBulkEntries r
def uptoBulkEntry {H : Type} : Lit × DataW H → Nat
  | (.string bytes, d) => bytes.length + uptoBulk d + 1
  | (_, d) => uptoBulk d + 1
 end
def uptoSmall : (H : Type) → List (DataW H) → Bool := fun _ ds => decide (uptoBulkAll ds ≤ 1048576)
def OpenSpec.upto (s : _root_.Go.ChangeSpec) : _root_.Go.OpenSpec := { _root_.Go.OpenSpec.ofChange s with cond := some uptoSmall }

/-- 'paternosterlaw01.SpansCheck', WHERE WHAT IT READS IS OF BULK AT MOST 1048576: true; the input reads as it did. -/
def spansCheckUptoRow : OpenClaim := { program := "ytglgkbocmnkokaa", sum := "8eb8c1da45be793788ac9fa3851a065c31f60de4b53c7c7bb80c79eb7876dfab", func := "paternoster/paternosterlaw01.SpansCheck", spec := "spansCheck", unfollowed := true, recurses := true, apart := false, narrowed := true }
def SpansCheckUptoSaid : Prop := spansCheckUptoRow.holds Try.pinned (OpenSpec.upto spansCheckSpec)

/-- 'paternosterlaw01.SpansOf', WHERE WHAT IT READS IS OF BULK AT MOST 1048576: true; the input reads as it did. -/
def spansOfUptoRow : OpenClaim := { program := "ytglgkbocmnkokaa", sum := "8eb8c1da45be793788ac9fa3851a065c31f60de4b53c7c7bb80c79eb7876dfab", func := "paternoster/paternosterlaw01.SpansOf", spec := "spansOf", unfollowed := true, recurses := true, apart := false, narrowed := true }
def SpansOfUptoSaid : Prop := spansOfUptoRow.holds Try.pinned (OpenSpec.upto spansOfSpec)

/-- 'paternosterlaw01.SpansSets', WHERE WHAT IT READS IS OF BULK AT MOST 1048576: true; the input reads as it did. -/
def spansSetsUptoRow : OpenClaim := { program := "ytglgkbocmnkokaa", sum := "8eb8c1da45be793788ac9fa3851a065c31f60de4b53c7c7bb80c79eb7876dfab", func := "paternoster/paternosterlaw01.SpansSets", spec := "spansSets", unfollowed := true, recurses := true, apart := false, narrowed := true }
def SpansSetsUptoSaid : Prop := spansSetsUptoRow.holds Try.pinned (OpenSpec.upto spansSetsSpec)

/-- 'paternosterlaw01.SpansMoves', WHERE WHAT IT READS IS OF BULK AT MOST 1048576: true; the input reads as it did. -/
def spansMovesUptoRow : OpenClaim := { program := "ytglgkbocmnkokaa", sum := "8eb8c1da45be793788ac9fa3851a065c31f60de4b53c7c7bb80c79eb7876dfab", func := "paternoster/paternosterlaw01.SpansMoves", spec := "spansMoves", unfollowed := true, recurses := true, apart := false, narrowed := true }
def SpansMovesUptoSaid : Prop := spansMovesUptoRow.holds Try.pinned (OpenSpec.upto spansMovesSpec)

/-- 'paternosterlaw01.SpansErrors', WHERE WHAT IT READS IS OF BULK AT MOST 1048576: true; the input reads as it did. -/
def spansErrorsUptoRow : OpenClaim := { program := "ytglgkbocmnkokaa", sum := "8eb8c1da45be793788ac9fa3851a065c31f60de4b53c7c7bb80c79eb7876dfab", func := "paternoster/paternosterlaw01.SpansErrors", spec := "spansErrors", unfollowed := true, recurses := true, apart := false, narrowed := true }
def SpansErrorsUptoSaid : Prop := spansErrorsUptoRow.holds Try.pinned (OpenSpec.upto spansErrorsSpec)

/-- 'paternosterlaw01.SpansKnown', WHERE WHAT IT READS IS OF BULK AT MOST 1048576: true; the input reads as it did. -/
def spansKnownUptoRow : OpenClaim := { program := "ytglgkbocmnkokaa", sum := "8eb8c1da45be793788ac9fa3851a065c31f60de4b53c7c7bb80c79eb7876dfab", func := "paternoster/paternosterlaw01.SpansKnown", spec := "spansKnown", unfollowed := true, recurses := true, apart := false, narrowed := true }
def SpansKnownUptoSaid : Prop := spansKnownUptoRow.holds Try.pinned (OpenSpec.upto spansKnownSpec)

end Rows
end Go.Proofs.Ytglgkbocmnkokaa

/-
  No cell of these rows narrows 'for every input' (looked for: loops, veiled, ifaces, maps, wideKeys, modest, calm, conditions, laid).
  DERIVED. THE GIVEN ROWS OF THIS SEAT. 6 by the template 'for every input the law returns true; each argument reads behind the call as it read before'; 0 by the template 'total and deterministic' (their statements: YtemcfdjbniacnaaTotals.lean).
  GIVEN WITH THE SEED: the statements are not yours to turn. If you find one false, say at which input.
  Laid BY PROGRAM, IN A SANDBOX (cutbox-rows.mjs): the forced cells as the released guide's own fill.sh prints them over the translation 4e31718f1cd1a1e1… (all of the seat's roots in one cut). By AI agents, Wed Nov 11 2026. No macro, syntax, notation, axiom, sorry.
-/
import Derived.Test.YtemcfdjbniacnaaChecked
import GoSem.Claim
import GoSem.ClaimJoined
import GoSem.ClaimMapViews
import Derived.JoinedTies
import Derived.KernelRfl
namespace Go.Proofs.Ytemcfdjbniacnaa
/- THE CELL 'sum', in the pinned program and in every row, IS THE sha256 OF THE DUMP (.gsa) THAT YtemcfdjbniacnaaProg.lean LOADS. Nothing in Lean hashes anything: it is a label: what it is worth is what the hold of that sum in a sandbox is worth. -/
noncomputable def Try.pinned : Pinned := { name := "ytemcfdjbniacnaa", sum := "4e31718f1cd1a1e1d402fa4ae38e053ff9a195e84302aebe84743693ca110aea", checked := Try.checked }
namespace Rows
def none {H : Type} : Left H := { results := [], args := [] }

/-- 'paternosterlaw02.FenwicksFind': WHATEVER THE INPUT: true; the input reads as it did. -/
def fenwicksFindSpec : ChangeSpec := { name := "fenwicksFind", fn := fun _ => fun
  | [d1, d2] => { results := [.lit (.bool true)], args := [d1, d2] }
  | _ => none }
def fenwicksFindRow : OpenClaim := { program := "ytemcfdjbniacnaa", sum := "4e31718f1cd1a1e1d402fa4ae38e053ff9a195e84302aebe84743693ca110aea", func := "paternoster/paternosterlaw02.FenwicksFind", spec := "fenwicksFind", unfollowed := true, recurses := true, apart := false }
def FenwicksFindSaid : Prop := fenwicksFindRow.holds Try.pinned (OpenSpec.ofChange fenwicksFindSpec)

/-- ITS FALSE NEIGHBOUR: 'it returns false'. Refute it at one input. -/
def fenwicksFindWrong : ChangeSpec := { name := "fenwicksFind", fn := fun _ => fun
  | [d1, d2] => { results := [.lit (.bool false)], args := [d1, d2] }
  | _ => none }
def FenwicksFindWrongFalsely : Prop := fenwicksFindRow.holds Try.pinned (OpenSpec.ofChange fenwicksFindWrong)

/-- 'paternosterlaw02.FenwicksKnown': WHATEVER THE INPUT: true; the input reads as it did. -/
def fenwicksKnownSpec : ChangeSpec := { name := "fenwicksKnown", fn := fun _ => fun
  | [] => { results := [.lit (.bool true)], args := [] }
  | _ => none }
def fenwicksKnownRow : OpenClaim := { program := "ytemcfdjbniacnaa", sum := "4e31718f1cd1a1e1d402fa4ae38e053ff9a195e84302aebe84743693ca110aea", func := "paternoster/paternosterlaw02.FenwicksKnown", spec := "fenwicksKnown", unfollowed := true, recurses := true, apart := false }
def FenwicksKnownSaid : Prop := fenwicksKnownRow.holds Try.pinned (OpenSpec.ofChange fenwicksKnownSpec)

/-- ITS FALSE NEIGHBOUR: 'it returns false'. Refute it at one input. -/
def fenwicksKnownWrong : ChangeSpec := { name := "fenwicksKnown", fn := fun _ => fun
  | [] => { results := [.lit (.bool false)], args := [] }
  | _ => none }
def FenwicksKnownWrongFalsely : Prop := fenwicksKnownRow.holds Try.pinned (OpenSpec.ofChange fenwicksKnownWrong)

/-- 'paternosterlaw02.FenwicksSums': WHATEVER THE INPUT: true; the input reads as it did. -/
def fenwicksSumsSpec : ChangeSpec := { name := "fenwicksSums", fn := fun _ => fun
  | [d1, d2] => { results := [.lit (.bool true)], args := [d1, d2] }
  | _ => none }
def fenwicksSumsRow : OpenClaim := { program := "ytemcfdjbniacnaa", sum := "4e31718f1cd1a1e1d402fa4ae38e053ff9a195e84302aebe84743693ca110aea", func := "paternoster/paternosterlaw02.FenwicksSums", spec := "fenwicksSums", unfollowed := true, recurses := true, apart := false }
def FenwicksSumsSaid : Prop := fenwicksSumsRow.holds Try.pinned (OpenSpec.ofChange fenwicksSumsSpec)

/-- ITS FALSE NEIGHBOUR: 'it returns false'. Refute it at one input. -/
def fenwicksSumsWrong : ChangeSpec := { name := "fenwicksSums", fn := fun _ => fun
  | [d1, d2] => { results := [.lit (.bool false)], args := [d1, d2] }
  | _ => none }
def FenwicksSumsWrongFalsely : Prop := fenwicksSumsRow.holds Try.pinned (OpenSpec.ofChange fenwicksSumsWrong)

/-- 'paternosterlaw02.FenwicksCheck': WHATEVER THE INPUT: true; the input reads as it did. -/
def fenwicksCheckSpec : ChangeSpec := { name := "fenwicksCheck", fn := fun _ => fun
  | [d] => { results := [.lit (.bool true)], args := [d] }
  | _ => none }
def fenwicksCheckRow : OpenClaim := { program := "ytemcfdjbniacnaa", sum := "4e31718f1cd1a1e1d402fa4ae38e053ff9a195e84302aebe84743693ca110aea", func := "paternoster/paternosterlaw02.FenwicksCheck", spec := "fenwicksCheck", unfollowed := true, recurses := true, apart := false }
def FenwicksCheckSaid : Prop := fenwicksCheckRow.holds Try.pinned (OpenSpec.ofChange fenwicksCheckSpec)

/-- ITS FALSE NEIGHBOUR: 'it returns false'. Refute it at one input. -/
def fenwicksCheckWrong : ChangeSpec := { name := "fenwicksCheck", fn := fun _ => fun
  | [d] => { results := [.lit (.bool false)], args := [d] }
  | _ => none }
def FenwicksCheckWrongFalsely : Prop := fenwicksCheckRow.holds Try.pinned (OpenSpec.ofChange fenwicksCheckWrong)

/-- 'paternosterlaw02.FenwicksSet': WHATEVER THE INPUT: true; the input reads as it did. -/
def fenwicksSetSpec : ChangeSpec := { name := "fenwicksSet", fn := fun _ => fun
  | [d1, d2] => { results := [.lit (.bool true)], args := [d1, d2] }
  | _ => none }
def fenwicksSetRow : OpenClaim := { program := "ytemcfdjbniacnaa", sum := "4e31718f1cd1a1e1d402fa4ae38e053ff9a195e84302aebe84743693ca110aea", func := "paternoster/paternosterlaw02.FenwicksSet", spec := "fenwicksSet", unfollowed := true, recurses := true, apart := false }
def FenwicksSetSaid : Prop := fenwicksSetRow.holds Try.pinned (OpenSpec.ofChange fenwicksSetSpec)

/-- ITS FALSE NEIGHBOUR: 'it returns false'. Refute it at one input. -/
def fenwicksSetWrong : ChangeSpec := { name := "fenwicksSet", fn := fun _ => fun
  | [d1, d2] => { results := [.lit (.bool false)], args := [d1, d2] }
  | _ => none }
def FenwicksSetWrongFalsely : Prop := fenwicksSetRow.holds Try.pinned (OpenSpec.ofChange fenwicksSetWrong)

/-- 'paternosterlaw02.FenwicksNil': WHATEVER THE INPUT: true; the input reads as it did. -/
def fenwicksNilSpec : ChangeSpec := { name := "fenwicksNil", fn := fun _ => fun
  | [d1, d2] => { results := [.lit (.bool true)], args := [d1, d2] }
  | _ => none }
def fenwicksNilRow : OpenClaim := { program := "ytemcfdjbniacnaa", sum := "4e31718f1cd1a1e1d402fa4ae38e053ff9a195e84302aebe84743693ca110aea", func := "paternoster/paternosterlaw02.FenwicksNil", spec := "fenwicksNil", unfollowed := true, recurses := true, apart := false }
def FenwicksNilSaid : Prop := fenwicksNilRow.holds Try.pinned (OpenSpec.ofChange fenwicksNilSpec)

/-- ITS FALSE NEIGHBOUR: 'it returns false'. Refute it at one input. -/
def fenwicksNilWrong : ChangeSpec := { name := "fenwicksNil", fn := fun _ => fun
  | [d1, d2] => { results := [.lit (.bool false)], args := [d1, d2] }
  | _ => none }
def FenwicksNilWrongFalsely : Prop := fenwicksNilRow.holds Try.pinned (OpenSpec.ofChange fenwicksNilWrong)

/- THE SECOND FORM. 'bulk': how many values and letters a reading holds, each counted each time it is reached (what is shared counts as often as it is met; a slice's spare places count too). A statement '..UptoSaid' is the law's where the arguments, and the package variables that the reading takes, are together of bulk at most 1048576: NARROWER than '..Said'. Prove '..Said' where nothing that the law and all that it calls make is longer than what came in: it says more and counts as full. Else prove '..UptoSaid'. A law counts once. -/
mutual
def uptoBulk {H : Type} : DataW H → Nat
  | .lit (.string bytes) => bytes.length + 1
  | .lit _ => 1
  | .nil => 1
  | .ptr d => uptoBulk d + 1
  | .slice elems spare => uptoBulkAll elems + uptoBulkAll spare + 1
  | .agg parts => uptoBulkAll parts + 1
  | .iface _ d => uptoBulk d + 1
  | .map entries => uptoBulkEntries entries + 1
  | .held _ => 1
def uptoBulkAll {H : Type} : List (DataW H) → Nat
  | [] => 0
  | d :: r => uptoBulk d + uptoBulkAll r
def uptoBulkEntries {H : Type} : List (Lit × DataW H) → Nat
  | [] => 0
  | x :: r => uptoBulkEntry x + uptoBulkEntries r
def uptoBulkEntry {H : Type} : Lit × DataW H → Nat
  | (.string bytes, d) => bytes.length + uptoBulk d + 1
  | (_, d) => uptoBulk d + 1
 end
def uptoSmall : (H : Type) → List (DataW H) → Bool := fun _ ds => decide (uptoBulkAll ds ≤ 1048576)
def OpenSpec.upto (s : _root_.Go.ChangeSpec) : _root_.Go.OpenSpec := { _root_.Go.OpenSpec.ofChange s with cond := some uptoSmall }

/-- 'paternosterlaw02.FenwicksFind', WHERE WHAT IT READS IS OF BULK AT MOST 1048576: true; the input reads as it did. -/
def fenwicksFindUptoRow : OpenClaim := { program := "ytemcfdjbniacnaa", sum := "4e31718f1cd1a1e1d402fa4ae38e053ff9a195e84302aebe84743693ca110aea", func := "paternoster/paternosterlaw02.FenwicksFind", spec := "fenwicksFind", unfollowed := true, recurses := true, apart := false, narrowed := true }
def FenwicksFindUptoSaid : Prop := fenwicksFindUptoRow.holds Try.pinned (OpenSpec.upto fenwicksFindSpec)

/-- 'paternosterlaw02.FenwicksKnown', WHERE WHAT IT READS IS OF BULK AT MOST 1048576: true; the input reads as it did. -/
def fenwicksKnownUptoRow : OpenClaim := { program := "ytemcfdjbniacnaa", sum := "4e31718f1cd1a1e1d402fa4ae38e053ff9a195e84302aebe84743693ca110aea", func := "paternoster/paternosterlaw02.FenwicksKnown", spec := "fenwicksKnown", unfollowed := true, recurses := true, apart := false, narrowed := true }
def FenwicksKnownUptoSaid : Prop := fenwicksKnownUptoRow.holds Try.pinned (OpenSpec.upto fenwicksKnownSpec)

/-- 'paternosterlaw02.FenwicksSums', WHERE WHAT IT READS IS OF BULK AT MOST 1048576: true; the input reads as it did. -/
def fenwicksSumsUptoRow : OpenClaim := { program := "ytemcfdjbniacnaa", sum := "4e31718f1cd1a1e1d402fa4ae38e053ff9a195e84302aebe84743693ca110aea", func := "paternoster/paternosterlaw02.FenwicksSums", spec := "fenwicksSums", unfollowed := true, recurses := true, apart := false, narrowed := true }
def FenwicksSumsUptoSaid : Prop := fenwicksSumsUptoRow.holds Try.pinned (OpenSpec.upto fenwicksSumsSpec)

/-- 'paternosterlaw02.FenwicksCheck', WHERE WHAT IT READS IS OF BULK AT MOST 1048576: true; the input reads as it did. -/
def fenwicksCheckUptoRow : OpenClaim := { program := "ytemcfdjbniacnaa", sum := "4e31718f1cd1a1e1d402fa4ae38e053ff9a195e84302aebe84743693ca110aea", func := "paternoster/paternosterlaw02.FenwicksCheck", spec := "fenwicksCheck", unfollowed := true, recurses := true, apart := false, narrowed := true }
def FenwicksCheckUptoSaid : Prop := fenwicksCheckUptoRow.holds Try.pinned (OpenSpec.upto fenwicksCheckSpec)

/-- 'paternosterlaw02.FenwicksSet', WHERE WHAT IT READS IS OF BULK AT MOST 1048576: true; the input reads as it did. -/
def fenwicksSetUptoRow : OpenClaim := { program := "ytemcfdjbniacnaa", sum := "4e31718f1cd1a1e1d402fa4ae38e053ff9a195e84302aebe84743693ca110aea", func := "paternoster/paternosterlaw02.FenwicksSet", spec := "fenwicksSet", unfollowed := true, recurses := true, apart := false, narrowed := true }
def FenwicksSetUptoSaid : Prop := fenwicksSetUptoRow.holds Try.pinned (OpenSpec.upto fenwicksSetSpec)

/-- 'paternosterlaw02.FenwicksNil', WHERE WHAT IT READS IS OF BULK AT MOST 1048576: true; the input reads as it did. -/
def fenwicksNilUptoRow : OpenClaim := { program := "ytemcfdjbniacnaa", sum := "4e31718f1cd1a1e1d402fa4ae38e053ff9a195e84302aebe84743693ca110aea", func := "paternoster/paternosterlaw02.FenwicksNil", spec := "fenwicksNil", unfollowed := true, recurses := true, apart := false, narrowed := true }
def FenwicksNilUptoSaid : Prop := fenwicksNilUptoRow.holds Try.pinned (OpenSpec.upto fenwicksNilSpec)

end Rows
end Go.Proofs.Ytemcfdjbniacnaa

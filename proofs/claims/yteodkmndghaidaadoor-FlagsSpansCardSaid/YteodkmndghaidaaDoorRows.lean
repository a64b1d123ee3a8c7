/-
  NARROWER THAN 'FOR EVERY INPUT', by the rows' own cells (each row's printed sentence says how): FlagsRank: laid · FlagsNext: laid · FlagsScript: laid · FlagsNil: laid · FlagsKnown: laid · FlagsSpans: laid.
  DERIVED. THE GIVEN ROWS OF THIS SEAT. 6 by the template 'for every input the law returns true; each argument reads behind the call as it read before'; 0 by the template 'total and deterministic' (their statements: YteodkmndghaidaaDoorTotals.lean).
  GIVEN WITH THE SEED: the statements are not yours to turn. If you find one false, say at which input.
  Laid BY PROGRAM, IN A SANDBOX (cutbox-rows.mjs): the forced cells as the released guide's own fill.sh prints them over the translation 979349ec7d88bc61… (all of the seat's roots in one cut). By AI agents, Wed Nov 11 2026. No macro, syntax, notation, axiom, sorry.
-/
import Derived.Test.YteodkmndghaidaaDoorChecked
import GoSem.Claim
import GoSem.ClaimJoined
import GoSem.ClaimMapViews
import Derived.JoinedTies
import Derived.KernelRfl
namespace Go.Proofs.YteodkmndghaidaaDoor
/- THE CELL 'sum', in the pinned program and in every row, IS THE sha256 OF THE DUMP (.gsa) THAT YteodkmndghaidaaDoorProg.lean LOADS. Nothing in Lean hashes anything: it is a label: what it is worth is what the hold of that sum in a sandbox is worth. -/
noncomputable def Tryd.pinned : Pinned := { name := "yteodkmndghaidaadoor", sum := "979349ec7d88bc6155a3a641e0adeb7df3d34964dd335174570e2dd1ad364707", checked := Tryd.checked }
namespace Rows
def none {H : Type} : Left H := { results := [], args := [] }

/- WHAT THE LISTED PACKAGE-LEVEL VARIABLES READ AS WHEN THE CALL BEGINS. Each datum BY PROGRAM (the guide's laid-datum.mjs) off the statement by which the dump's own 'gosem.cut.vars' lays the variable. In a bare row this is a premise. The card (YteodkmndghaidaaDoorCards.lean) ties it to the program's text. -/
def laid_math_bits_deBruijn64tab {H : Type} : DataW H := .agg [.lit (.int .u8 0), .lit (.int .u8 1), .lit (.int .u8 56), .lit (.int .u8 2), .lit (.int .u8 57), .lit (.int .u8 49), .lit (.int .u8 28), .lit (.int .u8 3), .lit (.int .u8 61), .lit (.int .u8 58), .lit (.int .u8 42), .lit (.int .u8 50), .lit (.int .u8 38), .lit (.int .u8 29), .lit (.int .u8 17), .lit (.int .u8 4), .lit (.int .u8 62), .lit (.int .u8 47), .lit (.int .u8 59), .lit (.int .u8 36), .lit (.int .u8 45), .lit (.int .u8 43), .lit (.int .u8 51), .lit (.int .u8 22), .lit (.int .u8 53), .lit (.int .u8 39), .lit (.int .u8 33), .lit (.int .u8 30), .lit (.int .u8 24), .lit (.int .u8 18), .lit (.int .u8 12), .lit (.int .u8 5), .lit (.int .u8 63), .lit (.int .u8 55), .lit (.int .u8 48), .lit (.int .u8 27), .lit (.int .u8 60), .lit (.int .u8 41), .lit (.int .u8 37), .lit (.int .u8 16), .lit (.int .u8 46), .lit (.int .u8 35), .lit (.int .u8 44), .lit (.int .u8 21), .lit (.int .u8 52), .lit (.int .u8 32), .lit (.int .u8 23), .lit (.int .u8 11), .lit (.int .u8 54), .lit (.int .u8 26), .lit (.int .u8 40), .lit (.int .u8 15), .lit (.int .u8 34), .lit (.int .u8 20), .lit (.int .u8 31), .lit (.int .u8 10), .lit (.int .u8 25), .lit (.int .u8 14), .lit (.int .u8 19), .lit (.int .u8 9), .lit (.int .u8 13), .lit (.int .u8 8), .lit (.int .u8 7), .lit (.int .u8 6)]

/-- 'paternosterlaw04.FlagsRank': WHATEVER THE INPUT: true; the input reads as it did. -/
def flagsRankSpec : ChangeSpec := { name := "flagsRank", fn := fun _ => fun
  | [d1, d2] => { results := [.lit (.bool true)], args := [d1, d2] }
  | _ => none }
def flagsRankRow : OpenClaim := { program := "yteodkmndghaidaadoor", sum := "979349ec7d88bc6155a3a641e0adeb7df3d34964dd335174570e2dd1ad364707", func := "paternoster/paternosterlaw04.FlagsRank", spec := "flagsRank", unfollowed := true, recurses := true, named := ["math/bits.deBruijn64tab"], apart := false, laid := [("math/bits.deBruijn64tab", laid_math_bits_deBruijn64tab)] }
def FlagsRankSaid : Prop := flagsRankRow.holds Tryd.pinned (OpenSpec.ofChange flagsRankSpec)

/-- ITS FALSE NEIGHBOUR: 'it returns false'. Refute it at one input. -/
def flagsRankWrong : ChangeSpec := { name := "flagsRank", fn := fun _ => fun
  | [d1, d2] => { results := [.lit (.bool false)], args := [d1, d2] }
  | _ => none }
def FlagsRankWrongFalsely : Prop := flagsRankRow.holds Tryd.pinned (OpenSpec.ofChange flagsRankWrong)

/-- 'paternosterlaw04.FlagsNext': WHATEVER THE INPUT: true; the input reads as it did. -/
def flagsNextSpec : ChangeSpec := { name := "flagsNext", fn := fun _ => fun
  | [d1, d2] => { results := [.lit (.bool true)], args := [d1, d2] }
  | _ => none }
def flagsNextRow : OpenClaim := { program := "yteodkmndghaidaadoor", sum := "979349ec7d88bc6155a3a641e0adeb7df3d34964dd335174570e2dd1ad364707", func := "paternoster/paternosterlaw04.FlagsNext", spec := "flagsNext", unfollowed := true, recurses := true, named := ["math/bits.deBruijn64tab"], apart := false, laid := [("math/bits.deBruijn64tab", laid_math_bits_deBruijn64tab)] }
def FlagsNextSaid : Prop := flagsNextRow.holds Tryd.pinned (OpenSpec.ofChange flagsNextSpec)

/-- ITS FALSE NEIGHBOUR: 'it returns false'. Refute it at one input. -/
def flagsNextWrong : ChangeSpec := { name := "flagsNext", fn := fun _ => fun
  | [d1, d2] => { results := [.lit (.bool false)], args := [d1, d2] }
  | _ => none }
def FlagsNextWrongFalsely : Prop := flagsNextRow.holds Tryd.pinned (OpenSpec.ofChange flagsNextWrong)

/-- 'paternosterlaw04.FlagsScript': WHATEVER THE INPUT: true; the input reads as it did. -/
def flagsScriptSpec : ChangeSpec := { name := "flagsScript", fn := fun _ => fun
  | [d1, d2] => { results := [.lit (.bool true)], args := [d1, d2] }
  | _ => none }
def flagsScriptRow : OpenClaim := { program := "yteodkmndghaidaadoor", sum := "979349ec7d88bc6155a3a641e0adeb7df3d34964dd335174570e2dd1ad364707", func := "paternoster/paternosterlaw04.FlagsScript", spec := "flagsScript", unfollowed := true, recurses := true, named := ["math/bits.deBruijn64tab"], apart := false, laid := [("math/bits.deBruijn64tab", laid_math_bits_deBruijn64tab)] }
def FlagsScriptSaid : Prop := flagsScriptRow.holds Tryd.pinned (OpenSpec.ofChange flagsScriptSpec)

/-- ITS FALSE NEIGHBOUR: 'it returns false'. Refute it at one input. -/
def flagsScriptWrong : ChangeSpec := { name := "flagsScript", fn := fun _ => fun
  | [d1, d2] => { results := [.lit (.bool false)], args := [d1, d2] }
  | _ => none }
def FlagsScriptWrongFalsely : Prop := flagsScriptRow.holds Tryd.pinned (OpenSpec.ofChange flagsScriptWrong)

/-- 'paternosterlaw04.FlagsNil': WHATEVER THE INPUT: true; the input reads as it did. -/
def flagsNilSpec : ChangeSpec := { name := "flagsNil", fn := fun _ => fun
  | [d1, d2] => { results := [.lit (.bool true)], args := [d1, d2] }
  | _ => none }
def flagsNilRow : OpenClaim := { program := "yteodkmndghaidaadoor", sum := "979349ec7d88bc6155a3a641e0adeb7df3d34964dd335174570e2dd1ad364707", func := "paternoster/paternosterlaw04.FlagsNil", spec := "flagsNil", unfollowed := true, recurses := true, named := ["math/bits.deBruijn64tab"], apart := false, laid := [("math/bits.deBruijn64tab", laid_math_bits_deBruijn64tab)] }
def FlagsNilSaid : Prop := flagsNilRow.holds Tryd.pinned (OpenSpec.ofChange flagsNilSpec)

/-- ITS FALSE NEIGHBOUR: 'it returns false'. Refute it at one input. -/
def flagsNilWrong : ChangeSpec := { name := "flagsNil", fn := fun _ => fun
  | [d1, d2] => { results := [.lit (.bool false)], args := [d1, d2] }
  | _ => none }
def FlagsNilWrongFalsely : Prop := flagsNilRow.holds Tryd.pinned (OpenSpec.ofChange flagsNilWrong)

/-- 'paternosterlaw04.FlagsKnown': WHATEVER THE INPUT: true; the input reads as it did. -/
def flagsKnownSpec : ChangeSpec := { name := "flagsKnown", fn := fun _ => fun
  | [] => { results := [.lit (.bool true)], args := [] }
  | _ => none }
def flagsKnownRow : OpenClaim := { program := "yteodkmndghaidaadoor", sum := "979349ec7d88bc6155a3a641e0adeb7df3d34964dd335174570e2dd1ad364707", func := "paternoster/paternosterlaw04.FlagsKnown", spec := "flagsKnown", unfollowed := true, recurses := true, named := ["math/bits.deBruijn64tab"], apart := false, laid := [("math/bits.deBruijn64tab", laid_math_bits_deBruijn64tab)] }
def FlagsKnownSaid : Prop := flagsKnownRow.holds Tryd.pinned (OpenSpec.ofChange flagsKnownSpec)

/-- ITS FALSE NEIGHBOUR: 'it returns false'. Refute it at one input. -/
def flagsKnownWrong : ChangeSpec := { name := "flagsKnown", fn := fun _ => fun
  | [] => { results := [.lit (.bool false)], args := [] }
  | _ => none }
def FlagsKnownWrongFalsely : Prop := flagsKnownRow.holds Tryd.pinned (OpenSpec.ofChange flagsKnownWrong)

/-- 'paternosterlaw04.FlagsSpans': WHATEVER THE INPUT: true; the input reads as it did. -/
def flagsSpansSpec : ChangeSpec := { name := "flagsSpans", fn := fun _ => fun
  | [d1, d2, d3] => { results := [.lit (.bool true)], args := [d1, d2, d3] }
  | _ => none }
def flagsSpansRow : OpenClaim := { program := "yteodkmndghaidaadoor", sum := "979349ec7d88bc6155a3a641e0adeb7df3d34964dd335174570e2dd1ad364707", func := "paternoster/paternosterlaw04.FlagsSpans", spec := "flagsSpans", unfollowed := true, recurses := true, named := ["math/bits.deBruijn64tab"], apart := false, laid := [("math/bits.deBruijn64tab", laid_math_bits_deBruijn64tab)] }
def FlagsSpansSaid : Prop := flagsSpansRow.holds Tryd.pinned (OpenSpec.ofChange flagsSpansSpec)

/-- ITS FALSE NEIGHBOUR: 'it returns false'. Refute it at one input. -/
def flagsSpansWrong : ChangeSpec := { name := "flagsSpans", fn := fun _ => fun
  | [d1, d2, d3] => { results := [.lit (.bool false)], args := [d1, d2, d3] }
  | _ => none }
def FlagsSpansWrongFalsely : Prop := flagsSpansRow.holds Tryd.pinned (OpenSpec.ofChange flagsSpansWrong)

/- THE SECOND FORM. 'bulk': how many values and letters a reading holds, each counted each time it is reached (what is shared counts as often as it is met; a slice's spare places count too). A statement '..UptoSaid' is the law's where the arguments, and the package variables that the reading takes, are together of bulk at most 1048576: NARROWER than '..Said'. Prove '..Said' where nothing that the law and all that it calls make is longer than what came in: it says more and counts as full. Else prove '..UptoSaid'. A law counts once. -/
mutual
def uptoBulk {H : Type} : DataW H → Nat
  | .lit (.string bytes) => bytes.length + 1
  | .lit _ => 1
  | .nil => 1
  | .ptr d => uptoBulk d + 1
  | .slice elems spare => uptoBulkAll elems + uptoBulkAll spare + 1
  | .agg parts => uptoBulkAll parts + 1
  | .iface _ d => uptoBulk d + 1
  | .map entries => uptoBulkEntries entries + 1
  | .held _ => 1
def uptoBulkAll {H : Type} : List (DataW H) → Nat
  | [] => 0
  | d :: r => uptoBulk d + uptoBulkAll r
def uptoBulkEntries {H : Type} : List (Lit × DataW H) → Nat
  | [] => 0
  | x :: r => uptoBulkEntry x + uptoBulkEntries r
def uptoBulkEntry {H : Type} : Lit × DataW H → Nat
  | (.string bytes, d) => bytes.length + uptoBulk d + 1
  | (_, d) => uptoBulk d + 1
 end
def uptoSmall : (H : Type) → List (DataW H) → Bool := fun _ ds => decide (uptoBulkAll ds ≤ 1048576)
def OpenSpec.upto (s : _root_.Go.ChangeSpec) : _root_.Go.OpenSpec := { _root_.Go.OpenSpec.ofChange s with cond := some uptoSmall }

/-- 'paternosterlaw04.FlagsRank', WHERE WHAT IT READS IS OF BULK AT MOST 1048576: true; the input reads as it did. -/
def flagsRankUptoRow : OpenClaim := { program := "yteodkmndghaidaadoor", sum := "979349ec7d88bc6155a3a641e0adeb7df3d34964dd335174570e2dd1ad364707", func := "paternoster/paternosterlaw04.FlagsRank", spec := "flagsRank", unfollowed := true, recurses := true, named := ["math/bits.deBruijn64tab"], apart := false, laid := [("math/bits.deBruijn64tab", laid_math_bits_deBruijn64tab)], narrowed := true }
def FlagsRankUptoSaid : Prop := flagsRankUptoRow.holds Tryd.pinned (OpenSpec.upto flagsRankSpec)

/-- 'paternosterlaw04.FlagsNext', WHERE WHAT IT READS IS OF BULK AT MOST 1048576: true; the input reads as it did. -/
def flagsNextUptoRow : OpenClaim := { program := "yteodkmndghaidaadoor", sum := "979349ec7d88bc6155a3a641e0adeb7df3d34964dd335174570e2dd1ad364707", func := "paternoster/paternosterlaw04.FlagsNext", spec := "flagsNext", unfollowed := true, recurses := true, named := ["math/bits.deBruijn64tab"], apart := false, laid := [("math/bits.deBruijn64tab", laid_math_bits_deBruijn64tab)], narrowed := true }
def FlagsNextUptoSaid : Prop := flagsNextUptoRow.holds Tryd.pinned (OpenSpec.upto flagsNextSpec)

/-- 'paternosterlaw04.FlagsScript', WHERE WHAT IT READS IS OF BULK AT MOST 1048576: true; the input reads as it did. -/
def flagsScriptUptoRow : OpenClaim := { program := "yteodkmndghaidaadoor", sum := "979349ec7d88bc6155a3a641e0adeb7df3d34964dd335174570e2dd1ad364707", func := "paternoster/paternosterlaw04.FlagsScript", spec := "flagsScript", unfollowed := true, recurses := true, named := ["math/bits.deBruijn64tab"], apart := false, laid := [("math/bits.deBruijn64tab", laid_math_bits_deBruijn64tab)], narrowed := true }
def FlagsScriptUptoSaid : Prop := flagsScriptUptoRow.holds Tryd.pinned (OpenSpec.upto flagsScriptSpec)

/-- 'paternosterlaw04.FlagsNil', WHERE WHAT IT READS IS OF BULK AT MOST 1048576: true; the input reads as it did. -/
def flagsNilUptoRow : OpenClaim := { program := "yteodkmndghaidaadoor", sum := "979349ec7d88bc6155a3a641e0adeb7df3d34964dd335174570e2dd1ad364707", func := "paternoster/paternosterlaw04.FlagsNil", spec := "flagsNil", unfollowed := true, recurses := true, named := ["math/bits.deBruijn64tab"], apart := false, laid := [("math/bits.deBruijn64tab", laid_math_bits_deBruijn64tab)], narrowed := true }
def FlagsNilUptoSaid : Prop := flagsNilUptoRow.holds Tryd.pinned (OpenSpec.upto flagsNilSpec)

/-- 'paternosterlaw04.FlagsKnown', WHERE WHAT IT READS IS OF BULK AT MOST 1048576: true; the input reads as it did. -/
def flagsKnownUptoRow : OpenClaim := { program := "yteodkmndghaidaadoor", sum := "979349ec7d88bc6155a3a641e0adeb7df3d34964dd335174570e2dd1ad364707", func := "paternoster/paternosterlaw04.FlagsKnown", spec := "flagsKnown", unfollowed := true, recurses := true, named := ["math/bits.deBruijn64tab"], apart := false, laid := [("math/bits.deBruijn64tab", laid_math_bits_deBruijn64tab)], narrowed := true }
def FlagsKnownUptoSaid : Prop := flagsKnownUptoRow.holds Tryd.pinned (OpenSpec.upto flagsKnownSpec)

/-- 'paternosterlaw04.FlagsSpans', WHERE WHAT IT READS IS OF BULK AT MOST 1048576: true; the input reads as it did. -/
def flagsSpansUptoRow : OpenClaim := { program := "yteodkmndghaidaadoor", sum := "979349ec7d88bc6155a3a641e0adeb7df3d34964dd335174570e2dd1ad364707", func := "paternoster/paternosterlaw04.FlagsSpans", spec := "flagsSpans", unfollowed := true, recurses := true, named := ["math/bits.deBruijn64tab"], apart := false, laid := [("math/bits.deBruijn64tab", laid_math_bits_deBruijn64tab)], narrowed := true }
def FlagsSpansUptoSaid : Prop := flagsSpansUptoRow.holds Tryd.pinned (OpenSpec.upto flagsSpansSpec)

end Rows
end Go.Proofs.YteodkmndghaidaaDoor

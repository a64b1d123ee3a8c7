/-
  DERIVED. GIVEN WITH THE SEED: THE CARDS: each row of YteodkmndghaidaaDoorRows.lean that lists a variable, with what it lists TIED to the program's text (the seventh form; the later family's looks); each row that meets fmt, with fmt's text TOLD by the authors' own Lean function (tested against real Go, not proved from fmt's source: count such statements apart). THE CARD IS WHAT COUNTS. Prove the row's statement (the work); the ties are given (YteodkmndghaidaaDoorTie.lean); close each card by the builder's one call (the guide's Derived/Test/ToyasCard.lean, 'card_holds'). Laid BY PROGRAM, IN A SANDBOX (cutbox-door.mjs). By AI agents, Wed Nov 11 2026. No macro, syntax, notation, axiom, sorry.
-/
import Derived.Test.YteodkmndghaidaaDoorRows
import GoSem.ClaimSeven
namespace Go.Proofs.YteodkmndghaidaaDoor
namespace Rows

/-- THE TIED CARD OF 'paternosterlaw04.FlagsRank'. -/
def flagsRankCard : Claim7 := { stood := { row := flagsRankRow, standIns := [], harness := (true, "403482924415ac3433397fa7462af1ca6c9b3b82da6e8e6874c22daa448de4ef"), looks := false }, kinds := [], alts := [], laidByText := true, laidKinds := [.data], laidTests := true, laidLooks := .later }
def FlagsRankCardSaid : Prop := Claim7.holds Tryd.pinned (.plain (OpenSpec.ofChange flagsRankSpec)) flagsRankCard

/-- THE TIED CARD OF 'paternosterlaw04.FlagsNext'. -/
def flagsNextCard : Claim7 := { stood := { row := flagsNextRow, standIns := [], harness := (true, "403482924415ac3433397fa7462af1ca6c9b3b82da6e8e6874c22daa448de4ef"), looks := false }, kinds := [], alts := [], laidByText := true, laidKinds := [.data], laidTests := true, laidLooks := .later }
def FlagsNextCardSaid : Prop := Claim7.holds Tryd.pinned (.plain (OpenSpec.ofChange flagsNextSpec)) flagsNextCard

/-- THE TIED CARD OF 'paternosterlaw04.FlagsScript'. -/
def flagsScriptCard : Claim7 := { stood := { row := flagsScriptRow, standIns := [], harness := (true, "403482924415ac3433397fa7462af1ca6c9b3b82da6e8e6874c22daa448de4ef"), looks := false }, kinds := [], alts := [], laidByText := true, laidKinds := [.data], laidTests := true, laidLooks := .later }
def FlagsScriptCardSaid : Prop := Claim7.holds Tryd.pinned (.plain (OpenSpec.ofChange flagsScriptSpec)) flagsScriptCard

/-- THE TIED CARD OF 'paternosterlaw04.FlagsNil'. -/
def flagsNilCard : Claim7 := { stood := { row := flagsNilRow, standIns := [], harness := (true, "403482924415ac3433397fa7462af1ca6c9b3b82da6e8e6874c22daa448de4ef"), looks := false }, kinds := [], alts := [], laidByText := true, laidKinds := [.data], laidTests := true, laidLooks := .later }
def FlagsNilCardSaid : Prop := Claim7.holds Tryd.pinned (.plain (OpenSpec.ofChange flagsNilSpec)) flagsNilCard

/-- THE TIED CARD OF 'paternosterlaw04.FlagsKnown'. -/
def flagsKnownCard : Claim7 := { stood := { row := flagsKnownRow, standIns := [], harness := (true, "403482924415ac3433397fa7462af1ca6c9b3b82da6e8e6874c22daa448de4ef"), looks := false }, kinds := [], alts := [], laidByText := true, laidKinds := [.data], laidTests := true, laidLooks := .later }
def FlagsKnownCardSaid : Prop := Claim7.holds Tryd.pinned (.plain (OpenSpec.ofChange flagsKnownSpec)) flagsKnownCard

/-- THE TIED CARD OF 'paternosterlaw04.FlagsSpans'. -/
def flagsSpansCard : Claim7 := { stood := { row := flagsSpansRow, standIns := [], harness := (true, "403482924415ac3433397fa7462af1ca6c9b3b82da6e8e6874c22daa448de4ef"), looks := false }, kinds := [], alts := [], laidByText := true, laidKinds := [.data], laidTests := true, laidLooks := .later }
def FlagsSpansCardSaid : Prop := Claim7.holds Tryd.pinned (.plain (OpenSpec.ofChange flagsSpansSpec)) flagsSpansCard

/-- THE SECOND FORM's CARD OF 'paternosterlaw04.FlagsRank'. -/
def flagsRankUptoCard : Claim7 := { stood := { row := flagsRankUptoRow, standIns := [], harness := (true, "403482924415ac3433397fa7462af1ca6c9b3b82da6e8e6874c22daa448de4ef"), looks := false }, kinds := [], alts := [], laidByText := true, laidKinds := [.data], laidTests := true, laidLooks := .later }
def FlagsRankUptoCardSaid : Prop := Claim7.holds Tryd.pinned (.plain (OpenSpec.upto flagsRankSpec)) flagsRankUptoCard

/-- THE SECOND FORM's CARD OF 'paternosterlaw04.FlagsNext'. -/
def flagsNextUptoCard : Claim7 := { stood := { row := flagsNextUptoRow, standIns := [], harness := (true, "403482924415ac3433397fa7462af1ca6c9b3b82da6e8e6874c22daa448de4ef"), looks := false }, kinds := [], alts := [], laidByText := true, laidKinds := [.data], laidTests := true, laidLooks := .later }
def FlagsNextUptoCardSaid : Prop := Claim7.holds Tryd.pinned (.plain (OpenSpec.upto flagsNextSpec)) flagsNextUptoCard

/-- THE SECOND FORM's CARD OF 'paternosterlaw04.FlagsScript'. -/
def flagsScriptUptoCard : Claim7 := { stood := { row := flagsScriptUptoRow, standIns := [], harness := (true, "403482924415ac3433397fa7462af1ca6c9b3b82da6e8e6874c22daa448de4ef"), looks := false }, kinds := [], alts := [], laidByText := true, laidKinds := [.data], laidTests := true, laidLooks := .later }
def FlagsScriptUptoCardSaid : Prop := Claim7.holds Tryd.pinned (.plain (OpenSpec.upto flagsScriptSpec)) flagsScriptUptoCard

/-- THE SECOND FORM's CARD OF 'paternosterlaw04.FlagsNil'. -/
def flagsNilUptoCard : Claim7 := { stood := { row := flagsNilUptoRow, standIns := [], harness := (true, "403482924415ac3433397fa7462af1ca6c9b3b82da6e8e6874c22daa448de4ef"), looks := false }, kinds := [], alts := [], laidByText := true, laidKinds := [.data], laidTests := true, laidLooks := .later }
def FlagsNilUptoCardSaid : Prop := Claim7.holds Tryd.pinned (.plain (OpenSpec.upto flagsNilSpec)) flagsNilUptoCard

/-- THE SECOND FORM's CARD OF 'paternosterlaw04.FlagsKnown'. -/
def flagsKnownUptoCard : Claim7 := { stood := { row := flagsKnownUptoRow, standIns := [], harness := (true, "403482924415ac3433397fa7462af1ca6c9b3b82da6e8e6874c22daa448de4ef"), looks := false }, kinds := [], alts := [], laidByText := true, laidKinds := [.data], laidTests := true, laidLooks := .later }
def FlagsKnownUptoCardSaid : Prop := Claim7.holds Tryd.pinned (.plain (OpenSpec.upto flagsKnownSpec)) flagsKnownUptoCard

/-- THE SECOND FORM's CARD OF 'paternosterlaw04.FlagsSpans'. -/
def flagsSpansUptoCard : Claim7 := { stood := { row := flagsSpansUptoRow, standIns := [], harness := (true, "403482924415ac3433397fa7462af1ca6c9b3b82da6e8e6874c22daa448de4ef"), looks := false }, kinds := [], alts := [], laidByText := true, laidKinds := [.data], laidTests := true, laidLooks := .later }
def FlagsSpansUptoCardSaid : Prop := Claim7.holds Tryd.pinned (.plain (OpenSpec.upto flagsSpansSpec)) flagsSpansUptoCard
end Rows
end Go.Proofs.YteodkmndghaidaaDoor

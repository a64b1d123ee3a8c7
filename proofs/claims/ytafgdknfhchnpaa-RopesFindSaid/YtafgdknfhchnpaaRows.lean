/-
  No cell of these rows narrows 'for every input' (looked for: loops, veiled, ifaces, maps, wideKeys, modest, calm, conditions, laid).
  DERIVED. THE GIVEN ROWS OF THIS SEAT. 6 by the template 'for every input the law returns true; each argument reads behind the call as it read before'; 0 by the template 'total and deterministic' (their statements: YtafgdknfhchnpaaTotals.lean).
  GIVEN WITH THE SEED: the statements are not yours to turn. If you find one false, say at which input.
  Laid BY PROGRAM, IN A SANDBOX (cutbox-rows.mjs): the forced cells as the released guide's own fill.sh prints them over the translation 6142913a29557768… (all of the seat's roots in one cut). By AI agents, Wed Nov 11 2026. No macro, syntax, notation, axiom, sorry.
-/
import Derived.Test.YtafgdknfhchnpaaChecked
import GoSem.Claim
import GoSem.ClaimJoined
import GoSem.ClaimMapViews
import Derived.JoinedTies
import Derived.KernelRfl
namespace Go.Proofs.Ytafgdknfhchnpaa
/- THE CELL 'sum', in the pinned program and in every row, IS THE sha256 OF THE DUMP (.gsa) THAT YtafgdknfhchnpaaProg.lean LOADS. Nothing in Lean hashes anything: it is a label: what it is worth is what the hold of that sum in a sandbox is worth. -/
noncomputable def Try.pinned : Pinned := { name := "ytafgdknfhchnpaa", sum := "6142913a295577684d9733b430db7c73a500562bc7fe0123a5b28cff813a118e", checked := Try.checked }
namespace Rows
def none {H : Type} : Left H := { results := [], args := [] }

/-- 'paternosterlaw05.RopesOf': WHATEVER THE INPUT: true; the input reads as it did. -/
def ropesOfSpec : ChangeSpec := { name := "ropesOf", fn := fun _ => fun
  | [d] => { results := [.lit (.bool true)], args := [d] }
  | _ => none }
def ropesOfRow : OpenClaim := { program := "ytafgdknfhchnpaa", sum := "6142913a295577684d9733b430db7c73a500562bc7fe0123a5b28cff813a118e", func := "paternoster/paternosterlaw05.RopesOf", spec := "ropesOf", unfollowed := true, recurses := true, apart := false }
def RopesOfSaid : Prop := ropesOfRow.holds Try.pinned (OpenSpec.ofChange ropesOfSpec)

/-- ITS FALSE NEIGHBOUR: 'it returns false'. Refute it at one input. -/
def ropesOfWrong : ChangeSpec := { name := "ropesOf", fn := fun _ => fun
  | [d] => { results := [.lit (.bool false)], args := [d] }
  | _ => none }
def RopesOfWrongFalsely : Prop := ropesOfRow.holds Try.pinned (OpenSpec.ofChange ropesOfWrong)

/-- 'paternosterlaw05.RopesSplit': WHATEVER THE INPUT: true; the input reads as it did. -/
def ropesSplitSpec : ChangeSpec := { name := "ropesSplit", fn := fun _ => fun
  | [d1, d2, d3] => { results := [.lit (.bool true)], args := [d1, d2, d3] }
  | _ => none }
def ropesSplitRow : OpenClaim := { program := "ytafgdknfhchnpaa", sum := "6142913a295577684d9733b430db7c73a500562bc7fe0123a5b28cff813a118e", func := "paternoster/paternosterlaw05.RopesSplit", spec := "ropesSplit", unfollowed := true, recurses := true, apart := false }
def RopesSplitSaid : Prop := ropesSplitRow.holds Try.pinned (OpenSpec.ofChange ropesSplitSpec)

/-- ITS FALSE NEIGHBOUR: 'it returns false'. Refute it at one input. -/
def ropesSplitWrong : ChangeSpec := { name := "ropesSplit", fn := fun _ => fun
  | [d1, d2, d3] => { results := [.lit (.bool false)], args := [d1, d2, d3] }
  | _ => none }
def RopesSplitWrongFalsely : Prop := ropesSplitRow.holds Try.pinned (OpenSpec.ofChange ropesSplitWrong)

/-- 'paternosterlaw05.RopesScript': WHATEVER THE INPUT: true; the input reads as it did. -/
def ropesScriptSpec : ChangeSpec := { name := "ropesScript", fn := fun _ => fun
  | [d1, d2] => { results := [.lit (.bool true)], args := [d1, d2] }
  | _ => none }
def ropesScriptRow : OpenClaim := { program := "ytafgdknfhchnpaa", sum := "6142913a295577684d9733b430db7c73a500562bc7fe0123a5b28cff813a118e", func := "paternoster/paternosterlaw05.RopesScript", spec := "ropesScript", unfollowed := true, recurses := true, apart := false }
def RopesScriptSaid : Prop := ropesScriptRow.holds Try.pinned (OpenSpec.ofChange ropesScriptSpec)

/-- ITS FALSE NEIGHBOUR: 'it returns false'. Refute it at one input. -/
def ropesScriptWrong : ChangeSpec := { name := "ropesScript", fn := fun _ => fun
  | [d1, d2] => { results := [.lit (.bool false)], args := [d1, d2] }
  | _ => none }
def RopesScriptWrongFalsely : Prop := ropesScriptRow.holds Try.pinned (OpenSpec.ofChange ropesScriptWrong)

/-- 'paternosterlaw05.RopesDeep': WHATEVER THE INPUT: true; the input reads as it did. -/
def ropesDeepSpec : ChangeSpec := { name := "ropesDeep", fn := fun _ => fun
  | [d1, d2] => { results := [.lit (.bool true)], args := [d1, d2] }
  | _ => none }
def ropesDeepRow : OpenClaim := { program := "ytafgdknfhchnpaa", sum := "6142913a295577684d9733b430db7c73a500562bc7fe0123a5b28cff813a118e", func := "paternoster/paternosterlaw05.RopesDeep", spec := "ropesDeep", unfollowed := true, recurses := true, apart := false }
def RopesDeepSaid : Prop := ropesDeepRow.holds Try.pinned (OpenSpec.ofChange ropesDeepSpec)

/-- ITS FALSE NEIGHBOUR: 'it returns false'. Refute it at one input. -/
def ropesDeepWrong : ChangeSpec := { name := "ropesDeep", fn := fun _ => fun
  | [d1, d2] => { results := [.lit (.bool false)], args := [d1, d2] }
  | _ => none }
def RopesDeepWrongFalsely : Prop := ropesDeepRow.holds Try.pinned (OpenSpec.ofChange ropesDeepWrong)

/-- 'paternosterlaw05.RopesKnown': WHATEVER THE INPUT: true; the input reads as it did. -/
def ropesKnownSpec : ChangeSpec := { name := "ropesKnown", fn := fun _ => fun
  | [] => { results := [.lit (.bool true)], args := [] }
  | _ => none }
def ropesKnownRow : OpenClaim := { program := "ytafgdknfhchnpaa", sum := "6142913a295577684d9733b430db7c73a500562bc7fe0123a5b28cff813a118e", func := "paternoster/paternosterlaw05.RopesKnown", spec := "ropesKnown", unfollowed := true, recurses := true, apart := false }
def RopesKnownSaid : Prop := ropesKnownRow.holds Try.pinned (OpenSpec.ofChange ropesKnownSpec)

/-- ITS FALSE NEIGHBOUR: 'it returns false'. Refute it at one input. -/
def ropesKnownWrong : ChangeSpec := { name := "ropesKnown", fn := fun _ => fun
  | [] => { results := [.lit (.bool false)], args := [] }
  | _ => none }
def RopesKnownWrongFalsely : Prop := ropesKnownRow.holds Try.pinned (OpenSpec.ofChange ropesKnownWrong)

/-- 'paternosterlaw05.RopesFind': WHATEVER THE INPUT: true; the input reads as it did. -/
def ropesFindSpec : ChangeSpec := { name := "ropesFind", fn := fun _ => fun
  | [d1, d2, d3] => { results := [.lit (.bool true)], args := [d1, d2, d3] }
  | _ => none }
def ropesFindRow : OpenClaim := { program := "ytafgdknfhchnpaa", sum := "6142913a295577684d9733b430db7c73a500562bc7fe0123a5b28cff813a118e", func := "paternoster/paternosterlaw05.RopesFind", spec := "ropesFind", unfollowed := true, recurses := true, apart := false }
def RopesFindSaid : Prop := ropesFindRow.holds Try.pinned (OpenSpec.ofChange ropesFindSpec)

/-- ITS FALSE NEIGHBOUR: 'it returns false'. Refute it at one input. -/
def ropesFindWrong : ChangeSpec := { name := "ropesFind", fn := fun _ => fun
  | [d1, d2, d3] => { results := [.lit (.bool false)], args := [d1, d2, d3] }
  | _ => none }
def RopesFindWrongFalsely : Prop := ropesFindRow.holds Try.pinned (OpenSpec.ofChange ropesFindWrong)

/- THE SECOND FORM. 'bulk': how many values and letters a reading holds, each counted each time it is reached (what is shared counts as often as it is met; a slice's spare places count too). A statement '..UptoSaid' is the law's where the arguments, and the package variables that the reading takes, are together of bulk at most 1048576: NARROWER than '..Said'. Prove '..Said' where nothing that the law and all that it calls make is longer than what came in: it says more and counts as full. Else prove '..UptoSaid'. A law counts once. -/
mutual
def uptoBulk {H : Type} : DataW H → Nat
  | .lit (.string bytes) => bytes.length + 1
  | .lit _ => 1
  | .nil => 1
  | .ptr d => uptoBulk d + 1
  | .slice elems spare => uptoBulkAll elems + uptoBulkAll spare + 1
  | .agg parts => uptoBulkAll parts + 1
  | .iface _ d => uptoBulk d + 1
  | .map entries => uptoBulkEntries entries + 1
  | .held _ => 1
def uptoBulkAll {H : Type} : List (DataW H) → Nat
  | [] => 0
  | d :: r => uptoBulk d + uptoBulkAll r
def uptoBulkEntries {H : Type} : List (Lit × DataW H) → Nat
  | [] => 0
  | x :: r => uptoBulkEntry x + uptoBulkEntries r
def uptoBulkEntry {H : Type} : Lit × DataW H → Nat
  | (.string bytes, d) => bytes.length + uptoBulk d + 1
  | (_, d) => uptoBulk d + 1
 end
def uptoSmall : (H : Type) → List (DataW H) → Bool := fun _ ds => decide (uptoBulkAll ds ≤ 1048576)
def OpenSpec.upto (s : _root_.Go.ChangeSpec) : _root_.Go.OpenSpec := { _root_.Go.OpenSpec.ofChange s with cond := some uptoSmall }

/-- 'paternosterlaw05.RopesOf', WHERE WHAT IT READS IS OF BULK AT MOST 1048576: true; the input reads as it did. -/
def ropesOfUptoRow : OpenClaim := { program := "ytafgdknfhchnpaa", sum := "6142913a295577684d9733b430db7c73a500562bc7fe0123a5b28cff813a118e", func := "paternoster/paternosterlaw05.RopesOf", spec := "ropesOf", unfollowed := true, recurses := true, apart := false, narrowed := true }
def RopesOfUptoSaid : Prop := ropesOfUptoRow.holds Try.pinned (OpenSpec.upto ropesOfSpec)

/-- 'paternosterlaw05.RopesSplit', WHERE WHAT IT READS IS OF BULK AT MOST 1048576: true; the input reads as it did. -/
def ropesSplitUptoRow : OpenClaim := { program := "ytafgdknfhchnpaa", sum := "6142913a295577684d9733b430db7c73a500562bc7fe0123a5b28cff813a118e", func := "paternoster/paternosterlaw05.RopesSplit", spec := "ropesSplit", unfollowed := true, recurses := true, apart := false, narrowed := true }
def RopesSplitUptoSaid : Prop := ropesSplitUptoRow.holds Try.pinned (OpenSpec.upto ropesSplitSpec)

/-- 'paternosterlaw05.RopesScript', WHERE WHAT IT READS IS OF BULK AT MOST 1048576: true; the input reads as it did. -/
def ropesScriptUptoRow : OpenClaim := { program := "ytafgdknfhchnpaa", sum := "6142913a295577684d9733b430db7c73a500562bc7fe0123a5b28cff813a118e", func := "paternoster/paternosterlaw05.RopesScript", spec := "ropesScript", unfollowed := true, recurses := true, apart := false, narrowed := true }
def RopesScriptUptoSaid : Prop := ropesScriptUptoRow.holds Try.pinned (OpenSpec.upto ropesScriptSpec)

/-- 'paternosterlaw05.RopesDeep', WHERE WHAT IT READS IS OF BULK AT MOST 1048576: true; the input reads as it did. -/
def ropesDeepUptoRow : OpenClaim := { program := "ytafgdknfhchnpaa", sum := "6142913a295577684d9733b430db7c73a500562bc7fe0123a5b28cff813a118e", func := "paternoster/paternosterlaw05.RopesDeep", spec := "ropesDeep", unfollowed := true, recurses := true, apart := false, narrowed := true }
def RopesDeepUptoSaid : Prop := ropesDeepUptoRow.holds Try.pinned (OpenSpec.upto ropesDeepSpec)

/-- 'paternosterlaw05.RopesKnown', WHERE WHAT IT READS IS OF BULK AT MOST 1048576: true; the input reads as it did. -/
def ropesKnownUptoRow : OpenClaim := { program := "ytafgdknfhchnpaa", sum := "6142913a295577684d9733b430db7c73a500562bc7fe0123a5b28cff813a118e", func := "paternoster/paternosterlaw05.RopesKnown", spec := "ropesKnown", unfollowed := true, recurses := true, apart := false, narrowed := true }
def RopesKnownUptoSaid : Prop := ropesKnownUptoRow.holds Try.pinned (OpenSpec.upto ropesKnownSpec)

/-- 'paternosterlaw05.RopesFind', WHERE WHAT IT READS IS OF BULK AT MOST 1048576: true; the input reads as it did. -/
def ropesFindUptoRow : OpenClaim := { program := "ytafgdknfhchnpaa", sum := "6142913a295577684d9733b430db7c73a500562bc7fe0123a5b28cff813a118e", func := "paternoster/paternosterlaw05.RopesFind", spec := "ropesFind", unfollowed := true, recurses := true, apart := false, narrowed := true }
def RopesFindUptoSaid : Prop := ropesFindUptoRow.holds Try.pinned (OpenSpec.upto ropesFindSpec)

end Rows
end Go.Proofs.Ytafgdknfhchnpaa

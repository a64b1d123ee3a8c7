/-
  The I of layer 6's law, opened.
-/
import Derived.Test.YtngbaiijdgmpoaaRows
import Derived.Test.YtngbaiijdgmpoaaSizJ
import Derived.Test.YtngbaiijdgmpoaaOpen3
namespace Go.Proofs.Ytngbaiijdgmpoaa
open Go.RowKit Go.ChangeShapes Go.WideShapes Go.ChangeAt Go.Joins Go.Deep

set_option maxRecDepth 100000 in
theorem op_I {H : Type} {enc : TypeId × Value → H} {w : World} {r : Reach} {b0 base : Nat} {spare : Nat → Bool} {held : Bool} {v : Value} {d : DataW H} {ps : List MemPlace}
    (hv : Value.okWide Try.prog w r b0 24 v) (hd : DataW.Trod enc Try.prog w base spare held 24 v d ps) :
    ∃ (A : Option Addr) (n c : Nat) (l : Nat → Int) (g : Bool), v = .agg #[.slice A n c, .bool g] ∧ Sees w w.heap.size A n (u8r l) ∧ (∀ j, 0 ≤ l j ∧ l j ≤ 255) ∧ n ≤ c ∧ c ≤ maxLen :=
  op_sb Try.underlying24 rfl (by kernel_rfl) (by kernel_rfl) rfl rfl Try.underlying22 Try.underlying5 (by kernel_rfl) Try.underlying4 hv hd
end Go.Proofs.Ytngbaiijdgmpoaa

/-
  The R of layer 5's law, opened.
-/
import Derived.Test.YtafgdknfhchnpaaRows
import Derived.Test.YtafgdknfhchnpaaRopOf
import Derived.Test.YtafgdknfhchnpaaOpen3
namespace Go.Proofs.Ytafgdknfhchnpaa
open Go.RowKit Go.ChangeShapes Go.WideShapes Go.ChangeAt Go.Joins Go.Deep

theorem op_R {H : Type} {enc : TypeId × Value → H} {w : World} {r : Reach} {b0 base : Nat} {spare : Nat → Bool} {held : Bool} {v : Value} {d : DataW H} {ps : List MemPlace}
    (hv : Value.okWide Try.prog w r b0 35 v) (hd : DataW.Trod enc Try.prog w base spare held 35 v d ps) :
    ∃ (A : Option Addr) (n c : Nat) (l : Nat → Int) (g : Bool), v = .agg #[.slice A n c, .bool g] ∧ Sees w w.heap.size A n (u8s l) ∧ (∀ j, 0 ≤ l j ∧ l j ≤ 255) ∧ n ≤ c ∧ c ≤ maxLen :=
  op_sb Try.underlying35 rfl (by kernel_rfl) (by kernel_rfl) rfl rfl Try.underlying33 Try.underlying5 (by kernel_rfl) Try.underlying4 hv hd
end Go.Proofs.Ytafgdknfhchnpaa

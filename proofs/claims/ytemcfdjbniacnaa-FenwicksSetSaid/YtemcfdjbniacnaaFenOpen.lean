/-
  The steps of layer 2's law, opened.
-/
import Derived.Test.YtemcfdjbniacnaaRows
import Derived.Test.YtemcfdjbniacnaaOpen2
namespace Go.Proofs.Ytemcfdjbniacnaa
open Go.RowKit Go.ChangeShapes Go.WideShapes Go.ChangeAt Go.Joins Go.Deep

theorem op_Steps {H : Type} {enc : TypeId × Value → H} {w : World} {r : Reach} {b0 base : Nat} {spare : Nat → Bool} {held : Bool} {v : Value} {d : DataW H} {ps : List MemPlace}
    (hv : Value.okWide Try.prog w r b0 45 v) (hd : DataW.Trod enc Try.prog w base spare held 45 v d ps) :
    ∃ A n c F, v = .slice A n c ∧ Sees w w.heap.size A (n * 2) F ∧ (∀ i, i < n → ∃ x y, F (i * 2) = .int .i64 x ∧ F (i * 2 + 1) = .int .i64 y ∧ Fits x ∧ Fits y) ∧ n ≤ c ∧ c ≤ maxLen := by
  obtain ⟨A, n, c, F, rfl, hs, h1, h2, hf⟩ := op_rows Try.underlying45 Try.underlying49 (m := 2) rfl (by kernel_rfl) (by kernel_rfl) hv hd
  refine ⟨A, n, c, F, rfl, hs, fun i hi => ?_, h1, h2⟩
  obtain ⟨_, _, g0⟩ := hf i hi 0 _ rfl
  obtain ⟨_, _, g1⟩ := hf i hi 1 _ rfl
  obtain ⟨x, hx, fx⟩ := cell_i64 Try.underlying3 g0
  obtain ⟨y, hy, fy⟩ := cell_i64 Try.underlying2 g1
  exact ⟨x, y, hx, hy, fx, fy⟩
end Go.Proofs.Ytemcfdjbniacnaa

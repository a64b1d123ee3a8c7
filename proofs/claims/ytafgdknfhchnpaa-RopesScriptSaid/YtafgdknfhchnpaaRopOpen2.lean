/-
  The steps of layer 5's law, opened.
-/
import Derived.Test.YtafgdknfhchnpaaRopOpen
import Derived.Test.YtafgdknfhchnpaaOpen2
namespace Go.Proofs.Ytafgdknfhchnpaa
open Go.RowKit Go.ChangeShapes Go.WideShapes Go.ChangeAt Go.Joins Go.Deep
set_option linter.unusedVariables false

/-- A cell that reads as a slice of integers. -/
theorem cell_ints {H : Type} {enc : TypeId × Value → H} {P : Program} {w : World} {base : Nat} {spare : Nat → Bool} {held : Bool} {t e : TypeId} {k : Nat} {x : Value} {y : DataW H × List MemPlace} (ht : P.underlying t = some (.slice e)) (he : P.underlying e = some (.int .i64)) (hc : P.cellsOf e = 1)
    (h : DataW.trod enc P w base spare held k t [x] = some y) : ∃ A n c l, x = .slice A n c ∧ Sees w w.heap.size A n (i64s l) ∧ (∀ j, Fits (l j)) ∧ n ≤ c ∧ c ≤ maxLen := by
  obtain ⟨A, n, c, rfl⟩ : ∃ A n c, x = .slice A n c := by
    rcases open_ints ht he hc h with ⟨hcs, _⟩ | ⟨a, l, cc, zs, hcs, _⟩
    · simp at hcs; exact ⟨_, _, _, hcs⟩
    · simp at hcs; exact ⟨_, _, _, hcs⟩
  obtain ⟨l, g1, g2, g3, g4⟩ := op_ints_cells ht he hc (by decide) h
  exact ⟨A, n, c, l, rfl, g1, fun j => bounds_i64 (g2 j), g3, g4⟩
/-- A step of the law. -/
def StepAt (w : World) (F : Nat → Value) (i : Nat) : Prop :=
  ∃ (kd a m x : Int) (As : Option Addr) (ns cs : Nat) (ls : Nat → Int), F (i * 5) = .int .u8 kd ∧ F (i * 5 + 1) = .int .i64 a ∧ F (i * 5 + 2) = .int .i64 m ∧ F (i * 5 + 3) = .int .i64 x ∧ F (i * 5 + 4) = .slice As ns cs ∧
    (0 ≤ kd ∧ kd ≤ 255) ∧ Fits a ∧ Fits m ∧ Fits x ∧ Sees w w.heap.size As ns (i64s ls) ∧ (∀ j, Fits (ls j)) ∧ ns ≤ cs ∧ cs ≤ maxLen
theorem op_Steps {H : Type} {enc : TypeId × Value → H} {w : World} {r : Reach} {b0 base : Nat} {spare : Nat → Bool} {held : Bool} {v : Value} {d : DataW H} {ps : List MemPlace}
    (hv : Value.okWide Try.prog w r b0 46 v) (hd : DataW.Trod enc Try.prog w base spare held 46 v d ps) :
    ∃ A n c F, v = .slice A n c ∧ Sees w w.heap.size A (n * 5) F ∧ (∀ i, i < n → StepAt w F i) ∧ n ≤ c ∧ c ≤ maxLen := by
  obtain ⟨A, n, c, F, rfl, hs, h1, h2, hf⟩ := op_rows Try.underlying46 Try.underlying48 (m := 5) rfl (by kernel_rfl) (by kernel_rfl) hv hd
  refine ⟨A, n, c, F, rfl, hs, fun i hi => ?_, h1, h2⟩
  obtain ⟨_, _, g0⟩ := hf i hi 0 _ rfl
  obtain ⟨_, _, g1⟩ := hf i hi 1 _ rfl
  obtain ⟨_, _, g2⟩ := hf i hi 2 _ rfl
  obtain ⟨_, _, g3⟩ := hf i hi 3 _ rfl
  obtain ⟨_, _, g4⟩ := hf i hi 4 _ rfl
  obtain ⟨x0, e0, f0⟩ := cell_u8 Try.underlying5 g0
  obtain ⟨x1, e1, f1⟩ := cell_i64 Try.underlying3 g1
  obtain ⟨x2, e2, f2⟩ := cell_i64 Try.underlying3 g2
  obtain ⟨x3, e3, f3⟩ := cell_i64 Try.underlying3 g3
  obtain ⟨A4, n4, c4, l4, e4, s4, f4, m4, M4⟩ := cell_ints Try.underlying22 Try.underlying2 (by kernel_rfl) g4
  exact ⟨x0, x1, x2, x3, A4, n4, c4, l4, e0, e1, e2, e3, e4, f0, f1, f2, f3, s4, f4, m4, M4⟩
end Go.Proofs.Ytafgdknfhchnpaa

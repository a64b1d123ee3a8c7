/-
  The I and the steps of layer 6's law, opened.
-/
import Derived.Test.YtngbaiijdgmpoaaRows
import Derived.Test.YtngbaiijdgmpoaaSizJ
import Derived.Test.YtngbaiijdgmpoaaOpen3
import Derived.Test.YtngbaiijdgmpoaaOpen2
namespace Go.Proofs.Ytngbaiijdgmpoaa
open Go.RowKit Go.ChangeShapes Go.WideShapes Go.ChangeAt Go.Joins Go.Deep
set_option linter.unusedVariables false

set_option maxRecDepth 100000 in
theorem op_I {H : Type} {enc : TypeId × Value → H} {w : World} {r : Reach} {b0 base : Nat} {spare : Nat → Bool} {held : Bool} {v : Value} {d : DataW H} {ps : List MemPlace}
    (hv : Value.okWide Try.prog w r b0 24 v) (hd : DataW.Trod enc Try.prog w base spare held 24 v d ps) :
    ∃ (A : Option Addr) (n c : Nat) (l : Nat → Int) (g : Bool), v = .agg #[.slice A n c, .bool g] ∧ Sees w w.heap.size A n (u8r l) ∧ (∀ j, 0 ≤ l j ∧ l j ≤ 255) ∧ n ≤ c ∧ c ≤ maxLen :=
  op_sb Try.underlying24 rfl (by kernel_rfl) (by kernel_rfl) rfl rfl Try.underlying22 Try.underlying5 (by kernel_rfl) Try.underlying4 hv hd
/-- A cell that reads as a slice of integers. -/
theorem cell_ints {H : Type} {enc : TypeId × Value → H} {P : Program} {w : World} {base : Nat} {spare : Nat → Bool} {held : Bool} {t e : TypeId} {k : Nat} {x : Value} {y : DataW H × List MemPlace} (ht : P.underlying t = some (.slice e)) (he : P.underlying e = some (.int .i64)) (hc : P.cellsOf e = 1)
    (h : DataW.trod enc P w base spare held k t [x] = some y) : ∃ A n c l, x = .slice A n c ∧ Sees w w.heap.size A n (i64s l) ∧ (∀ j, Fits (l j)) ∧ n ≤ c ∧ c ≤ maxLen := by
  obtain ⟨A, n, c, rfl⟩ : ∃ A n c, x = .slice A n c := by
    rcases open_ints ht he hc h with ⟨hcs, _⟩ | ⟨a, l, cc, zs, hcs, _⟩
    · simp at hcs; exact ⟨_, _, _, hcs⟩
    · simp at hcs; exact ⟨_, _, _, hcs⟩
  obtain ⟨l, g1, g2, g3, g4⟩ := op_ints_cells ht he hc (by decide) h
  exact ⟨A, n, c, l, rfl, g1, fun j => bounds_i64 (g2 j), g3, g4⟩
/-- A step of the law. -/
def StepAt (w : World) (F : Nat → Value) (i : Nat) : Prop :=
  ∃ (kd a m x z : Int) (As : Option Addr) (ns cs : Nat) (ls : Nat → Int), F (i * 6) = .int .u8 kd ∧ F (i * 6 + 1) = .int .i64 a ∧ F (i * 6 + 2) = .int .i64 m ∧ F (i * 6 + 3) = .int .i64 x ∧ F (i * 6 + 4) = .int .i64 z ∧ F (i * 6 + 5) = .slice As ns cs ∧
    (0 ≤ kd ∧ kd ≤ 255) ∧ Fits a ∧ Fits m ∧ Fits x ∧ Fits z ∧ Sees w w.heap.size As ns (i64s ls) ∧ (∀ j, Fits (ls j)) ∧ ns ≤ cs ∧ cs ≤ maxLen
set_option maxRecDepth 100000 in
theorem op_Steps {H : Type} {enc : TypeId × Value → H} {w : World} {r : Reach} {b0 base : Nat} {spare : Nat → Bool} {held : Bool} {v : Value} {d : DataW H} {ps : List MemPlace}
    (hv : Value.okWide Try.prog w r b0 60 v) (hd : DataW.Trod enc Try.prog w base spare held 60 v d ps) :
    ∃ A n c F, v = .slice A n c ∧ Sees w w.heap.size A (n * 6) F ∧ (∀ i, i < n → StepAt w F i) ∧ n ≤ c ∧ c ≤ maxLen := by
  obtain ⟨A, n, c, F, rfl, hs, h1, h2, hf⟩ := op_rows Try.underlying60 Try.underlying62 (m := 6) rfl (by kernel_rfl) (by kernel_rfl) hv hd
  refine ⟨A, n, c, F, rfl, hs, fun i hi => ?_, h1, h2⟩
  obtain ⟨_, _, g0⟩ := hf i hi 0 _ rfl
  obtain ⟨_, _, g1⟩ := hf i hi 1 _ rfl
  obtain ⟨_, _, g2⟩ := hf i hi 2 _ rfl
  obtain ⟨_, _, g3⟩ := hf i hi 3 _ rfl
  obtain ⟨_, _, g4⟩ := hf i hi 4 _ rfl
  obtain ⟨_, _, g5⟩ := hf i hi 5 _ rfl
  obtain ⟨x0, e0, f0⟩ := cell_u8 Try.underlying5 g0
  obtain ⟨x1, e1, f1⟩ := cell_i64 Try.underlying3 g1
  obtain ⟨x2, e2, f2⟩ := cell_i64 Try.underlying3 g2
  obtain ⟨x3, e3, f3⟩ := cell_i64 Try.underlying3 g3
  obtain ⟨x4, e4, f4⟩ := cell_i64 Try.underlying2 g4
  obtain ⟨A5, n5, c5, l5, e5, s5, f5, m5, M5⟩ := cell_ints Try.underlying54 Try.underlying2 (by kernel_rfl) g5
  exact ⟨x0, x1, x2, x3, x4, A5, n5, c5, l5, e0, e1, e2, e3, e4, e5, f0, f1, f2, f3, f4, s5, f5, m5, M5⟩
end Go.Proofs.Ytngbaiijdgmpoaa

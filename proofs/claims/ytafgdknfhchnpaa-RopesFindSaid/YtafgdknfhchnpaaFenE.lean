/-
  Contracts of package fenwicks, fifth: Find's refusals, Set.
-/
import Derived.Test.YtafgdknfhchnpaaFenD
import Derived.LoopTactic
import Derived.BigQuiet
import Derived.WalkMore
import Derived.Scope
namespace Go.Proofs.Ytafgdknfhchnpaa
open Go.RowKit
set_option linter.unusedVariables false

set_option maxRecDepth 100000 in
set_option maxHeartbeats 1600000 in
theorem fFind_bad (w : World) (B p n : Nat) (l : Nat → Int) (h : Fen w B p n l) (x : Int) (hx : x < 0 ∨ psum l n ≤ x) :
    Calls Try.prog 34 #[.pointer (some ⟨p, 0, none⟩), .int .i64 x] w fun e w' => e = .returned (.tuple #[.int .i64 0, .int .i64 0, .int .i64 4]) ∧ w = w' := by
  obtain ⟨gs, gt, hg, _⟩ := h
  obtain ⟨c0, c1, c2, c3, fz⟩ := tcells_of hg.hp
  have ht := (hg.ok.bd (Nat.le_refl n)).1
  obtain ⟨tot, htot⟩ : ∃ tot, tot = psum l n := ⟨_, rfl⟩
  rw [← htot] at c3 hx ht
  clear hg fz htot
  by_cases d : x < 0
  · clear hx
    go_enter Try.func34, Try.ntmps34
    go_wp2_with fail
    go_step3
    go_wp2_with fail
    refine (none_no w p c0).mono ?_
    rintro e w' ⟨rfl, rfl⟩
    go_wp2_with fail
    rw [Exit.noGoto_ret]
    go_ret3
    exact ⟨rfl, rfl⟩
  · have hx : tot ≤ x := by omega
    go_enter Try.func34, Try.ntmps34
    go_wp2_with fail
    go_step3
    go_wp2_with fail
    refine (none_no w p c0).mono ?_
    rintro e w' ⟨rfl, rfl⟩
    go_wp2_with fail
    rw [Exit.noGoto_ret]
    go_ret3
    exact ⟨rfl, rfl⟩

end Go.Proofs.Ytafgdknfhchnpaa

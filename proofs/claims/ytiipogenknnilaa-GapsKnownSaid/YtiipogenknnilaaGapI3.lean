/-
  Contracts of package gaps at elements of type int: widen, Insert, Remove, List, New.
-/
import Derived.Test.YtiipogenknnilaaRows
import Derived.Test.YtiipogenknnilaaMem2
import Derived.Test.YtiipogenknnilaaCp
import Derived.Test.YtiipogenknnilaaGapI
import Derived.Test.YtiipogenknnilaaGapI2
import Derived.LoopTactic
import Derived.Outline
import Derived.Deep.QuietTactic
import Derived.BigQuiet
import Derived.BigRegion
namespace Go.Proofs.Ytiipogenknnilaa
namespace GapI
open Go.RowKit
set_option linter.unusedVariables false

theorem infoE : (Try.prog.info? 3).map (fun i => (i.zero, i.size, i.bytes)) = some (some (.int .i64 0), 1, 8) := by kernel_rfl
theorem make_e (n : Nat) (x : Int) (hx : x = (n : Int)) (hn : n ≤ 1000000) (W : World) :
    (Instr.makeSlice 22 (.int .i64 x) (.int .i64 x)).run Try.prog W = .ok (.slice (some ⟨W.heap.size, 0, none⟩) n n) (W.alloc (.cells (madeCells #[.int .i64 0] n) 3)) := by
  subst hx
  exact run_make_row' 22 3 (.int .i64 0) 8 Try.underlying22 infoE rfl .i64 .i64 n (by omega) (by omega) W

/-- What List returns. -/
def ListPost (w : World) (n : Nat) (l : Nat → Int) (e : Ending) (w' : World) : Prop :=
  ∃ A, e = .returned (.slice A n n) ∧ (0 < n → ∃ g, A = some ⟨g, 0, none⟩ ∧ w.heap.size ≤ g ∧ w'.rowIs g 3 n (fun j => .int .i64 (l j))) ∧ Below w.heap.size w w' ∧ (n = 0 → A = none)

set_option maxRecDepth 100000 in
set_option maxHeartbeats 1600000 in
theorem list_any (w : World) (B p n at_ : Nat) (l : Nat → Int) (h : Buf w B p n at_ l) :
    Calls Try.prog 13 #[.pointer (some ⟨p, 0, none⟩)] w (ListPost w n l) := by
  have HB := Lib.hid h
  have hn := h.le.2.2
  have hat := h.le.2.1
  clear h
  by_cases n0 : n = 0
  · subst n0
    go_enter Try.func13, Try.ntmps13
    go_wp2_with fail
    refine (len_any w B p 0 at_ l HB.out).mono ?_
    rintro e w1 ⟨rfl, hd⟩
    have H : ListPost w 0 l (.returned (.slice none 0 0)) w1 := ⟨none, rfl, fun h => absurd h (by omega), hd.below _, fun _ => rfl⟩
    have HH := Lib.hid H
    clear H
    go_wp2_with fail
    go_ret
    exact HH.out
  · have hne : ((n : Int) == 0) = false := by simp; omega
    go_enter Try.func13, Try.ntmps13
    go_wp2_with fail
    refine (len_any w B p n at_ l HB.out).mono ?_
    rintro e w1 ⟨rfl, hd1⟩
    go_wp2_with fail
    refine (len_any w1 B p n at_ l (HB.out.drawn hd1)).mono ?_
    rintro e w2 ⟨rfl, hd2⟩
    have hd := hd1.trans hd2
    obtain ⟨g, m, gap, A, F, h1, _, _⟩ := HB.out.drawn hd
    have HBG := Lib.hid h1
    clear h1 hd1 hd2
    have hmk := make_e n n rfl (by omega)
    have hm : 0 < m := by have := HBG.out.hm; omega
    obtain ⟨rfl, hgp, hrow⟩ := HBG.out.hA hm
    obtain ⟨c0, c1, c2, fz⟩ := cells_of HBG.out.hp
    have plt : p < w2.heap.size := HBG.out.hp.lt
    have glt : g < w2.heap.size := hrow.lt
    have a1 : at_ ≤ m := by have := HBG.out.hm; omega
    have a2 : at_ + gap ≤ m := by have := HBG.out.hm; omega
    have a3 := HBG.out.hm2
    have k1 : Nat.min at_ n = at_ := by simp only [Nat.min_def]; rw [if_pos hat]
    have k2 : m - (at_ + gap) = n - at_ := by have := HBG.out.hm; omega
    -- the new row, and what is copied into it
    have hw : (w2.alloc (.cells (madeCells #[.int .i64 0] n) 3)).drew.heap.size = w2.heap.size + 1 := by simp
    obtain ⟨w3, hcp, hrow3, ho3⟩ := copy_row (P := Try.prog) (w2.alloc (.cells (madeCells #[.int .i64 0] n) 3)).drew (dT := 22) (sT := 22) Try.underlying22 infoSize
      (show (w2.alloc (.cells (madeCells #[.int .i64 0] n) 3)).drew.rowIs w2.heap.size 3 n (fun _ => .int .i64 0) from World.rowIs_made w2 _ n _) 0 n n
      (B := w2.heap.size) (A := some ⟨g, 0, none⟩) (sLen := at_) (sCap := m) (cs := F) (fun _ => ⟨g, 0, rfl, glt, fun j hj => by rw [Nat.zero_add]; exact (hrow.alloc _).cell (by omega)⟩) HBG.out.one at_ k1.symm (by omega)
    have q0 : w3.cell? ⟨p, 0, none⟩ = some (.slice (some ⟨g, 0, none⟩) m m) := (ho3.cell (by rw [hw]; omega) (by omega) 0).trans ((World.cell?_alloc_past _ p 0 plt).trans c0)
    have q1 : w3.cell? ⟨p, 1, none⟩ = some (.int .i64 at_) := (ho3.cell (by rw [hw]; omega) (by omega) 1).trans ((World.cell?_alloc_past _ p 1 plt).trans c1)
    have q2 : w3.cell? ⟨p, 2, none⟩ = some (.int .i64 gap) := (ho3.cell (by rw [hw]; omega) (by omega) 2).trans ((World.cell?_alloc_past _ p 2 plt).trans c2)
    have hrg : w3.rowIs g 3 m F := ho3.row (hrow.alloc _) (by omega)
    have e3 : w2.heap.size ≤ w3.heap.size := by have := ho3.size; rw [hw] at this; omega
    obtain ⟨w4, hcp2, hrow4, ho4⟩ := copy_row (P := Try.prog) w3.drew (dT := 22) (sT := 22) Try.underlying22 infoSize (show w3.drew.rowIs w2.heap.size 3 n _ from hrow3) at_ (n - at_) (n - at_)
      (B := w2.heap.size) (A := some ⟨g, at_ + gap, none⟩) (sLen := m - (at_ + gap)) (sCap := m - (at_ + gap)) (cs := fun j => F (at_ + gap + j)) (fun _ => ⟨g, at_ + gap, rfl, glt, fun j hj => hrg.cell (by omega)⟩) (fun j => HBG.out.one _) (n - at_)
      (by rw [k2]; simp only [Nat.min_def]; rw [if_pos (Nat.le_refl _)]) (by omega)
    have hcn : ∀ (W : World) (dp sp : Option Addr) (dLen dCap : Nat) ty, (Builtin.copy_ #[22, 22] ty #[.slice dp dLen dCap, .slice sp 0 0]).run Try.prog W = .ok (goInt 0) W :=
      fun W dp sp dLen dCap => copy_nothing W Try.underlying22 infoSize dp sp dLen dCap 0 0 (.inl rfl)
    have hb3 : Below w2.heap.size w2 w3 := ((Below.refl _ _).alloc (Nat.le_refl _) _).drew.trans (ho3.below (Nat.le_refl _) (by rw [hw]; omega))
    have H : ListPost w n l (.returned (.slice (some ⟨w2.heap.size, 0, none⟩) n n)) w4 := by
      refine ⟨_, rfl, fun _ => ⟨w2.heap.size, rfl, by rw [hd.size]; exact Nat.le_refl _, hrow4.congr fun j hj => ?_⟩, ?_, fun h => absurd h n0⟩
      · unfold spliced
        by_cases c : j < at_
        · rw [if_neg (by omega), if_pos (by omega)]
          exact HBG.out.lo j c
        · rw [if_pos (by omega)]
          show F (at_ + gap + (j - at_)) = _
          rw [show at_ + gap + (j - at_) = j + gap from by omega]
          exact HBG.out.hi j (by omega) hj
      · have hb4 : Below w2.heap.size w3 w4 := (below_drewN (Below.refl _ w3) 1).trans (ho4.below (Nat.le_refl _) e3)
        exact (hd.below _).trans ((hb3.trans hb4).mono (by rw [hd.size]; exact Nat.le_refl _))
    have H' : n = at_ → ListPost w n l (.returned (.slice (some ⟨w2.heap.size, 0, none⟩) n n)) w3.drew := by
      intro e
      refine ⟨_, rfl, fun _ => ⟨w2.heap.size, rfl, by rw [hd.size]; exact Nat.le_refl _, World.rowIs.drew (hrow3.congr fun j hj => ?_)⟩, ?_, fun h => absurd h n0⟩
      · unfold spliced
        rw [if_pos (by omega)]
        exact HBG.out.lo j (by omega)
      · exact (hd.below _).trans ((hb3.drew).mono (by rw [hd.size]; exact Nat.le_refl _))
    have HH := Lib.hid H
    have HH' := Lib.hid H'
    have K2 := Lib.hid k2
    clear H H' hrow hrow3 hrow4 ho3 ho4 hrg hw hb3 k1 k2
    go_wp2_with fail
    clear hmk
    go_region
    go_wp2_with fail
    clear hcp
    by_cases e1 : n = at_
    · subst e1
      have z1 : m - (n + gap) = 0 := by have := K2.out; omega
      simp only [z1, Nat.sub_self] at hcp2
      clear hcp2
      by_cases e2 : m = n + gap
      · subst e2
        go_region
        go_wp2_with fail
        go_ret
        exact HH'.out (by first | rfl | trivial)
      · exact absurd (HBG.out.hm) e2
    · have e2 : ¬ m = at_ + gap := by have := HBG.out.hm; omega
      clear hcn
      go_region
      go_wp2_with fail
      go_ret
      exact HH.out
end GapI
end Go.Proofs.Ytiipogenknnilaa

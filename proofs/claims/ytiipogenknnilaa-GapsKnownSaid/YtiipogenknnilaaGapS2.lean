/-
  Contracts of package gaps at elements of type string: what moves memory.
-/
import Derived.Test.YtiipogenknnilaaRows
import Derived.Test.YtiipogenknnilaaMem2
import Derived.Test.YtiipogenknnilaaCp
import Derived.Test.YtiipogenknnilaaGapS
import Derived.LoopTactic
import Derived.Outline
import Derived.Deep.QuietTactic
import Derived.BigQuiet
import Derived.StillTailTactics
import Derived.BigRegion
namespace Go.Proofs.Ytiipogenknnilaa
namespace GapS
open Go.RowKit
set_option linter.unusedVariables false

theorem infoSize : (Try.prog.info? 9).map (·.size) = some 1 := by kernel_rfl
theorem zeroE (W : World) : (zeroValue 9).run Try.prog W = .ok (.string ByteArray.empty) W := by kernel_rfl

/-- The row behind the moving of the gap. -/
def moved (F : Nat → Value) (at_ gap at' : Nat) : Nat → Value :=
  if at' < at_ then spliced F (at' + gap) (at_ - at') (fun j => F (at' + j)) else spliced F at_ (at' - at_) (fun j => F (at_ + gap + j))
theorem moved_lo {w : World} {p g m n at_ gap : Nat} {A : Option Addr} {F : Nat → Value} {l : Nat → ByteArray} (h : BG w p g m n at_ gap A F l) {at' : Nat} (ha : at' ≤ n) : ∀ j, j < at' → moved F at_ gap at' j = .string (l j) := by
  intro j hj
  have hat := h.hat
  unfold moved
  by_cases c : at' < at_
  · rw [if_pos c]; unfold spliced; rw [if_neg (by omega)]; exact h.lo j (by omega)
  · rw [if_neg c]; unfold spliced
    by_cases d : j < at_
    · rw [if_neg (by omega)]; exact h.lo j d
    · rw [if_pos (by omega)]; show F (at_ + gap + (j - at_)) = _; rw [show at_ + gap + (j - at_) = j + gap from by omega]; exact h.hi j (by omega) (by omega)
theorem moved_hi {w : World} {p g m n at_ gap : Nat} {A : Option Addr} {F : Nat → Value} {l : Nat → ByteArray} (h : BG w p g m n at_ gap A F l) {at' : Nat} (ha : at' ≤ n) : ∀ j, at' ≤ j → j < n → moved F at_ gap at' (j + gap) = .string (l j) := by
  intro j hj hn
  have hat := h.hat
  unfold moved
  by_cases c : at' < at_
  · rw [if_pos c]; unfold spliced
    by_cases d : j < at_
    · rw [if_pos (by omega)]; show F (at' + (j + gap - (at' + gap))) = _; rw [show at' + (j + gap - (at' + gap)) = j from by omega]; exact h.lo j d
    · rw [if_neg (by omega)]; exact h.hi j (by omega) hn
  · rw [if_neg c]; unfold spliced; rw [if_neg (by omega)]; exact h.hi j (by omega) hn
theorem spliced_one {f cs : Nat → Value} {off k : Nat} (h1 : ∀ j, (f j).oneCell' = true) (h2 : ∀ j, (cs j).oneCell' = true) : ∀ j, (spliced f off k cs j).oneCell' = true := by
  intro j; unfold spliced; split
  · exact h2 _
  · exact h1 _
theorem moved_one {F : Nat → Value} {at_ gap at' : Nat} (h : ∀ j, (F j).oneCell' = true) : ∀ j, (moved F at_ gap at' j).oneCell' = true := by
  unfold moved; split
  · exact spliced_one h fun j => h _
  · exact spliced_one h fun j => h _
/-- Places inside the gap don't matter. -/
theorem clear_lo {F : Nat → Value} {at' gap : Nat} {z : Value} {j : Nat} (hj : j < at') : spliced F at' gap (fun _ => z) j = F j := by unfold spliced; rw [if_neg (by omega)]
theorem clear_hi {F : Nat → Value} {at' gap : Nat} {z : Value} {j : Nat} (hj : at' ≤ j) : spliced F at' gap (fun _ => z) (j + gap) = F (j + gap) := by unfold spliced; rw [if_neg (by omega)]

theorem bufCells_at {A : Option Addr} {m at_ gap at' : Nat} : (fun j => if j = 1 then Value.int .i64 at' else bufCells A m at_ gap j) = bufCells A m at' gap := by
  funext j
  unfold bufCells
  by_cases h1 : j = 1
  · subst h1; simp
  · simp [h1]
theorem bufCells_gap {A : Option Addr} {m at_ gap gap' : Nat} : ∀ j, j < 3 → (fun j => if j = 2 then Value.int .i64 gap' else bufCells A m at_ gap j) j = bufCells A m at_ gap' j := by
  intro j hj
  unfold bufCells
  match j, hj with
  | 0, _ => simp
  | 1, _ => simp
  | 2, _ => simp

/-- What bring leaves. -/
def BringPost (w : World) (p g m n at' gap : Nat) (A : Option Addr) (l : Nat → ByteArray) (e : Ending) (w' : World) : Prop :=
  e = .returned (.tuple #[]) ∧ (∃ F', BG w' p g m n at' gap A F' l) ∧ Only2 w w' p g

set_option maxRecDepth 100000 in
set_option maxHeartbeats 1600000 in
theorem bring_any (w : World) (p g m n at_ gap : Nat) (A : Option Addr) (F : Nat → Value) (l : Nat → ByteArray) (h : BG w p g m n at_ gap A F l) (at' : Nat) (ha : at' ≤ n) :
    Calls Try.prog 30 #[.pointer (some ⟨p, 0, none⟩), .int .i64 at'] w (BringPost w p g m n at' gap A l) := by
  have HB := Lib.hid h
  obtain ⟨c0, c1, c2, fz⟩ := cells_of h.hp
  have hm := h.hm
  have hm2 := h.hm2
  have hn := h.hn
  have hat := h.hat
  have HM := Lib.hid hm
  have b1 : gap ≤ m := by omega
  have b2 : at' + gap ≤ m := by omega
  have b3 : at_ + gap ≤ m := by omega
  clear h hm
  by_cases c : at' < at_
  · have mp : 0 < m := by have := HM.out; omega
    obtain ⟨rfl, hgp, hrow⟩ := HB.out.hA mp
    obtain ⟨w1, hcp, hrow1, ho1⟩ := copy_row (P := Try.prog) w.drew (dT := 44) (sT := 44) Try.underlying44 infoSize (show w.drew.rowIs g 9 m F from hrow) (at' + gap) (m - (at' + gap)) (m - (at' + gap))
      (B := w.heap.size) (A := some ⟨g, at', none⟩) (sLen := at_ - at') (sCap := m - at') (cs := fun j => F (at' + j))
      (fun _ => ⟨g, at', rfl, hrow.lt, fun j hj => hrow.cell (by omega)⟩) (fun j => HB.out.one _) (at_ - at') (by have := HM.out; simp only [Nat.min_def]; rw [if_pos (by omega)]) (by have := HM.out; omega)
    have ne1 : ¬ m = at' + gap := by have := HM.out; omega
    have ne2 : ¬ m = at' := by omega
    go_enter Try.func30, Try.ntmps30
    have plt : p < w.drew.heap.size := HB.out.hp.lt
    have hgp' : p ≠ g := fun e => hgp e.symm
    have q0 : w1.cell? ⟨p, 0, none⟩ = some (.slice (some ⟨g, 0, none⟩) m m) := (ho1.cell plt hgp' 0).trans c0
    have q1 : w1.cell? ⟨p, 1, none⟩ = some (.int .i64 at_) := (ho1.cell plt hgp' 1).trans c1
    have q2 : w1.cell? ⟨p, 2, none⟩ = some (.int .i64 gap) := (ho1.cell plt hgp' 2).trans c2
    have qz : ∀ i, w1.frozen? ⟨p, i, none⟩ = false := fun i => (ho1.frozen plt hgp' i).trans (fz i)
    have hp1 : w1.rowIs p 52 3 (bufCells (some ⟨g, 0, none⟩) m at_ gap) := ho1.row (show w.drew.rowIs p _ 3 _ from HB.out.hp) hgp'
    obtain ⟨w2, hcl, hrow2, ho2⟩ := clear_row (P := Try.prog) (w1.setCell ⟨p, 1, none⟩ (.int .i64 at')).drew Try.underlying44 zeroE rfl rfl (show (w1.setCell ⟨p, 1, none⟩ (.int .i64 at')).drew.rowIs g 9 m _ from hrow1.setOther hgp _)
      (some ⟨g, at', none⟩) at' gap (m - at') (fun _ => rfl) b2
    have hp2 : w2.rowIs p 52 3 (bufCells (some ⟨g, 0, none⟩) m at' gap) := ho2.row (by have := hp1.set 1 (.int .i64 (at' : Int)); rw [bufCells_at] at this; exact this) hgp'
    have H : BringPost w p g m n at' gap (some ⟨g, 0, none⟩) l (.returned (.tuple #[])) w2 := by
      refine ⟨rfl, ⟨_, hp2, fun _ => ⟨rfl, hgp, hrow2⟩, HM.out, ha, fun j hj => ?_, fun j h1 h2 => ?_, hn, hm2, spliced_one (spliced_one HB.out.one fun j => HB.out.one _) fun _ => rfl⟩, ?_⟩
      · rw [clear_lo hj]
        have := moved_lo HB.out ha j hj
        unfold moved at this; rwa [if_pos c] at this
      · rw [clear_hi h1]
        have := moved_hi HB.out ha j h1 h2
        unfold moved at this; rwa [if_pos c] at this
      · exact ((Only2.of_only ho1 (.inr rfl)).drewL.setCell p 1 (.inl rfl) _).drew.trans (Only2.of_only ho2 (.inr rfl)) (.inl rfl)
    have HH := Lib.hid H
    clear H hp1 hp2 hrow1 hrow2 ho1 ho2
    go_wp2_with fail
    go_region
    go_wp2_with fail
    clear hcp
    go_region
    go_wp2_with fail
    go_end0
    exact HH.out
  · by_cases c' : at_ < at'
    · have mp : 0 < m := by have := HM.out; omega
      obtain ⟨rfl, hgp, hrow⟩ := HB.out.hA mp
      obtain ⟨w1, hcp, hrow1, ho1⟩ := copy_row (P := Try.prog) w.drew (dT := 44) (sT := 44) Try.underlying44 infoSize (show w.drew.rowIs g 9 m F from hrow) at_ (m - at_) (m - at_)
        (B := w.heap.size) (A := some ⟨g, at_ + gap, none⟩) (sLen := at' + gap - (at_ + gap)) (sCap := m - (at_ + gap)) (cs := fun j => F (at_ + gap + j))
        (fun _ => ⟨g, at_ + gap, rfl, hrow.lt, fun j hj => hrow.cell (by omega)⟩) (fun j => HB.out.one _) (at' - at_) (by simp only [Nat.min_def]; rw [if_pos (by omega)]; omega) (by omega)
      have ne1 : ¬ m = at_ := by have := HM.out; omega
      have ne2 : ¬ m = at_ + gap := by have := HM.out; omega
      have cc : (at_ : Int) ≤ (at' : Int) := by omega
      have plt : p < w.drew.heap.size := HB.out.hp.lt
      have hgp' : p ≠ g := fun e => hgp e.symm
      have q0 : w1.cell? ⟨p, 0, none⟩ = some (.slice (some ⟨g, 0, none⟩) m m) := (ho1.cell plt hgp' 0).trans c0
      have q1 : w1.cell? ⟨p, 1, none⟩ = some (.int .i64 at_) := (ho1.cell plt hgp' 1).trans c1
      have q2 : w1.cell? ⟨p, 2, none⟩ = some (.int .i64 gap) := (ho1.cell plt hgp' 2).trans c2
      have qz : ∀ i, w1.frozen? ⟨p, i, none⟩ = false := fun i => (ho1.frozen plt hgp' i).trans (fz i)
      have hp1 : w1.rowIs p 52 3 (bufCells (some ⟨g, 0, none⟩) m at_ gap) := ho1.row (show w.drew.rowIs p _ 3 _ from HB.out.hp) hgp'
      have fin : ∀ X : Option Addr, (0 < gap → X = some ⟨g, at', none⟩) → ∃ w2, (∀ ty, (Builtin.clear_ #[44] ty #[.slice X gap (m - at')]).run Try.prog (w1.setCell ⟨p, 1, none⟩ (.int .i64 at')).drew = .ok (.tuple #[]) w2) ∧
          BringPost w p g m n at' gap (some ⟨g, 0, none⟩) l (.returned (.tuple #[])) w2 := by
        intro X hX
        obtain ⟨w2, hcl, hrow2, ho2⟩ := clear_row (P := Try.prog) (w1.setCell ⟨p, 1, none⟩ (.int .i64 at')).drew Try.underlying44 zeroE rfl rfl (show (w1.setCell ⟨p, 1, none⟩ (.int .i64 at')).drew.rowIs g 9 m _ from hrow1.setOther hgp _)
          X at' gap (m - at') hX b2
        have hp2 : w2.rowIs p 52 3 (bufCells (some ⟨g, 0, none⟩) m at' gap) := ho2.row (by have := hp1.set 1 (.int .i64 (at' : Int)); rw [bufCells_at] at this; exact this) hgp'
        refine ⟨w2, hcl, rfl, ⟨_, hp2, fun _ => ⟨rfl, hgp, hrow2⟩, HM.out, ha, fun j hj => ?_, fun j h1 h2 => ?_, hn, hm2, spliced_one (spliced_one HB.out.one fun j => HB.out.one _) fun _ => rfl⟩, ?_⟩
        · rw [clear_lo hj]
          have := moved_lo HB.out ha j hj
          unfold moved at this; rwa [if_neg c] at this
        · rw [clear_hi h1]
          have := moved_hi HB.out ha j h1 h2
          unfold moved at this; rwa [if_neg c] at this
        · exact ((Only2.of_only ho1 (.inr rfl)).drewL.setCell p 1 (.inl rfl) _).drew.trans (Only2.of_only ho2 (.inr rfl)) (.inl rfl)
      by_cases ne3 : m = at'
      · obtain ⟨w2, hcl, HB2⟩ := fin (some ⟨g, 0, none⟩) (fun hg => by have := HM.out; omega)
        have HH := Lib.hid HB2
        obtain rfl : gap = 0 := by have := HM.out; omega
        clear HB2 fin hp1 hrow1 ho1
        subst ne3
        simp only [Nat.add_zero, Nat.sub_self] at hcp hcl ne2 b3 b2
        go_enter Try.func30, Try.ntmps30
        go_wp2_with fail
        go_region
        go_wp2_with fail
        clear hcp
        go_region
        go_wp2_with fail
        go_end0
        exact HH.out
      · obtain ⟨w2, hcl, HB2⟩ := fin (some ⟨g, at', none⟩) (fun hg => rfl)
        have HH := Lib.hid HB2
        clear HB2 fin hp1 hrow1 ho1
        go_enter Try.func30, Try.ntmps30
        go_wp2_with fail
        go_region
        go_wp2_with fail
        clear hcp
        go_region
        go_wp2_with fail
        go_end0
        exact HH.out
    · obtain rfl : at_ = at' := by omega
      have hcp : ∀ (W : World) (dp sp : Option Addr) (dLen dCap sCap : Nat) ty, (Builtin.copy_ #[44, 44] ty #[.slice dp dLen dCap, .slice sp 0 sCap]).run Try.prog W = .ok (goInt 0) W :=
        fun W dp sp dLen dCap sCap => copy_nothing W Try.underlying44 infoSize dp sp dLen dCap 0 sCap (.inl rfl)
      by_cases m0 : m = 0
      · obtain rfl : gap = 0 := by omega
        obtain rfl : at_ = 0 := by omega
        subst m0
        have hcl : ∀ (W : World) (sp : Option Addr) (sCap : Nat) ty, (Builtin.clear_ #[44] ty #[.slice sp 0 sCap]).run Try.prog W = .ok (.tuple #[]) W := by
          intro W sp sCap ty
          rcases sp with _ | a <;> simp [Builtin.clear_, run_underlying Try.underlying44]
        have H : ∀ q, BringPost w p g 0 n 0 0 A l (.returned (.tuple #[])) ((w.setCell ⟨p, 1, none⟩ (.int .i64 0)).drewN q) := by
          intro q
          refine ⟨rfl, ⟨F, ?_, fun h => absurd h (by omega), HM.out, ha, HB.out.lo, HB.out.hi, hn, hm2, HB.out.one⟩, ((Only2.refl w p g).setCell p 1 (.inl rfl) _).drewN q⟩
          have := HB.out.hp.set 1 (.int .i64 ((0 : Nat) : Int))
          rw [bufCells_at] at this
          exact this
        have HH := Lib.hid H
        clear H
        go_enter Try.func30, Try.ntmps30
        go_wp2_with fail
        go_region
        go_wp2_with fail
        go_region
        go_wp2_with fail
        go_end0
        exact HH.out 2
      · obtain ⟨rfl, hgp, hrow⟩ := HB.out.hA (by omega)
        have plt : p < w.drew.heap.size := HB.out.hp.lt
        have hgp' : p ≠ g := fun e => hgp e.symm
        have hp1 : w.rowIs p 52 3 (bufCells (some ⟨g, 0, none⟩) m at_ gap) := HB.out.hp
        have fin : ∀ X : Option Addr, (0 < gap → X = some ⟨g, at_, none⟩) → ∃ w2, (∀ ty, (Builtin.clear_ #[44] ty #[.slice X gap (m - at_)]).run Try.prog (w.setCell ⟨p, 1, none⟩ (.int .i64 at_)).drew.drew = .ok (.tuple #[]) w2) ∧
            BringPost w p g m n at_ gap (some ⟨g, 0, none⟩) l (.returned (.tuple #[])) w2 := by
          intro X hX
          obtain ⟨w2, hcl, hrow2, ho2⟩ := clear_row (P := Try.prog) (w.setCell ⟨p, 1, none⟩ (.int .i64 at_)).drew.drew Try.underlying44 zeroE rfl rfl (show (w.setCell ⟨p, 1, none⟩ (.int .i64 at_)).drew.drew.rowIs g 9 m _ from hrow.setOther hgp _)
            X at_ gap (m - at_) hX b2
          have hp2 : w2.rowIs p 52 3 (bufCells (some ⟨g, 0, none⟩) m at_ gap) := ho2.row (by have := hp1.set 1 (.int .i64 (at_ : Int)); rw [bufCells_at] at this; exact this) hgp'
          refine ⟨w2, hcl, rfl, ⟨_, hp2, fun _ => ⟨rfl, hgp, hrow2⟩, HM.out, ha, fun j hj => ?_, fun j h1 h2 => ?_, hn, hm2, spliced_one HB.out.one fun _ => rfl⟩, ?_⟩
          · rw [clear_lo hj]; exact HB.out.lo j hj
          · rw [clear_hi h1]; exact HB.out.hi j h1 h2
          · exact ((Only2.refl w p g).setCell p 1 (.inl rfl) _).drew.drew.trans (Only2.of_only ho2 (.inr rfl)) (.inl rfl)
        by_cases ne3 : m = at_
        · obtain ⟨w2, hcl, HB2⟩ := fin (some ⟨g, 0, none⟩) (fun hg => by have := HM.out; omega)
          have HH := Lib.hid HB2
          obtain rfl : gap = 0 := by have := HM.out; omega
          clear HB2 fin hp1 hrow
          subst ne3
          simp only [Nat.sub_self] at hcl
          go_enter Try.func30, Try.ntmps30
          go_wp2_with fail
          go_region
          go_wp2_with fail
          clear hcp
          go_region
          go_wp2_with fail
          go_end0
          exact HH.out
        · obtain ⟨w2, hcl, HB2⟩ := fin (some ⟨g, at_, none⟩) (fun hg => rfl)
          have HH := Lib.hid HB2
          clear HB2 fin hp1 hrow
          by_cases ne4 : m = at_ + gap
          · subst ne4
            have e4 : at_ + gap - at_ = gap := by omega
            simp only [e4] at hcl
            go_enter Try.func30, Try.ntmps30
            go_wp2_with fail
            go_region
            go_wp2_with fail
            clear hcp
            go_region
            go_wp2_with fail
            go_end0
            exact HH.out
          · go_enter Try.func30, Try.ntmps30
            go_wp2_with fail
            go_region
            go_wp2_with fail
            clear hcp
            go_region
            go_wp2_with fail
            go_end0
            exact HH.out
end GapS
end Go.Proofs.Ytiipogenknnilaa

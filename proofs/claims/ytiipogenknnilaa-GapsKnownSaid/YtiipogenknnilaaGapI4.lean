/-
  Contracts of package gaps at elements of type int: widen, Insert, Remove, New.
-/
import Derived.Test.YtiipogenknnilaaRows
import Derived.Test.YtiipogenknnilaaMem2
import Derived.Test.YtiipogenknnilaaCp
import Derived.Test.YtiipogenknnilaaGapI
import Derived.Test.YtiipogenknnilaaGapI2
import Derived.Test.YtiipogenknnilaaGapI3
import Derived.LoopTactic
import Derived.Outline
import Derived.Deep.QuietTactic
import Derived.BigQuiet
import Derived.BigRegion
namespace Go.Proofs.Ytiipogenknnilaa
namespace GapI
open Go.RowKit
set_option linter.unusedVariables false

/-- What widen leaves. -/
def WidenPost (w : World) (p g n at_ k : Nat) (l : Nat → Int) (e : Ending) (w' : World) : Prop :=
  e = .returned (.tuple #[]) ∧ (∃ g' m' gap' A' F', BG w' p g' m' n at_ gap' A' F' l ∧ k ≤ gap' ∧ (g' = g ∨ w.heap.size ≤ g')) ∧ Only2 w w' p p

set_option maxRecDepth 100000 in
set_option maxHeartbeats 1600000 in
theorem widen_any (w : World) (p g m n at_ gap : Nat) (A : Option Addr) (F : Nat → Value) (l : Nat → Int) (h : BG w p g m n at_ gap A F l) (k : Nat) (hk : k ≤ 4096) :
    Calls Try.prog 26 #[.pointer (some ⟨p, 0, none⟩), .int .i64 k] w (WidenPost w p g n at_ k l) := by
  have HB := Lib.hid h
  obtain ⟨c0, c1, c2, fz⟩ := cells_of h.hp
  have hm2 := h.hm2
  have hn := h.hn
  have hat := h.hat
  have HM := Lib.hid h.hm
  have b0 : gap ≤ m := by have := HM.out; omega
  clear h
  by_cases ck : k ≤ gap
  · have H : WidenPost w p g n at_ k l (.returned (.tuple #[])) w := ⟨rfl, ⟨g, m, gap, A, F, HB.out, ck, .inl rfl⟩, Only2.refl _ _ _⟩
    have HH := Lib.hid H
    clear H
    go_enter Try.func26, Try.ntmps26
    go_wp2_with fail
    go_end0
    exact HH.out
  · obtain ⟨G, hG⟩ : ∃ G : Nat, G = k + m / 2 + 8 := ⟨_, rfl⟩
    have g1 : ((k : Int) + (m : Int) / 2 + 8) = (G : Int) := by omega
    have g2 : k ≤ G := by omega
    have g3 : n + G ≤ 20000 := by omega
    have g4 : G ≤ 20000 := by omega
    have HG := Lib.hid hG
    clear hG
    have HL := Lib.hid (show Buf w 0 p n at_ l from ⟨g, m, gap, A, F, HB.out, Nat.zero_le _, fun _ => Nat.zero_le _⟩)
    have ck' : ¬ (k : Int) ≤ (gap : Int) := by omega
    go_enter Try.func26, Try.ntmps26
    go_wp2_with fail
    refine (len_any w 0 p n at_ l HL.out).mono ?_
    rintro e w2 ⟨rfl, hd⟩
    have HBG := Lib.hid (HB.out.drawn hd)
    have hmk := make_e (n + G) ((n : Int) + (G : Int)) (by omega) (by omega)
    have d0 : w2.cell? ⟨p, 0, none⟩ = some (.slice A m m) := (hd.cell _).trans c0
    have d1 : w2.cell? ⟨p, 1, none⟩ = some (.int .i64 at_) := (hd.cell _).trans c1
    have d2 : w2.cell? ⟨p, 2, none⟩ = some (.int .i64 gap) := (hd.cell _).trans c2
    have dz : ∀ i, w2.frozen? ⟨p, i, none⟩ = false := fun i => HBG.out.hp.frozen i
    have plt : p < w2.heap.size := HBG.out.hp.lt
    have a1 : at_ ≤ m := by have := HM.out; omega
    have a2 : at_ + gap ≤ m := by have := HM.out; omega
    have k1 : Nat.min at_ (n + G) = at_ := by simp only [Nat.min_def]; rw [if_pos (by omega)]
    have k2 : m - (at_ + gap) = n - at_ := by have := HM.out; omega
    have hw : (w2.alloc (.cells (madeCells #[.int .i64 0] (n + G)) 3)).drew.heap.size = w2.heap.size + 1 := by simp
    have sees1 : Sees (w2.alloc (.cells (madeCells #[.int .i64 0] (n + G)) 3)).drew w2.heap.size A at_ F := by
      intro hp
      obtain ⟨rfl, _, hrow⟩ := HBG.out.hA (by omega)
      exact ⟨g, 0, rfl, hrow.lt, fun j hj => by rw [Nat.zero_add]; exact (hrow.alloc _).cell (by omega)⟩
    obtain ⟨w3, hcp, hrow3, ho3⟩ := copy_row (P := Try.prog) (w2.alloc (.cells (madeCells #[.int .i64 0] (n + G)) 3)).drew (dT := 22) (sT := 22) Try.underlying22 infoSize
      (show (w2.alloc (.cells (madeCells #[.int .i64 0] (n + G)) 3)).drew.rowIs w2.heap.size 3 (n + G) (fun _ => .int .i64 0) from World.rowIs_made w2 _ (n + G) _) 0 (n + G) (n + G)
      (B := w2.heap.size) (A := A) (sLen := at_) (sCap := m) (cs := F) sees1 HBG.out.one at_ k1.symm (by omega)
    have q0 : w3.cell? ⟨p, 0, none⟩ = some (.slice A m m) := (ho3.cell (by rw [hw]; omega) (by omega) 0).trans ((World.cell?_alloc_past _ p 0 plt).trans d0)
    have q1 : w3.cell? ⟨p, 1, none⟩ = some (.int .i64 at_) := (ho3.cell (by rw [hw]; omega) (by omega) 1).trans ((World.cell?_alloc_past _ p 1 plt).trans d1)
    have q2 : w3.cell? ⟨p, 2, none⟩ = some (.int .i64 gap) := (ho3.cell (by rw [hw]; omega) (by omega) 2).trans ((World.cell?_alloc_past _ p 2 plt).trans d2)
    have qz : ∀ i, w3.frozen? ⟨p, i, none⟩ = false := fun i => (ho3.frozen (by rw [hw]; omega) (by omega) i).trans ((World.frozen?_alloc_past _ p i plt).trans (dz i))
    have hp3 : w3.rowIs p 39 3 (bufCells A m at_ gap) := ho3.row (HBG.out.hp.alloc _) (by omega)
    have e3 : w2.heap.size ≤ w3.heap.size := by have := ho3.size; rw [hw] at this; omega
    have hb3 : Only2 w w3 p w2.heap.size := by
      have x1 : Only2 w (w2.alloc (.cells (madeCells #[.int .i64 0] (n + G)) 3)).drew p w2.heap.size := ((Only2.of_drawn hd).alloc _).drew
      exact x1.trans (Only2.of_only ho3 (.inr rfl)) (.inl rfl)
    -- the second copy: from at_ + G on
    have fin : ∀ X : Option Addr, (at_ < n → X = some ⟨g, at_ + gap, none⟩) → ∃ w4, (∀ ty, (Builtin.copy_ #[22, 22] ty #[.slice (some ⟨w2.heap.size, at_ + G, none⟩) (n + G - (at_ + G)) (n + G - (at_ + G)), .slice X (m - (at_ + gap)) (m - (at_ + gap))]).run Try.prog w3.drew = .ok (goInt (n - at_ : Nat)) w4) ∧
        w4.rowIs w2.heap.size 3 (n + G) (spliced (spliced (fun _ => .int .i64 0) 0 at_ F) (at_ + G) (n - at_) fun j => F (at_ + gap + j)) ∧ Only w3.drew w4 w2.heap.size := by
      intro X hX
      refine copy_row (P := Try.prog) w3.drew (dT := 22) (sT := 22) Try.underlying22 infoSize (show w3.drew.rowIs w2.heap.size 3 (n + G) _ from hrow3) (at_ + G) (n + G - (at_ + G)) (n + G - (at_ + G))
        (B := w2.heap.size) (A := X) (sLen := m - (at_ + gap)) (sCap := m - (at_ + gap)) (cs := fun j => F (at_ + gap + j)) ?_ (fun j => HBG.out.one _) (n - at_) (by rw [k2, show n + G - (at_ + G) = n - at_ from by omega]; simp only [Nat.min_def]; rw [if_pos (Nat.le_refl _)]) (by omega)
      intro hp
      have hlt : at_ < n := by omega
      obtain ⟨_, _, hrow⟩ := HBG.out.hA (by omega)
      have hrg : w3.rowIs g 3 m F := ho3.row (hrow.alloc _) (by have := hrow.lt; omega)
      exact ⟨g, at_ + gap, hX hlt, hrow.lt, fun j hj => hrg.cell (by omega)⟩
    have done : ∀ w4, w4.rowIs w2.heap.size 3 (n + G) (spliced (spliced (fun _ => .int .i64 0) 0 at_ F) (at_ + G) (n - at_) fun j => F (at_ + gap + j)) → Only w3.drew w4 w2.heap.size →
        WidenPost w p g n at_ k l (.returned (.tuple #[])) ((w4.setCell ⟨p, 0, none⟩ (.slice (some ⟨w2.heap.size, 0, none⟩) (n + G) (n + G))).setCell ⟨p, 2, none⟩ (.int .i64 G)) := by
      intro w4 hrow4 ho4
      have hp4 : w4.rowIs p 39 3 (bufCells A m at_ gap) := ho4.row (show w3.drew.rowIs p _ 3 _ from hp3) (by omega)
      refine ⟨rfl, ⟨w2.heap.size, n + G, G, some ⟨w2.heap.size, 0, none⟩, _, ⟨?_, fun _ => ⟨rfl, by omega, (hrow4.setOther (by show w2.heap.size ≠ p; omega) _).setOther (by show w2.heap.size ≠ p; omega) _⟩, rfl, hat, fun j hj => ?_, fun j h1 h2 => ?_, hn, by omega, ?_⟩, g2, .inr (by rw [hd.size]; exact Nat.le_refl _)⟩, ?_⟩
      · refine ((hp4.set 0 (.slice (some ⟨w2.heap.size, 0, none⟩) (n + G) (n + G))).set 2 (.int .i64 (G : Int))).congr (fun j hj => ?_)
        match j, hj with
        | 0, _ => rfl
        | 1, _ => rfl
        | 2, _ => rfl
      · unfold spliced
        rw [if_neg (by omega), if_pos (by omega)]
        exact HBG.out.lo j hj
      · unfold spliced
        rw [if_pos (by omega)]
        show F (at_ + gap + (j + G - (at_ + G))) = _
        rw [show at_ + gap + (j + G - (at_ + G)) = j + gap from by omega]
        exact HBG.out.hi j h1 h2
      · exact spliced_one (spliced_one (fun _ => rfl) HBG.out.one) fun j => HBG.out.one _
      · have x := hb3.trans (Only2.of_only ho4 (.inr rfl)).drewL (.inr (.inr (by rw [hd.size]; exact Nat.le_refl _)))
        have y := (x.setCell p 0 (.inl rfl) (.slice (some ⟨w2.heap.size, 0, none⟩) (n + G) (n + G))).setCell p 2 (.inl rfl) (.int .i64 (G : Int))
        exact ⟨y.os, y.tape, y.output, y.size, fun b hb h1 _ => y.block b hb h1 (by rw [hd.size]; omega)⟩
    have done0 : n = at_ → WidenPost w p g n at_ k l (.returned (.tuple #[])) ((w3.drew.setCell ⟨p, 0, none⟩ (.slice (some ⟨w2.heap.size, 0, none⟩) (n + G) (n + G))).setCell ⟨p, 2, none⟩ (.int .i64 G)) := by
      intro e
      refine done w3.drew (World.rowIs.drew (hrow3.congr fun j hj => ?_)) (Only.refl _ _)
      unfold spliced
      rw [if_neg (show ¬ (at_ + G ≤ j ∧ j < at_ + G + (n - at_)) by omega)]
    have HDONE := Lib.hid done
    have HDONE0 := Lib.hid done0
    have HO3 := Lib.hid ho3
    clear done done0 hrow3 hp3 hb3 hw k1 sees1 ho3
    by_cases e1 : n = at_
    · subst e1
      -- nothing stands behind the gap
      have HD := Lib.hid (HDONE0.out rfl)
      obtain rfl : m = n + gap := HM.out
      have hcn : ∀ (W : World) (dp sp : Option Addr) (dLen dCap sCap : Nat) ty, (Builtin.copy_ #[22, 22] ty #[.slice dp dLen dCap, .slice sp 0 sCap]).run Try.prog W = .ok (goInt 0) W :=
        fun W dp sp dLen dCap sCap => copy_nothing W Try.underlying22 infoSize dp sp dLen dCap 0 sCap (.inl rfl)
      clear fin HDONE HDONE0 k2
      go_wp2_with fail
      clear hmk
      go_region
      go_wp2_with fail
      clear hcp
      go_region
      go_wp2_with fail
      go_end0
      exact HD.out
    · have hA := HBG.out.hA (by omega)
      obtain ⟨rfl, hgp, _⟩ := hA
      obtain ⟨w4, hcp2, hr4, ho4⟩ := fin (some ⟨g, at_ + gap, none⟩) (fun _ => rfl)
      have HD := Lib.hid (HDONE.out w4 hr4 ho4)
      have hw3 : w3.drew.heap.size = w3.heap.size := rfl
      have r0 : w4.cell? ⟨p, 0, none⟩ = some (.slice (some ⟨g, 0, none⟩) m m) := (ho4.cell (by rw [hw3]; omega) (by omega) 0).trans q0
      have r2 : w4.cell? ⟨p, 2, none⟩ = some (.int .i64 gap) := (ho4.cell (by rw [hw3]; omega) (by omega) 2).trans q2
      have rz : ∀ i, w4.frozen? ⟨p, i, none⟩ = false := fun i => (ho4.frozen (by rw [hw3]; omega) (by omega) i).trans (qz i)
      have ne1 : ¬ n + G = at_ + G := by omega
      have ne2 : ¬ m = at_ + gap := by have := HM.out; omega
      clear hr4 ho4 fin HDONE HDONE0 hw3 k2
      go_wp2_with fail
      clear hmk
      go_region
      go_wp2_with fail
      clear hcp
      go_region
      go_wp2_with fail
      go_end0
      exact HD.out
end GapI
end Go.Proofs.Ytiipogenknnilaa

/-
  The law package of layer 1, first: pairs, of, same; the reference's Check, Has, Spans.
-/
import Derived.Test.YteodkmndghaidaaDoorSpaF
import Derived.Test.YteodkmndghaidaaDoorHeld
import Derived.Deep.QuietTactic
namespace Go.Proofs.YteodkmndghaidaaDoor
open Go.RowKit
set_option linter.unusedVariables false
set_option linter.unusedSimpArgs false

theorem infoAr : (Tryd.prog.info? 64).map (fun i => (i.zero, i.size, i.bytes)) = some (some (.agg #[.int .i64 0, .int .i64 0]), 2, 16) := by kernel_rfl
/-- append(own, a pair). -/
theorem push2 {t e : TypeId} (ht : Tryd.prog.underlying t = some (.slice e)) (hi : (Tryd.prog.info? e).map (fun i => (i.zero, i.size, i.bytes)) = some (some (.agg #[.int .i64 0, .int .i64 0]), 2, 16)) (w : World) (B : Nat) {n c : Nat} {A : Option Addr} {F : Nat → Value} (h : Own w B e 2 n c A F) (hB : B ≤ w.heap.size) (x y : Int) (hm : n ≤ 900000000) :
    ∃ A' c' w', (∀ ty, (Builtin.append_ #[t, t] ty #[.slice A n c, .slice (some ⟨w.heap.size, 0, none⟩) 1 1]).run Tryd.prog (w.alloc (.cells #[.int .i64 x, .int .i64 y] e)) = .ok (.slice A' (n + 1) c') w') ∧ Own w' B e 2 (n + 1) c' A' (fun j => if j < n * 2 then F j else if j = n * 2 then .int .i64 x else .int .i64 y) ∧ Below B w w' ∧ (c ≤ maxLen → c' ≤ maxLen) := by
  have L0 : Below w.heap.size w (w.alloc (.cells #[.int .i64 x, .int .i64 y] e)) := (Below.refl _ w).alloc (Nat.le_refl _) _
  have hs : Sees (w.alloc (.cells #[.int .i64 x, .int .i64 y] e)) (w.heap.size + 1) (some ⟨w.heap.size, 0, none⟩) (1 * 2) (fun j => if j = 0 then .int .i64 x else .int .i64 y) := by
    have := Sees.lit w #[.int .i64 x, .int .i64 y] e (fun j => if j = 0 then .int .i64 x else .int .i64 y) 2 rfl (fun j hj => by
      have : j = 0 ∨ j = 1 := by omega
      rcases this with rfl | rfl <;> rfl)
    simpa using this
  obtain ⟨A', c', w', run, O, fr, a, m⟩ := own_append2' (P := Tryd.prog) (w.alloc (.cells #[.int .i64 x, .int .i64 y] e)) B ht hi rfl (by omega) ht (h.below L0) (by rw [World.size_alloc]; omega) (c2 := 1) hs (fun j => by split <;> rfl) (by omega) (by omega)
  refine ⟨A', c', w', run, O.congr fun j hj => ?_, (L0.mono hB).trans (fr.below (by rw [World.size_alloc]; omega) fun b hb => (h.blk b hb).1), m⟩
  by_cases d : j < n * 2
  · rw [if_pos d, if_pos d]
  · rw [if_neg d, if_neg d]
    by_cases d2 : j = n * 2
    · rw [if_pos (by omega), if_pos d2]
    · rw [if_neg (by omega), if_neg d2]
theorem spf_push {L : Sp} {k : Nat} : ∀ j, j < (k + 1) * 2 → (if j < k * 2 then spf L j else if j = k * 2 then Value.int .i64 (sg L k).1 else .int .i64 (sg L k).2) = spf L j := fun j hj => by
  by_cases d : j < k * 2
  · rw [if_pos d]
  · rw [if_neg d]
    by_cases d2 : j = k * 2
    · rw [if_pos d2, d2, spf_0]
    · rw [if_neg d2, show j = k * 2 + 1 from by omega, spf_1]

end Go.Proofs.YteodkmndghaidaaDoor

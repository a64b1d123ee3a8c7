/-
  Layer 1: the three growing slices of SpansKnown.
-/
import Derived.Test.YtglgkbocmnkokaaSpaKn
namespace Go.Proofs.Ytglgkbocmnkokaa
open Go.RowKit
set_option linter.unusedVariables false
set_option linter.unusedSimpArgs false

/-- append(own, Span), with where the new one lies. -/
theorem push_P2 (w : World) (B : Nat) {c : Nat} {A : Option Addr} {L : Sp} (h : OwnP w B A c L) (hB : B ≤ w.heap.size) (f t : Int) (hm : L.length ≤ 900000000) :
    ∃ A' c' w', (∀ ty, (Builtin.append_ #[22, 22] ty #[.slice A L.length c, .slice (some ⟨w.heap.size, 0, none⟩) 1 1]).run Try.prog (w.alloc (.cells #[.int .i64 f, .int .i64 t] 28)) = .ok (.slice A' (L.length + 1) c') w') ∧ OwnP w' B A' c' (L ++ [(f, t)]) ∧
      Fr (fun b => A.map (·.block) = some b) w w' ∧ (A' = A ∨ ∃ g, A' = some ⟨g, 0, none⟩ ∧ w.heap.size ≤ g) ∧ (c ≤ maxLen → c' ≤ maxLen) := by
  have L0 : Below w.heap.size w (w.alloc (.cells #[.int .i64 f, .int .i64 t] 28)) := (Below.refl _ w).alloc (Nat.le_refl _) _
  have hs : Sees (w.alloc (.cells #[.int .i64 f, .int .i64 t] 28)) (w.heap.size + 1) (some ⟨w.heap.size, 0, none⟩) (1 * 2) (spf [(f, t)]) := by
    have := Sees.lit w #[.int .i64 f, .int .i64 t] 28 (spf [(f, t)]) 2 rfl (fun j hj => by
      have : j = 0 ∨ j = 1 := by omega
      rcases this with rfl | rfl <;> rfl)
    simpa using this
  obtain ⟨A', c', w', run, O, fr, a, m⟩ := own_append2' (P := Try.prog) (w.alloc (.cells #[.int .i64 f, .int .i64 t] 28)) B Try.underlying22 infoSp rfl (by omega) Try.underlying22 (h.below L0) (by rw [World.size_alloc]; omega) (c2 := 1) hs (fun _ => rfl) (by omega) (by omega)
  refine ⟨A', c', w', run, ?_, (Fr.of_below L0).trans fr, ?_, m⟩
  · unfold OwnP
    rw [List.length_append, List.length_singleton]
    refine O.congr fun j hj => ?_
    unfold spf
    rw [sg_app]
    by_cases d : j < L.length * 2
    · rw [if_pos d, if_pos (show j / 2 < L.length by omega)]
    · rw [if_neg d, if_neg (show ¬ j / 2 < L.length by omega), show (j - L.length * 2) % 2 = j % 2 from by omega, show (j - L.length * 2) / 2 = j / 2 - L.length from by omega]
  · rcases a with a | ⟨g, a1, a2⟩
    · exact .inl a
    · exact .inr ⟨g, a1, by rw [World.size_alloc] at a2; omega⟩
def pl4 : Nat → Value := fun j => .int .i64 (4 * (j : Int))
/-- The three slices of the loop: the spans at 4 i, those at 4 i + 2, the places 4 i. -/
structure Own4 (w : World) (B k : Nat) (A1 : Option Addr) (c1 : Nat) (A2 : Option Addr) (c2 : Nat) (A3 : Option Addr) (c3 : Nat) : Prop where
  o1 : OwnP w B A1 c1 (fr4 0 k)
  o2 : OwnP w B A2 c2 (fr4 2 k)
  o3 : Own w B 3 1 k c3 A3 pl4
  d12 : Dis A1 A2
  d13 : Dis A1 A3
  d23 : Dis A2 A3
theorem Own4.start (w : World) (B : Nat) : Own4 w B 0 none 0 none 0 none 0 :=
  ⟨Own.nil _ _ _ _ _, Own.nil _ _ _ _ _, Own.nil _ _ _ _ _, (fun _ h => by cases h), (fun _ h => by cases h), (fun _ h => by cases h)⟩
theorem Own4.push {w : World} {B k : Nat} {A1 : Option Addr} {c1 : Nat} {A2 : Option Addr} {c2 : Nat} {A3 : Option Addr} {c3 : Nat}
    (h : Own4 w B k A1 c1 A2 c2 A3 c3) (hB : B ≤ w.heap.size) (hk : k ≤ 900000000) :
    ∃ A1' c1' A2' c2' A3' c3' w1 w2 w3,
      (∀ ty, (Builtin.append_ #[22, 22] ty #[.slice A1 k c1, .slice (some ⟨w.heap.size, 0, none⟩) 1 1]).run Try.prog (w.alloc (.cells #[.int .i64 (4 * (k : Int)), .int .i64 (4 * (k : Int) + 1)] 28)) = .ok (.slice A1' (k + 1) c1') w1) ∧
      (∀ ty, (Builtin.append_ #[22, 22] ty #[.slice A2 k c2, .slice (some ⟨w1.heap.size, 0, none⟩) 1 1]).run Try.prog (w1.alloc (.cells #[.int .i64 (4 * (k : Int) + 2), .int .i64 (4 * (k : Int) + 3)] 28)) = .ok (.slice A2' (k + 1) c2') w2) ∧
      (∀ ty, (Builtin.append_ #[34, 34] ty #[.slice A3 k c3, .slice (some ⟨w2.heap.size, 0, none⟩) 1 1]).run Try.prog (w2.alloc (.cells #[.int .i64 (4 * (k : Int))] 3)) = .ok (.slice A3' (k + 1) c3') w3) ∧
      Own4 w3 B (k + 1) A1' c1' A2' c2' A3' c3' ∧ Below B w w3 := by
  obtain ⟨A1', c1', w1, r1, p1, f1, a1, -⟩ := push_P2 w B h.o1 hB (4 * (k : Int)) (4 * (k : Int) + 1) (by rw [fr4_len]; omega)
  rw [fr4_len] at r1
  have p1 : OwnP w1 B A1' c1' (fr4 0 (k + 1)) := by rw [fr4_succ, show (4 * (k : Int) + 0) = 4 * (k : Int) from by omega]; exact p1
  have D1 : Below B w w1 := f1.below hB fun b hb => (h.o1.blk b hb).1
  have q2 : OwnP w1 B A2 c2 (fr4 2 k) := h.o2.fr f1 fun b hb e => h.d12 b e hb
  have q3 : Own w1 B 3 1 k c3 A3 pl4 := h.o3.fr f1 fun b hb e => h.d13 b e hb
  have d12 : Dis A1' A2 := h.d12.push a1 fun b hb => (h.o2.blk b hb).2
  have d13 : Dis A1' A3 := h.d13.push a1 fun b hb => (h.o3.blk b hb).2
  obtain ⟨A2', c2', w2, r2, p2, f2, a2, -⟩ := push_P2 w1 B q2 (Nat.le_trans hB f1.size) (4 * (k : Int) + 2) (4 * (k : Int) + 3) (by rw [fr4_len]; omega)
  rw [fr4_len] at r2
  have p2 : OwnP w2 B A2' c2' (fr4 2 (k + 1)) := by rw [fr4_succ, show (4 * (k : Int) + 2 + 1) = 4 * (k : Int) + 3 from by omega]; exact p2
  have D2 : Below B w1 w2 := f2.below (Nat.le_trans hB f1.size) fun b hb => (q2.blk b hb).1
  have s1 : OwnP w2 B A1' c1' (fr4 0 (k + 1)) := p1.fr f2 fun b hb e => d12 b hb e
  have s3 : Own w2 B 3 1 k c3 A3 pl4 := q3.fr f2 fun b hb e => h.d23 b e hb
  have e12 : Dis A2' A1' := d12.symm.push a2 fun b hb => (p1.blk b hb).2
  have e23 : Dis A2' A3 := h.d23.push a2 fun b hb => (q3.blk b hb).2
  obtain ⟨A3', c3', w3, r3, p3, f3, a3, -⟩ := own_push (P := Try.prog) w2 B Try.underlying34 infoInt rfl s3 (Nat.le_trans (Nat.le_trans hB f1.size) f2.size) (.int .i64 (4 * (k : Int))) rfl (by omega) (by omega)
  have p3 : Own w3 B 3 1 (k + 1) c3' A3' pl4 := p3.congr fun j hj => by
    by_cases d : j < k
    · rw [if_pos d]
    · rw [if_neg d, show j = k from by omega]; rfl
  have D3 : Below B w2 w3 := f3.below (Nat.le_trans (Nat.le_trans hB f1.size) f2.size) fun b hb => (s3.blk b hb).1
  have t1 : OwnP w3 B A1' c1' (fr4 0 (k + 1)) := s1.fr f3 fun b hb e => d13 b hb e
  have t2 : OwnP w3 B A2' c2' (fr4 2 (k + 1)) := p2.fr f3 fun b hb e => e23 b hb e
  have g13 : Dis A3' A1' := d13.symm.push a3 fun b hb => (s1.blk b hb).2
  have g23 : Dis A3' A2' := e23.symm.push a3 fun b hb => (p2.blk b hb).2
  exact ⟨A1', c1', A2', c2', A3', c3', w1, w2, w3, r1, r2, r3, ⟨t1, t2, p3, e12.symm, g13.symm, g23.symm⟩, (D1.trans D2).trans D3⟩
end Go.Proofs.Ytglgkbocmnkokaa

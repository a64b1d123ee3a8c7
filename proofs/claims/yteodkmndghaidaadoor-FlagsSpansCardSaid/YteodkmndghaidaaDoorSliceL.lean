/-
  Slice expressions as equations, laid ahead of a walk: no parting into ways. Over any program.
-/
import Derived.Test.YteodkmndghaidaaDoorMem
import Derived.Laws.Slices
namespace Go.Proofs.YteodkmndghaidaaDoor
open Go.RowKit
set_option linter.unusedVariables false
set_option linter.unusedSimpArgs false

/-- The address of a part of a slice. -/
def subA (A : Option Addr) (c lo sz : Nat) : Option Addr := if c = lo then A else A.map (·.add (lo * sz))
theorem sees_sub {w : World} {B n c lo hi sz : Nat} {A : Option Addr} {F : Nat → Value} (h : Sees w B A (n * sz) F) (hnc : n ≤ c) (h1 : lo ≤ hi) (h2 : hi ≤ n) : Sees w B (subA A c lo sz) ((hi - lo) * sz) (fun j => F (lo * sz + j)) := by
  intro hp
  have h0 : 0 < hi - lo := Nat.pos_of_ne_zero (fun e => by rw [e, Nat.zero_mul] at hp; omega)
  have hz : 0 < sz := Nat.pos_of_ne_zero (fun e => by rw [e, Nat.mul_zero] at hp; omega)
  have hle : hi * sz ≤ n * sz := Nat.mul_le_mul_right _ h2
  have e2 : (hi - lo) * sz = hi * sz - lo * sz := Nat.sub_mul _ _ _
  have h3 : lo * sz ≤ hi * sz := Nat.mul_le_mul_right _ h1
  obtain ⟨b, o, rfl, hb, hc⟩ := h (by omega)
  refine ⟨b, o + lo * sz, ?_, hb, fun j hj => ?_⟩
  · unfold subA
    rw [if_neg (by omega)]
    show some (Addr.add _ _) = _
    unfold Addr.add
    by_cases h : lo * sz = 0
    · rw [if_pos h, h]; rfl
    · rw [if_neg h]
  · rw [Nat.add_assoc]; exact hc _ (by omega)

section
variable {P : Program} {t e : TypeId} {sz : Nat}
theorem subA_zero (A : Option Addr) (c sz : Nat) : subA A c 0 sz = A := by
  unfold subA
  split
  · rfl
  · rw [Nat.zero_mul]
    cases A with
    | none => rfl
    | some a => rfl
theorem slice_bounds_lh (lo hi c n : Nat) (h1 : lo ≤ hi) (h2 : hi ≤ c) (wx : World) :
    (Instr.sliceBounds true n c (some (.int .i64 lo)) (some (.int .i64 hi)) none).run P wx = .ok (lo, hi, c) wx := by
  simp [Instr.sliceBounds, run_sliceBound, h2, h1]
theorem slice_bounds_h (hi c n : Nat) (h2 : hi ≤ c) (wx : World) :
    (Instr.sliceBounds true n c none (some (.int .i64 hi)) none).run P wx = .ok (0, hi, c) wx := by
  simp [Instr.sliceBounds, run_sliceBound, h2]
theorem slice_bounds_l (lo c n : Nat) (h2 : lo ≤ n) (wx : World) :
    (Instr.sliceBounds true n c (some (.int .i64 lo)) none none).run P wx = .ok (lo, n, c) wx := by
  simp [Instr.sliceBounds, run_sliceBound, h2]
theorem sizeOf_eq (hi : (P.info? e).map (·.size) = some sz) (wx : World) : (sizeOf e).run P wx = .ok sz wx := by
  obtain ⟨i, h1, h2⟩ := Option.map_eq_some_iff.1 hi
  simp [sizeOf, typeInfo, h1, h2]
theorem slice_of_bounds (ht : P.underlying t = some (.slice e)) (hi : (P.info? e).map (·.size) = some sz) (A : Option Addr) (n c : Nat) (lo hi' mx : Option Value) {l h m : Nat} (hb : ∀ wx, (Instr.sliceBounds true n c lo hi' mx).run P wx = .ok (l, h, m) wx) (wx : World) :
    (Instr.sliceAt t (.slice A n c) lo hi' mx).run P wx = .ok (.slice (subA A m l sz) (h - l) (m - l)) wx := by
  have he : P.elem t = e := by simp [Program.elem, ht]
  rw [run_sliceAt_slice (P := P) wx t _ lo hi' mx (by rw [he]; exact ht), run_slice_any (P := P) wx t A n c (by rw [he]; exact ht) lo hi' mx, hb wx, he]
  simp only [Result.andThen, sizeOf_eq hi]
  rfl
theorem slice_lh (ht : P.underlying t = some (.slice e)) (hi : (P.info? e).map (·.size) = some sz) (A : Option Addr) (n c lo hi' : Nat) (h1 : lo ≤ hi') (h2 : hi' ≤ c) (wx : World) :
    (Instr.sliceAt t (.slice A n c) (some (.int .i64 lo)) (some (.int .i64 hi')) none).run P wx = .ok (.slice (subA A c lo sz) (hi' - lo) (c - lo)) wx :=
  slice_of_bounds ht hi A n c _ _ _ (slice_bounds_lh lo hi' c n h1 h2) wx
theorem slice_h (ht : P.underlying t = some (.slice e)) (hi : (P.info? e).map (·.size) = some sz) (A : Option Addr) (n c hi' : Nat) (h2 : hi' ≤ c) (wx : World) :
    (Instr.sliceAt t (.slice A n c) none (some (.int .i64 hi')) none).run P wx = .ok (.slice A hi' c) wx := by
  have := slice_of_bounds ht hi A n c _ _ _ (slice_bounds_h hi' c n h2) wx
  rwa [subA_zero] at this
theorem slice_l (ht : P.underlying t = some (.slice e)) (hi : (P.info? e).map (·.size) = some sz) (A : Option Addr) (n c lo : Nat) (h2 : lo ≤ n) (wx : World) :
    (Instr.sliceAt t (.slice A n c) (some (.int .i64 lo)) none none).run P wx = .ok (.slice (subA A c lo sz) (n - lo) (c - lo)) wx :=
  slice_of_bounds ht hi A n c _ _ _ (slice_bounds_l lo c n h2) wx
end
end Go.Proofs.YteodkmndghaidaaDoor

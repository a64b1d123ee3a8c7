/-
  Layer 1, plain: the sets of SpansKnown.
-/
import Derived.Test.YtglgkbocmnkokaaSpaR
namespace Go.Proofs.Ytglgkbocmnkokaa
open Go.RowKit
set_option linter.unusedVariables false
set_option linter.unusedSimpArgs false

/-- A set without neighbours has as many spans as places. -/
theorem iso_len {lo : Int} {R : Sp} (h : NFfrom lo R) (hi : ∀ i, memS R i → ¬ memS R (i + 1)) : (R.length : Int) = cntS R := by
  induction R generalizing lo with
  | nil => rfl
  | cons s r ih =>
    obtain ⟨h1, h2, h3, h4⟩ := h
    have e : s.2 = s.1 + 1 := by
      by_cases c : s.1 + 1 < s.2
      · exact absurd ((memS_cons _ _ _).2 (.inl ⟨by omega, c⟩)) (hi s.1 ((memS_cons _ _ _).2 (.inl ⟨Int.le_refl _, h2⟩)))
      · omega
    have := ih h4 fun i q q2 => hi i ((memS_cons _ _ _).2 (.inr q)) ((memS_cons _ _ _).2 (.inr q2))
    show ((r.length + 1 : Nat) : Int) = s.2 - s.1 + cntS r
    push_cast
    omega
/-- Every fourth place, from o on. -/
def fr4 (o : Int) (k : Nat) : Sp := (List.range k).map fun (i : Nat) => (4 * (i : Int) + o, 4 * (i : Int) + o + 1)
theorem fr4_len (o : Int) (k : Nat) : (fr4 o k).length = k := by simp [fr4]
theorem fr4_succ (o : Int) (k : Nat) : fr4 o (k + 1) = fr4 o k ++ [(4 * (k : Int) + o, 4 * (k : Int) + o + 1)] := by
  unfold fr4
  rw [List.range_succ, List.map_append]; rfl
theorem fr4_take (o : Int) {k n : Nat} (h : k ≤ n) : (fr4 o n).take k = fr4 o k := by
  unfold fr4
  rw [← List.map_take, List.take_range, Nat.min_eq_left h]
theorem fr4_mem (o : Int) (k : Nat) (i : Int) : memS (fr4 o k) i ↔ ∃ j : Nat, j < k ∧ i = 4 * (j : Int) + o := by
  constructor
  · rintro ⟨s, hs, h1, h2⟩
    obtain ⟨j, hj, rfl⟩ := List.mem_map.1 hs
    exact ⟨j, List.mem_range.1 hj, by have : 4 * (j : Int) + o ≤ i := h1; have : i < 4 * (j : Int) + o + 1 := h2; omega⟩
  · rintro ⟨j, hj, rfl⟩
    exact ⟨_, List.mem_map.2 ⟨j, List.mem_range.2 hj, rfl⟩, Int.le_refl _, by show 4 * (j : Int) + o < 4 * (j : Int) + o + 1; omega⟩
theorem fr4_nf (o : Int) (ho : 0 ≤ o) (k : Nat) (hk : 4 * (k : Int) + o ≤ 1073741824) : NF (fr4 o k) ∧ endS (-1) (fr4 o k) ≤ 4 * (k : Int) + o - 3 + 4 * (if k = 0 then 1 else 0) := by
  induction k with
  | zero => exact ⟨trivial, by show (-1 : Int) ≤ _; simp; omega⟩
  | succ k ih =>
    push_cast at hk
    obtain ⟨h1, h2⟩ := ih (by omega)
    rw [fr4_succ, endS_append]
    refine ⟨NFfrom.append.2 ⟨h1, ?_, ?_, ?_, trivial⟩, ?_⟩
    · show endS (-1) (fr4 o k) < 4 * (k : Int) + o
      by_cases c : k = 0
      · subst c; show (-1 : Int) < _; omega
      · rw [if_neg c] at h2; omega
    · show 4 * (k : Int) + o < 4 * (k : Int) + o + 1; omega
    · show 4 * (k : Int) + o + 1 ≤ 1073741824; omega
    · show 4 * (k : Int) + o + 1 ≤ _
      rw [if_neg (by omega)]; push_cast; omega
theorem fr4_cnt (o : Int) (k : Nat) : cntS (fr4 o k) = k := by
  induction k with
  | zero => rfl
  | succ k ih =>
    have app : ∀ (A : Sp) (s : Int × Int), cntS (A ++ [s]) = cntS A + (s.2 - s.1) := fun A s => by
      induction A with
      | nil => show s.2 - s.1 + 0 = 0 + (s.2 - s.1); omega
      | cons x r ih => show x.2 - x.1 + cntS (r ++ [s]) = x.2 - x.1 + cntS r + (s.2 - s.1); rw [ih]; omega
    rw [fr4_succ, app, ih]
    show (k : Int) + (4 * (k : Int) + o + 1 - (4 * (k : Int) + o)) = ((k + 1 : Nat) : Int)
    push_cast; omega
/-- The union of two such sets. -/
theorem fr4_union {U : Sp} {o p : Int} {k n : Nat} (ho : 0 ≤ o) (hp : p = o + 2) (hk : 4 * (k : Int) + o ≤ 1073741824) (hn : 4 * (n : Int) + p ≤ 1073741824) (h : Merged (fun x y => x || y) (fr4 o k) (fr4 p n) U) : U.length = k + n := by
  have iso := iso_len h.nf fun i q q2 => by
    rw [h.me] at q q2
    have q' : anyS (fr4 o k) i = true ∨ anyS (fr4 p n) i = true := by simpa using q
    have q2' : anyS (fr4 o k) (i + 1) = true ∨ anyS (fr4 p n) (i + 1) = true := by simpa using q2
    rw [anyS_iff, anyS_iff, fr4_mem, fr4_mem] at q' q2'
    rcases q' with ⟨a, _, _⟩ | ⟨a, _, _⟩ <;> rcases q2' with ⟨b, _, _⟩ | ⟨b, _, _⟩ <;> omega
  have h1 := fr4_nf o ho k hk
  have h2 := fr4_nf p (by omega) n hn
  have z : cI (fun i => anyS (fr4 o k) i && anyS (fr4 p n) i) 0 1073741824 = 0 := cI_zero fun i _ _ => by
    rw [← Bool.not_eq_true, Bool.and_eq_true, anyS_iff, anyS_iff, fr4_mem, fr4_mem]
    rintro ⟨⟨a, _, _⟩, ⟨b, _, _⟩⟩
    omega
  have e := cI_or (anyS (fr4 o k)) (anyS (fr4 p n)) 0 1073741824
  rw [z, ← NF.cnt h1.1 (by omega), ← NF.cnt h2.1 (by omega), fr4_cnt, fr4_cnt, ← cI_congr (f := anyS U) (g := fun i => anyS (fr4 o k) i || anyS (fr4 p n) i) (fun i _ _ => merged_any h i), ← NF.cnt h.nf (by omega), ← iso] at e
  omega
end Go.Proofs.Ytglgkbocmnkokaa

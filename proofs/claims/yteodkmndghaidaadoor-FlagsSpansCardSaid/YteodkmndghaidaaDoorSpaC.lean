/-
  Contracts of package spans, third: both, edge, the three questions, merged.
-/
import Derived.Test.YteodkmndghaidaaDoorSpaB
import Derived.WalkMore
import Derived.Scope
namespace Go.Proofs.YteodkmndghaidaaDoor
open Go.RowKit
set_option linter.unusedVariables false
set_option linter.unusedSimpArgs false

/-- The next edge of a span. -/
def edgeS (x y at_ : Int) : Int := if at_ < x then x else y

/-! ### Plain -/
theorem anyS_append (A B : Sp) (i : Int) : anyS (A ++ B) i = (anyS A i || anyS B i) := by unfold anyS; exact List.any_append
theorem anyS_past {L : Sp} {a j : Int} (h : ∀ s ∈ L, s.2 ≤ a) (hj : a ≤ j) : anyS L j = false := by
  cases e : anyS L j with
  | false => rfl
  | true =>
    obtain ⟨s, hs, h1, h2⟩ := (anyS_iff L j).1 e
    have := h s hs; omega
/-- What lies ahead: a set whose first k spans are past, at a place a that the next one is not past. -/
theorem anyS_next {L : Sp} (hN : NF L) {k : Nat} (hk : k < L.length) {a j : Int} (hp : ∀ s ∈ L.take k, s.2 ≤ a) (hx : a < (sg L k).2) (h1 : a ≤ j) (h2 : j < edgeS (sg L k).1 (sg L k).2 a) : anyS L j = decide ((sg L k).1 ≤ a) := by
  have e : L = L.take k ++ (sg L k :: L.drop (k + 1)) := by rw [sg_get L hk, ← List.drop_eq_getElem_cons hk, List.take_append_drop]
  have hN' := hN
  unfold NF at hN'
  rw [e] at hN'
  have q := (NFfrom.append.1 hN').2
  obtain ⟨q1, q2, q3, q4⟩ := q
  rw [e, anyS_append, anyS_past hp h1, anyS_cons, Bool.false_or]
  have ht : anyS (L.drop (k + 1)) j = false := by
    cases e : anyS (L.drop (k + 1)) j with
    | false => rfl
    | true =>
      have := (q4.mem_gt ((anyS_iff _ _).1 e)).1
      unfold edgeS at h2
      split at h2 <;> omega
  rw [ht, Bool.or_false]
  rw [← e]
  unfold edgeS at h2
  by_cases c : a < (sg L k).1
  · rw [if_pos c] at h2
    rw [decide_eq_false (show ¬ (sg L k).1 ≤ j by omega), decide_eq_false (show ¬ (sg L k).1 ≤ a by omega)]; rfl
  · rw [if_neg c] at h2
    rw [decide_eq_true (show (sg L k).1 ≤ j by omega), decide_eq_true (show (sg L k).1 ≤ a by omega), decide_eq_true (show j < (sg L k).2 by omega)]; rfl
theorem edgeS_gt {x y a : Int} (h : a < y) : a < edgeS x y a := by unfold edgeS; split <;> omega
theorem edgeS_le {x y a : Int} (h : x < y) (hy : y ≤ 1073741824) : edgeS x y a ≤ 1073741824 := by unfold edgeS; split <;> omega
theorem take_past {L : Sp} {k : Nat} (hk : k < L.length) {a : Int} (hp : ∀ s ∈ L.take k, s.2 ≤ a) (h : (sg L k).2 ≤ a) : ∀ s ∈ L.take (k + 1), s.2 ≤ a := by
  intro s hs
  rw [List.take_succ_eq_append_getElem hk] at hs
  rcases List.mem_append.1 hs with h1 | h1
  · exact hp s h1
  · rw [← sg_get L hk] at h1
    rcases List.mem_cons.1 h1 with rfl | h1
    · exact h
    · cases h1
/-- What has been merged up to a place. -/
structure Mg (kp : Bool → Bool → Bool) (L M : Sp) (O : Sp) (a : Int) : Prop where
  nf : NF O
  en : endS (-1) O ≤ a
  a0 : 0 ≤ a
  a1 : a ≤ 1073741824
  me : ∀ i, memS O i ↔ i < a ∧ kp (anyS L i) (anyS M i) = true
theorem Mg.skip {kp : Bool → Bool → Bool} {L M O : Sp} {a b : Int} (h : Mg kp L M O a) (hab : a ≤ b) (hb : b ≤ 1073741824) (hk : ∀ j, a ≤ j → j < b → kp (anyS L j) (anyS M j) = false) : Mg kp L M O b :=
  ⟨h.nf, by have := h.en; omega, by have := h.a0; omega, hb, fun i => by
    rw [h.me]
    constructor
    · rintro ⟨h1, h2⟩; exact ⟨by omega, h2⟩
    · rintro ⟨h1, h2⟩
      refine ⟨?_, h2⟩
      rcases (show i < a ∨ a ≤ i by omega) with c | c
      · exact c
      · rw [hk i c h1] at h2; cases h2⟩
theorem Mg.take {kp : Bool → Bool → Bool} {L M O : Sp} {a b : Int} (h : Mg kp L M O a) (hab : a < b) (hb : b ≤ 1073741824) (hk : ∀ j, a ≤ j → j < b → kp (anyS L j) (anyS M j) = true) : Mg kp L M (addS O a b) b := by
  obtain ⟨h1, h2, h3⟩ := addS_spec h.nf h.en h.a0 hab hb
  refine ⟨h1, by rw [h2]; exact Int.le_refl _, by have := h.a0; omega, hb, fun i => ?_⟩
  rw [h3, h.me]
  constructor
  · rintro (⟨q1, q2⟩ | ⟨q1, q2⟩)
    · exact ⟨by omega, q2⟩
    · exact ⟨q2, hk i q1 q2⟩
  · rintro ⟨q1, q2⟩
    rcases (show i < a ∨ a ≤ i by omega) with c | c
    · exact .inl ⟨c, q2⟩
    · exact .inr ⟨c, q1⟩
theorem Mg.len {kp : Bool → Bool → Bool} {L M O : Sp} {a : Int} (h : Mg kp L M O a) : O.length ≤ 536870912 := NF.len h.nf
theorem anyS_neg {L : Sp} (h : NF L) {i : Int} (hi : i < 0) : anyS L i = false := by
  cases e : anyS L i with
  | false => rfl
  | true => have := (NFfrom.mem_gt h ((anyS_iff _ _).1 e)).1; omega
theorem Mg.start {kp : Bool → Bool → Bool} {L M : Sp} (hL : NF L) (hM : NF M) (h0 : kp false false = false) : Mg kp L M [] 0 :=
  ⟨trivial, by decide, Int.le_refl _, by decide, fun i => by
    constructor
    · intro h; exact absurd h (memS_nil i)
    · rintro ⟨h1, h2⟩
      rw [anyS_neg hL h1, anyS_neg hM h1, h0] at h2; cases h2⟩
/-- The set that is merged. -/
structure Merged (kp : Bool → Bool → Bool) (L M : Sp) (R : Sp) : Prop where
  nf : NF R
  me : ∀ i, memS R i ↔ kp (anyS L i) (anyS M i) = true
theorem Mg.stop {kp : Bool → Bool → Bool} {L M O : Sp} {a : Int} (h : Mg kp L M O a) (hL : ∀ s ∈ L, s.2 ≤ a) (hM : ∀ s ∈ M, s.2 ≤ a) (h0 : kp false false = false) : Merged kp L M O :=
  ⟨h.nf, fun i => by
    rw [h.me]
    constructor
    · exact fun h => h.2
    · intro h2
      refine ⟨?_, h2⟩
      rcases (show i < a ∨ a ≤ i by omega) with c | c
      · exact c
      · rw [anyS_past hL c, anyS_past hM c, h0] at h2; cases h2⟩
end Go.Proofs.YteodkmndghaidaaDoor

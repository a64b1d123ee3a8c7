/-
  Spans, plain: lists of pairs in their normal form; the places in them; two of them with the same places are equal. No Go text.
-/
import Derived.Test.YteodkmndghaidaaDoorMem
namespace Go.Proofs.YteodkmndghaidaaDoor
set_option linter.unusedVariables false

abbrev Sp := List (Int × Int)
/-- The normal form, behind a number. -/
def NFfrom : Int → Sp → Prop
  | _, [] => True
  | lo, s :: r => lo < s.1 ∧ s.1 < s.2 ∧ s.2 ≤ 1073741824 ∧ NFfrom s.2 r
def NF (L : Sp) : Prop := NFfrom (-1) L
/-- The end of the last span. -/
def endS : Int → Sp → Int
  | lo, [] => lo
  | _, s :: r => endS s.2 r
/-- A place is in one of the spans. -/
def memS (L : Sp) (i : Int) : Prop := ∃ s ∈ L, s.1 ≤ i ∧ i < s.2
theorem memS_nil (i : Int) : ¬ memS [] i := fun ⟨s, h, _⟩ => nomatch h
theorem memS_cons (s : Int × Int) (r : Sp) (i : Int) : memS (s :: r) i ↔ (s.1 ≤ i ∧ i < s.2) ∨ memS r i := by
  constructor
  · rintro ⟨x, hx, h⟩
    rcases List.mem_cons.1 hx with rfl | hx
    · exact .inl h
    · exact .inr ⟨x, hx, h⟩
  · rintro (h | ⟨x, hx, h⟩)
    · exact ⟨s, List.mem_cons_self, h⟩
    · exact ⟨x, List.mem_cons_of_mem _ hx, h⟩
theorem memS_append (A B : Sp) (i : Int) : memS (A ++ B) i ↔ memS A i ∨ memS B i := by
  induction A with
  | nil => simp [memS_nil]
  | cons s r ih => rw [List.cons_append, memS_cons, memS_cons, ih, or_assoc]
theorem NFfrom.append {lo : Int} {A B : Sp} : NFfrom lo (A ++ B) ↔ NFfrom lo A ∧ NFfrom (endS lo A) B := by
  induction A generalizing lo with
  | nil => simp [NFfrom, endS]
  | cons s r ih =>
    show (_ ∧ _ ∧ _ ∧ NFfrom s.2 (r ++ B)) ↔ (_ ∧ _ ∧ _ ∧ NFfrom s.2 r) ∧ NFfrom (endS s.2 r) B
    rw [ih]
    constructor
    · rintro ⟨h1, h2, h3, h4, h5⟩; exact ⟨⟨h1, h2, h3, h4⟩, h5⟩
    · rintro ⟨⟨h1, h2, h3, h4⟩, h5⟩; exact ⟨h1, h2, h3, h4, h5⟩
theorem endS_append (lo : Int) (A B : Sp) : endS lo (A ++ B) = endS (endS lo A) B := by
  induction A generalizing lo with
  | nil => rfl
  | cons s r ih => exact ih s.2
theorem NFfrom.mono {lo lo' : Int} {L : Sp} (h : NFfrom lo L) (hl : lo' ≤ lo) : NFfrom lo' L := by
  cases L with
  | nil => trivial
  | cons s r => obtain ⟨h1, h2, h3, h4⟩ := h; exact ⟨by omega, h2, h3, h4⟩
theorem NFfrom.le_end {lo : Int} {L : Sp} (h : NFfrom lo L) : lo + 2 * L.length ≤ endS lo L := by
  induction L generalizing lo with
  | nil => show lo + 2 * ((0 : Nat) : Int) ≤ lo; omega
  | cons s r ih =>
    obtain ⟨h1, h2, h3, h4⟩ := h
    have := ih h4
    show _ ≤ endS s.2 r
    rw [List.length_cons]
    omega
theorem NFfrom.end_le {lo : Int} {L : Sp} (h : NFfrom lo L) (hl : lo ≤ 1073741824) : endS lo L ≤ 1073741824 := by
  induction L generalizing lo with
  | nil => exact hl
  | cons s r ih => obtain ⟨h1, h2, h3, h4⟩ := h; exact ih h4 h3
theorem NF.len {L : Sp} (h : NF L) : L.length ≤ 536870912 := by
  have h1 := NFfrom.le_end h
  have h2 := NFfrom.end_le h (by omega)
  omega
theorem NFfrom.mem {lo : Int} {L : Sp} (h : NFfrom lo L) : ∀ s ∈ L, lo < s.1 ∧ s.1 < s.2 ∧ s.2 ≤ endS lo L ∧ s.2 ≤ 1073741824 := by
  induction L generalizing lo with
  | nil => intro s hs; cases hs
  | cons x r ih =>
    obtain ⟨h1, h2, h3, h4⟩ := h
    intro s hs
    have he := h4.le_end
    rcases List.mem_cons.1 hs with rfl | hs
    · exact ⟨h1, h2, by show s.2 ≤ endS s.2 r; omega, h3⟩
    · obtain ⟨q1, q2, q3, q4⟩ := ih h4 s hs
      exact ⟨by omega, q2, q3, q4⟩
theorem NFfrom.mem_gt {lo : Int} {L : Sp} (h : NFfrom lo L) {i : Int} (hi : memS L i) : lo < i ∧ i < endS lo L := by
  obtain ⟨s, hs, h1, h2⟩ := hi
  obtain ⟨q1, q2, q3, q4⟩ := h.mem s hs
  omega
/-- Two normal forms with the same places are equal. -/
theorem NFfrom.unique : ∀ {L M : Sp} {lo lo' : Int}, NFfrom lo L → NFfrom lo' M → (∀ i, memS L i ↔ memS M i) → L = M
  | [], [], _, _, _, _, _ => rfl
  | [], m :: M, _, _, _, hM, h => absurd ((h m.1).2 ((memS_cons m M m.1).2 (.inl ⟨Int.le_refl _, hM.2.1⟩))) (memS_nil _)
  | s :: L, [], _, _, hL, _, h => absurd ((h s.1).1 ((memS_cons s L s.1).2 (.inl ⟨Int.le_refl _, hL.2.1⟩))) (memS_nil _)
  | s :: L, m :: M, lo, lo', hL, hM, h => by
    obtain ⟨a1, a2, a3, a4⟩ := hL
    obtain ⟨b1, b2, b3, b4⟩ := hM
    have gl : ∀ i, memS L i → s.2 < i := fun i hi => (a4.mem_gt hi).1
    have gm : ∀ i, memS M i → m.2 < i := fun i hi => (b4.mem_gt hi).1
    have e1 : s.1 = m.1 := by
      have h1 := (h s.1).1 ((memS_cons _ _ _).2 (.inl ⟨Int.le_refl _, a2⟩))
      have h2 := (h m.1).2 ((memS_cons _ _ _).2 (.inl ⟨Int.le_refl _, b2⟩))
      have k1 : m.1 ≤ s.1 := by
        rcases (memS_cons _ _ _).1 h1 with q | q
        · exact q.1
        · have := gm _ q; omega
      have k2 : s.1 ≤ m.1 := by
        rcases (memS_cons _ _ _).1 h2 with q | q
        · exact q.1
        · have := gl _ q; omega
      omega
    have e2 : s.2 = m.2 := by
      rcases Int.lt_trichotomy s.2 m.2 with c | c | c
      · have := (h s.2).2 ((memS_cons _ _ _).2 (.inl ⟨by omega, c⟩))
        rcases (memS_cons _ _ _).1 this with q | q
        · omega
        · have := gl _ q; omega
      · exact c
      · have := (h m.2).1 ((memS_cons _ _ _).2 (.inl ⟨by omega, c⟩))
        rcases (memS_cons _ _ _).1 this with q | q
        · omega
        · have := gm _ q; omega
    have e : s = m := Prod.ext e1 e2
    subst e
    have : L = M := a4.unique b4 fun i => by
      constructor
      · intro hi
        rcases (memS_cons _ _ _).1 ((h i).1 ((memS_cons _ _ _).2 (.inr hi))) with q | q
        · have := gl _ hi; omega
        · exact q
      · intro hi
        rcases (memS_cons _ _ _).1 ((h i).2 ((memS_cons _ _ _).2 (.inr hi))) with q | q
        · have := gm _ hi; omega
        · exact q
    rw [this]

/-- The error of a set. -/
def ckFrom : Int → Sp → Int
  | _, [] => 0
  | lo, s :: r => if s.1 < 0 ∨ s.2 ≤ s.1 ∨ 1073741824 < s.2 then 1 else if s.1 ≤ lo then 16 else ckFrom s.2 r
def chkS (L : Sp) : Int := if 4096 < L.length then 3 else ckFrom (-1) L
theorem ckFrom_zero {lo : Int} {L : Sp} (hl : -1 ≤ lo) : ckFrom lo L = 0 ↔ NFfrom lo L := by
  induction L generalizing lo with
  | nil => simp [ckFrom, NFfrom]
  | cons s r ih =>
    show (if s.1 < 0 ∨ s.2 ≤ s.1 ∨ 1073741824 < s.2 then (1 : Int) else if s.1 ≤ lo then 16 else ckFrom s.2 r) = 0 ↔ (lo < s.1 ∧ s.1 < s.2 ∧ s.2 ≤ 1073741824 ∧ NFfrom s.2 r)
    by_cases c1 : s.1 < 0 ∨ s.2 ≤ s.1 ∨ 1073741824 < s.2
    · rw [if_pos c1]
      constructor
      · intro h; exact absurd h (by decide)
      · rintro ⟨h1, h2, h3, _⟩; omega
    · rw [if_neg c1]
      by_cases c2 : s.1 ≤ lo
      · rw [if_pos c2]
        constructor
        · intro h; exact absurd h (by decide)
        · rintro ⟨h1, _⟩; omega
      · rw [if_neg c2, ih (by omega)]
        constructor
        · intro h; exact ⟨by omega, by omega, by omega, h⟩
        · rintro ⟨_, _, _, h⟩; exact h
theorem chkS_zero {L : Sp} : chkS L = 0 ↔ NF L ∧ L.length ≤ 4096 := by
  unfold chkS
  by_cases c : 4096 < L.length
  · rw [if_pos c]
    constructor
    · intro h; exact absurd h (by decide)
    · rintro ⟨_, h⟩; omega
  · rw [if_neg c, ckFrom_zero (by omega)]
    exact ⟨fun h => ⟨h, by omega⟩, fun h => h.1⟩

/-- Places added behind others. -/
def addS (L : Sp) (f t : Int) : Sp :=
  if t ≤ f then L else match L.getLast? with
    | some s => if f ≤ s.2 then L.dropLast ++ [(s.1, max s.2 t)] else L ++ [(f, t)]
    | none => [(f, t)]
theorem addS_none {L : Sp} {f t : Int} (h : t ≤ f) : addS L f t = L := if_pos h
theorem addS_nil {f t : Int} (h : f < t) : addS [] f t = [(f, t)] := by unfold addS; rw [if_neg (by omega)]; rfl
theorem addS_snoc {P : Sp} {s : Int × Int} {f t : Int} (h : f < t) : addS (P ++ [s]) f t = if f ≤ s.2 then P ++ [(s.1, max s.2 t)] else P ++ [s] ++ [(f, t)] := by
  unfold addS
  rw [if_neg (by omega), List.getLast?_concat, List.dropLast_concat]
/-- What it gives behind a set whose spans end at f or ahead of it. -/
theorem addS_spec {L : Sp} {f t : Int} (hL : NF L) (he : endS (-1) L ≤ f) (h0 : 0 ≤ f) (hft : f < t) (ht : t ≤ 1073741824) :
    NF (addS L f t) ∧ endS (-1) (addS L f t) = t ∧ ∀ i, memS (addS L f t) i ↔ memS L i ∨ (f ≤ i ∧ i < t) := by
  rcases List.eq_nil_or_concat L with rfl | ⟨P, s, rfl⟩
  · rw [addS_nil hft]
    refine ⟨⟨by show -1 < f; omega, hft, ht, trivial⟩, rfl, fun i => ?_⟩
    rw [memS_cons]
    simp [memS_nil]
  · rw [List.concat_eq_append] at *
    rw [addS_snoc hft]
    have hN := NFfrom.append.1 hL
    obtain ⟨h1, h2, h3, _⟩ := hN.2
    rw [endS_append] at he
    have he : s.2 ≤ f := he
    by_cases c : f ≤ s.2
    · have e : s.2 = f := by omega
      rw [if_pos c, Int.max_eq_right (by omega)]
      refine ⟨NFfrom.append.2 ⟨hN.1, h1, by show s.1 < t; omega, ht, trivial⟩, by rw [endS_append]; rfl, fun i => ?_⟩
      rw [memS_append, memS_append, memS_cons, memS_cons]
      constructor
      · rintro (h | ⟨q1, q2⟩ | h)
        · exact .inl (.inl h)
        · by_cases d : i < s.2
          · exact .inl (.inr (.inl ⟨q1, d⟩))
          · exact .inr ⟨by omega, q2⟩
        · exact absurd h (memS_nil _)
      · rintro ((h | ⟨q1, q2⟩ | h) | ⟨q1, q2⟩)
        · exact .inl h
        · exact .inr (.inl ⟨q1, by show i < t; omega⟩)
        · exact absurd h (memS_nil _)
        · exact .inr (.inl ⟨by show s.1 ≤ i; omega, q2⟩)
    · rw [if_neg c]
      refine ⟨NFfrom.append.2 ⟨hL, by rw [endS_append]; show s.2 < f; omega, hft, ht, trivial⟩, by rw [endS_append]; rfl, fun i => ?_⟩
      rw [memS_append, memS_cons]
      simp [memS_nil]
theorem addS_len (L : Sp) (f t : Int) : (addS L f t).length ≤ L.length + 1 := by
  rcases List.eq_nil_or_concat L with rfl | ⟨P, s, rfl⟩
  · unfold addS; split <;> simp
  · rw [List.concat_eq_append]
    by_cases h : t ≤ f
    · rw [addS_none h]; omega
    · rw [addS_snoc (by omega)]
      split <;> simp
end Go.Proofs.YteodkmndghaidaaDoor

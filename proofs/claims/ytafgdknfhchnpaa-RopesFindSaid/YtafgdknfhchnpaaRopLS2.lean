/-
  Ropes in variables: a store into one of them; results that are valid lists; a box of five cells.
-/
import Derived.Test.YtafgdknfhchnpaaRopRef4
namespace Go.Proofs.Ytafgdknfhchnpaa
open Go.RowKit
set_option linter.unusedVariables false
set_option linter.unusedSimpArgs false

theorem SeesL.set_ptr {w : World} {B q : Nat} {A r : Option Addr} {L : List Int} (h : SeesL w B A L) (hq : w.cell? ⟨q, 0, none⟩ = some (.pointer r)) (v : Value) : SeesL (w.setCell ⟨q, 0, none⟩ v) B A L := by
  intro hn
  obtain ⟨b, o, h1, h2, h3⟩ := h hn
  refine ⟨b, o, h1, h2, fun j hj => ?_⟩
  rw [World.cell?_setCell_other _ _ _ _ (fun e => ?_)]
  · exact h3 j hj
  · have := h3 j hj
    rw [← e, hq] at this
    cases this
theorem LS.put {w0 w : World} {ps : List (Nat × Option Addr × List Int)} {qs : List (Option Addr × List Int)} (h : LS w0 w ps qs) {p : Nat} {r : Option Addr} {L : List Int} (hx : (p, r, L) ∈ ps) {r' : Option Addr} {L' : List Int} (hr : Rp w r' L')
    (ps' : List (Nat × Option Addr × List Int)) (hq : ∀ x ∈ ps', x ∈ ps ∧ x.1 ≠ p) : LS w0 (w.setCell ⟨p, 0, none⟩ (.pointer r')) ((p, r', L') :: ps') qs :=
  ⟨h.v.put hx hr ps' hq, fun q hq => ((h.s q hq).set_ptr (h.get hx).c _).more (by simp [World.setCell])⟩

theorem joinTo_ok' {L M : List Int} (hL : LOk L) (hM : LOk M) : LOk (if joinErr L M = 0 then L ++ M else []) := by
  by_cases c : joinErr L M = 0
  · rw [if_pos c]
    unfold joinErr at c
    by_cases q1 : 4096 < L.length + M.length
    · rw [if_pos q1] at c; exact absurd c (by decide)
    by_cases q2 : 4611686018427387904 - M.sum < L.sum
    · rw [if_neg q1, if_pos q2] at c; exact absurd c (by decide)
    refine ⟨fun x hx => ?_, by rw [List.length_append]; omega, by rw [List.sum_append]; omega⟩
    rcases List.mem_append.1 hx with h | h
    · exact hL.nn x h
    · exact hM.nn x h
  · rw [if_neg c]; exact LOk.nil
theorem insTo_ok {L S : List Int} (h : LOk L) (i : Int) : LOk (insTo L i S) := by
  unfold insTo
  by_cases c : insErr L i S = 0
  · rw [if_pos c]
    unfold insErr at c
    by_cases q1 : i < 0 ∨ (L.length : Int) < i
    · rw [if_pos q1] at c; exact absurd c (by decide)
    by_cases q2 : chkL S ≠ 0
    · rw [if_neg q1, if_pos q2] at c; exact absurd c q2
    rw [if_neg q1, if_neg q2] at c
    have hS := LOk.of_chk (Decidable.not_not.1 q2)
    have hJ := joinTo_ok' h hS
    rw [if_pos c] at hJ
    exact insL_ok hJ _
  · rw [if_neg c]; exact LOk.nil
theorem remTo_ok {L : List Int} (h : LOk L) (i n : Int) : LOk (remTo L i n) := by
  unfold remTo
  split
  · exact remL_ok h _ _
  · exact LOk.nil
theorem movTo_ok {L : List Int} (h : LOk L) (i n t : Int) : LOk (movTo L i n t) := by
  unfold movTo
  split
  · exact movL_ok h _ _ _
  · exact LOk.nil
theorem rsetTo_ok {L : List Int} (h : LOk L) (i v : Int) : LOk (rsetTo L i v) := by
  unfold rsetTo
  by_cases c : rsetErr L i v = 0
  · rw [if_pos c]
    unfold rsetErr at c
    by_cases q1 : i < 0 ∨ (L.length : Int) ≤ i
    · rw [if_pos q1] at c; exact absurd c (by decide)
    by_cases q2 : v < 0 ∨ 2305843009213693952 < v
    · rw [if_neg q1, if_pos q2] at c; exact absurd c (by decide)
    by_cases q3 : 4611686018427387904 - (L.sum - lf L i.toNat) < v
    · rw [if_neg q1, if_neg q2, if_pos q3] at c; exact absurd c (by decide)
    exact rset_ok h (by omega) (by omega) (by omega)
  · rw [if_neg c]; exact LOk.nil
/-- A box of five cells. -/
def box5 (a b c d e : Value) : Nat → Value := fun j => if j = 0 then a else if j = 1 then b else if j = 2 then c else if j = 3 then d else e
theorem box5_row (w : World) (a b c d e : Value) (t : TypeId) : (w.alloc (.cells #[a, b, c, d, e] t)).rowIs w.heap.size t 5 (box5 a b c d e) := World.rowIs_alloc w #[a, b, c, d, e] t _ (fun j hj => by
  match j, hj with
  | 0, _ => rfl
  | 1, _ => rfl
  | 2, _ => rfl
  | 3, _ => rfl
  | 4, _ => rfl)
structure B5 (w : World) (p : Nat) (a b c d e : Value) : Prop where
  c0 : w.cell? ⟨p, 0, none⟩ = some a
  c1 : w.cell? ⟨p, 1, none⟩ = some b
  c2 : w.cell? ⟨p, 2, none⟩ = some c
  c3 : w.cell? ⟨p, 3, none⟩ = some d
  c4 : w.cell? ⟨p, 4, none⟩ = some e
theorem b5_of {w : World} {p : Nat} {t : TypeId} {a b c d e : Value} (h : w.rowIs p t 5 (box5 a b c d e)) : B5 w p a b c d e :=
  ⟨h.cell (i := 0) (by omega), h.cell (i := 1) (by omega), h.cell (i := 2) (by omega), h.cell (i := 3) (by omega), h.cell (i := 4) (by omega)⟩

end Go.Proofs.Ytafgdknfhchnpaa

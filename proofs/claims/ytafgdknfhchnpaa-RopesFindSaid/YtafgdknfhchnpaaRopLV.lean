/-
  Ropes in variables: what a function of the law package holds.
-/
import Derived.Test.YtafgdknfhchnpaaRopLaw2
namespace Go.Proofs.Ytafgdknfhchnpaa
open Go.RowKit
set_option linter.unusedVariables false
set_option linter.unusedSimpArgs false

/-- The variables of type Rope that a function holds, with their ropes; the world since it was called. -/
structure LV (w0 w : World) (ps : List (Nat × Option Addr × List Int)) : Prop where
  vs : ∀ x ∈ ps, w0.heap.size ≤ x.1 ∧ Var w x.1 27 (.pointer x.2.1) ∧ Rp w x.2.1 x.2.2
  bl : Below w0.heap.size w0 w
theorem LV.start (w : World) : LV w w [] := ⟨fun x hx => (by cases hx), Below.refl _ _⟩
theorem LV.below {w0 w w' : World} {ps : List (Nat × Option Addr × List Int)} (h : LV w0 w ps) (hb : Below w.heap.size w w') : LV w0 w' ps :=
  ⟨fun x hx => ⟨(h.vs x hx).1, (h.vs x hx).2.1.below hb, (h.vs x hx).2.2.below hb⟩, h.bl.trans (hb.mono h.bl.size)⟩
theorem LV.alloc {w0 w : World} {ps : List (Nat × Option Addr × List Int)} (h : LV w0 w ps) (o : Obj) : LV w0 (w.alloc o) ps := h.below ((Below.refl _ w).alloc (Nat.le_refl _) o)
theorem LV.drawn {w0 w w' : World} {ps : List (Nat × Option Addr × List Int)} (h : LV w0 w ps) (hd : Drawn w w') : LV w0 w' ps := h.below (below_drawn (Below.refl _ w) hd)
theorem LV.cons {w0 w : World} {ps : List (Nat × Option Addr × List Int)} (h : LV w0 w ps) {r : Option Addr} {L : List Int} (hr : Rp w r L) : LV w0 (w.alloc (.cells #[.pointer r] 27)) ((w.heap.size, r, L) :: ps) := by
  have h' := h.alloc (.cells #[.pointer r] 27)
  refine ⟨fun x hx => ?_, h'.bl⟩
  rcases List.mem_cons.1 hx with rfl | hx
  · exact ⟨h.bl.size, Var.mk _ _ _, hr.below ((Below.refl _ w).alloc (Nat.le_refl _) _)⟩
  · exact h'.vs x hx
theorem LV.cons_bad {w0 w : World} {ps : List (Nat × Option Addr × List Int)} (h : LV w0 w ps) {r : Option Addr} : LV w0 (w.alloc (.cells #[.pointer r] 27)) ps := h.alloc _
theorem LV.cons2 {w0 w : World} {ps : List (Nat × Option Addr × List Int)} (h : LV w0 w ps) {r r2 : Option Addr} {L L2 : List Int} (hr : Rp w r L) (hr2 : Rp w r2 L2) :
    LV w0 ((w.alloc (.cells #[.pointer r] 27)).alloc (.cells #[.pointer r2] 27)) ((w.heap.size + 1, r2, L2) :: (w.heap.size, r, L) :: ps) := by
  have := (h.cons hr).cons (hr2.below ((Below.refl _ w).alloc (Nat.le_refl _) (.cells #[.pointer r] 27)))
  rwa [World.size_alloc] at this
/-- One of them. -/
structure LV1 (w : World) (p : Nat) (r : Option Addr) (L : List Int) : Prop where
  c : w.cell? ⟨p, 0, none⟩ = some (.pointer r)
  f : w.frozen? ⟨p, 0, none⟩ = false
  r : Rp w r L
  lt : p < w.heap.size
theorem LV.get {w0 w : World} {ps : List (Nat × Option Addr × List Int)} (h : LV w0 w ps) {p : Nat} {r : Option Addr} {L : List Int} (hx : (p, r, L) ∈ ps) : LV1 w p r L :=
  ⟨(h.vs _ hx).2.1.c, (h.vs _ hx).2.1.f, (h.vs _ hx).2.2, World.rowIs.lt (h.vs _ hx).2.1⟩
/-- A store into one of them. -/
theorem LV.set {w0 w : World} {ps : List (Nat × Option Addr × List Int)} (h : LV w0 w ps) {p : Nat} {r : Option Addr} {L : List Int} (hx : (p, r, L) ∈ ps) {r' : Option Addr} {L' : List Int} (hr : Rp w r' L') :
    LV w0 (w.setCell ⟨p, 0, none⟩ (.pointer r')) (ps.map fun x => if x.1 = p then (p, r', L') else x) := by
  have hv := (h.vs _ hx).2.1
  have hp := (h.vs _ hx).1
  refine ⟨fun y hy => ?_, below_set h.bl hp _⟩
  obtain ⟨x, hx', rfl⟩ := List.mem_map.1 hy
  by_cases c : x.1 = p
  · show _ ≤ (if x.1 = p then (p, r', L') else x).1 ∧ _
    rw [if_pos c]
    exact ⟨hp, Var.set hv _, hr.set hv (by decide) rfl _⟩
  · show _ ≤ (if x.1 = p then (p, r', L') else x).1 ∧ _
    rw [if_neg c]
    exact ⟨(h.vs x hx').1, World.rowIs.setOther (h.vs x hx').2.1 c _, (h.vs x hx').2.2.set hv (by decide) rfl _⟩
/-- .. the others named. -/
theorem LV.put {w0 w : World} {ps : List (Nat × Option Addr × List Int)} (h : LV w0 w ps) {p : Nat} {r : Option Addr} {L : List Int} (hx : (p, r, L) ∈ ps) {r' : Option Addr} {L' : List Int} (hr : Rp w r' L')
    (qs : List (Nat × Option Addr × List Int)) (hq : ∀ x ∈ qs, x ∈ ps ∧ x.1 ≠ p) : LV w0 (w.setCell ⟨p, 0, none⟩ (.pointer r')) ((p, r', L') :: qs) := by
  have hs := h.set hx hr
  refine ⟨fun x hx' => ?_, hs.bl⟩
  rcases List.mem_cons.1 hx' with rfl | hx'
  · exact hs.vs _ (List.mem_map.2 ⟨_, hx, if_pos rfl⟩)
  · exact hs.vs _ (List.mem_map.2 ⟨x, (hq x hx').1, if_neg (hq x hx').2⟩)
/-- The literal of a list. -/
theorem litL (w : World) (L : List Int) : SeesL (w.alloc (.cells ((L.map (fun x => Value.int .i64 x)).toArray) 2)) (w.heap.size + 1) (some ⟨w.heap.size, 0, none⟩) L := by
  have := Sees.lit w ((L.map (fun x => Value.int .i64 x)).toArray) 2 (i64s (lf L)) L.length (by simp) (fun j hj => by
    rw [List.getElem?_toArray, List.getElem?_map, List.getElem?_eq_getElem hj]
    show some (Value.int .i64 L[j]) = some (Value.int .i64 (lf L j))
    rw [lf_get L hj])
  rw [World.size_alloc] at this
  exact this
end Go.Proofs.Ytafgdknfhchnpaa

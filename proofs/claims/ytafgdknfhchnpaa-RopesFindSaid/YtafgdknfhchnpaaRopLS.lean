/-
  Ropes in variables and slices of sizes: what a function of the law package holds.
-/
import Derived.Test.YtafgdknfhchnpaaRopRef
import Derived.Test.YtafgdknfhchnpaaRopRef3
namespace Go.Proofs.Ytafgdknfhchnpaa
open Go.RowKit
set_option linter.unusedVariables false
set_option linter.unusedSimpArgs false

/-- The variables of type Rope, and the slices, that a function holds. -/
structure LS (w0 w : World) (ps : List (Nat × Option Addr × List Int)) (qs : List (Option Addr × List Int)) : Prop where
  v : LV w0 w ps
  s : ∀ q ∈ qs, SeesL w w.heap.size q.1 q.2
theorem LS.start {w0 w : World} (hb : Below w0.heap.size w0 w) : LS w0 w [] [] := ⟨(LV.start w0).below hb, fun q hq => (by cases hq)⟩
theorem LS.below {w0 w w' : World} {ps : List (Nat × Option Addr × List Int)} {qs : List (Option Addr × List Int)} (h : LS w0 w ps qs) (hb : Below w.heap.size w w') : LS w0 w' ps qs :=
  ⟨h.v.below hb, fun q hq => ((h.s q hq).below hb).more hb.size⟩
theorem LS.alloc {w0 w : World} {ps : List (Nat × Option Addr × List Int)} {qs : List (Option Addr × List Int)} (h : LS w0 w ps qs) (o : Obj) : LS w0 (w.alloc o) ps qs := h.below ((Below.refl _ w).alloc (Nat.le_refl _) o)
theorem LS.drawn {w0 w w' : World} {ps : List (Nat × Option Addr × List Int)} {qs : List (Option Addr × List Int)} (h : LS w0 w ps qs) (hd : Drawn w w') : LS w0 w' ps qs := h.below (below_drawn (Below.refl _ w) hd)
theorem LS.cons {w0 w : World} {ps : List (Nat × Option Addr × List Int)} {qs : List (Option Addr × List Int)} (h : LS w0 w ps qs) {r : Option Addr} {L : List Int} (hr : Rp w r L) : LS w0 (w.alloc (.cells #[.pointer r] 27)) ((w.heap.size, r, L) :: ps) qs :=
  ⟨h.v.cons hr, (h.alloc _).s⟩
theorem LS.cons2 {w0 w : World} {ps : List (Nat × Option Addr × List Int)} {qs : List (Option Addr × List Int)} (h : LS w0 w ps qs) {r r2 : Option Addr} {L L2 : List Int} (hr : Rp w r L) (hr2 : Rp w r2 L2) :
    LS w0 ((w.alloc (.cells #[.pointer r] 27)).alloc (.cells #[.pointer r2] 27)) ((w.heap.size + 1, r2, L2) :: (w.heap.size, r, L) :: ps) qs :=
  ⟨h.v.cons2 hr hr2, ((h.alloc _).alloc _).s⟩
theorem LS.get {w0 w : World} {ps : List (Nat × Option Addr × List Int)} {qs : List (Option Addr × List Int)} (h : LS w0 w ps qs) {p : Nat} {r : Option Addr} {L : List Int} (hx : (p, r, L) ∈ ps) : LV1 w p r L := h.v.get hx
theorem LS.see {w0 w : World} {ps : List (Nat × Option Addr × List Int)} {qs : List (Option Addr × List Int)} (h : LS w0 w ps qs) {A : Option Addr} {L : List Int} (hx : (A, L) ∈ qs) : SeesL w w.heap.size A L := h.s _ hx
theorem LS.add {w0 w : World} {ps : List (Nat × Option Addr × List Int)} {qs : List (Option Addr × List Int)} (h : LS w0 w ps qs) {A : Option Addr} {L : List Int} (hs : SeesL w w.heap.size A L) : LS w0 w ps ((A, L) :: qs) :=
  ⟨h.v, fun q hq => by
    rcases List.mem_cons.1 hq with rfl | hq
    · exact hs
    · exact h.s q hq⟩
theorem LS.sub {w0 w : World} {ps ps' : List (Nat × Option Addr × List Int)} {qs qs' : List (Option Addr × List Int)} (h : LS w0 w ps qs) (hp : ∀ x ∈ ps', x ∈ ps) (hq : ∀ x ∈ qs', x ∈ qs) : LS w0 w ps' qs' :=
  ⟨⟨fun x hx => h.v.vs x (hp x hx), h.v.bl⟩, fun x hx => h.s x (hq x hx)⟩
/-- Two boxes of two cells. -/
theorem box2_cells (w : World) (a b c d : Value) (t t2 : TypeId) : ((w.alloc (.cells #[a, b] t)).alloc (.cells #[c, d] t2)).cell? ⟨w.heap.size, 0, none⟩ = some a ∧ ((w.alloc (.cells #[a, b] t)).alloc (.cells #[c, d] t2)).cell? ⟨w.heap.size, 1, none⟩ = some b ∧
    ((w.alloc (.cells #[a, b] t)).alloc (.cells #[c, d] t2)).cell? ⟨w.heap.size + 1, 0, none⟩ = some c ∧ ((w.alloc (.cells #[a, b] t)).alloc (.cells #[c, d] t2)).cell? ⟨w.heap.size + 1, 1, none⟩ = some d := by
  have h1 := World.rowIs_alloc w #[a, b] t (fun j => if j = 0 then a else b) (fun j hj => by
    have : j = 0 ∨ j = 1 := by simp at hj; omega
    rcases this with rfl | rfl <;> rfl)
  have h1' := World.rowIs.alloc h1 (.cells #[c, d] t2)
  have h2 := World.rowIs_alloc (w.alloc (.cells #[a, b] t)) #[c, d] t2 (fun j => if j = 0 then c else d) (fun j hj => by
    have : j = 0 ∨ j = 1 := by simp at hj; omega
    rcases this with rfl | rfl <;> rfl)
  rw [World.size_alloc] at h2
  exact ⟨h1'.cell (i := 0) (by simp), h1'.cell (i := 1) (by simp), h2.cell (i := 0) (by simp), h2.cell (i := 1) (by simp)⟩
/-- The sizes of an R are valid. -/
structure ROk (L : List Int) : Prop where
  ok : LOk L
  ck : chkL L = 0
  len : L.length ≤ 200
  fit : ∀ x ∈ L, Fits x
theorem ROk.mk' (f : Nat → Int) (m : Nat) (g : Bool) : ROk (rof f m g) := by
  have h1 := rof_ok f m g
  have h2 := rof_small f m g
  have h3 : (rof f m g).length ≤ 200 := by rw [rof_len]; omega
  refine ⟨h1, ?_, h3, fun x hx => ⟨by have := h1.nn x hx; omega, by have := h2 x hx; omega⟩⟩
  unfold chkL chk
  rw [if_neg (by omega)]
  exact chk_of_ok h1 h2 _ (Nat.le_refl _)
/-- Of, of the sizes of an R. -/
theorem of_R {w : World} {A : Option Addr} {c : Nat} {L : List Int} (h : SeesL w w.heap.size A L) (ok : ROk L) (hc : L.length ≤ c) (hm : c ≤ maxLen) :
    Calls Try.prog 11 #[.slice A L.length c] w (RPost w L 0) := by
  have := of_any w A c _ L h (Nat.le_refl _) hc hm (by have := ok.len; omega) ok.fit
  rwa [if_pos ok.ck, ok.ck] at this
end Go.Proofs.Ytafgdknfhchnpaa

/-
  append on slices of int64 that are the call's own.
-/
import Derived.Test.YtafgdknfhchnpaaRows
import Derived.Test.YtafgdknfhchnpaaApp
import Derived.Test.YtafgdknfhchnpaaFr
namespace Go.Proofs.Ytafgdknfhchnpaa
open Go.RowKit
set_option linter.unusedVariables false

theorem app_i64 (w : World) (B : Nat) {n c : Nat} {A : Option Addr} {F : Nat → Int} (h : Own w B 2 1 n c A (i64s F)) (hB : B ≤ w.heap.size)
    {A2 : Option Addr} {k c2 B2 : Nat} {f : Nat → Int} (hs : Sees w B2 A2 k (i64s f)) (hm : n + k ≤ 1000000000) :
    ∃ A' c' w', (∀ ty, (Builtin.append_ #[22, 22] ty #[.slice A n c, .slice A2 k c2]).run Try.prog w = .ok (.slice A' (n + k) c') w') ∧ Own w' B 2 1 (n + k) c' A' (i64s fun j => if j < n then F j else f (j - n)) ∧ Below B w w' ∧ (c ≤ maxLen → c' ≤ maxLen) := by
  obtain ⟨A', c', w', h1, h2, h3, h4⟩ := own_append' (P := Try.prog) w B (by_ := 8) (z := .int .i64 0) Try.underlying22 (by kernel_rfl : (Try.prog.info? 2).map (fun i => (i.zero, i.size, i.bytes)) = some (some (.int .i64 0), 1, 8)) rfl (by omega) Try.underlying22 h hB (c2 := c2) (f := i64s f) (by rw [Nat.mul_one]; exact hs) (fun _ => rfl) hm (by omega)
  refine ⟨A', c', w', h1, h2.congr fun j _ => ?_, h3, h4⟩
  rw [Nat.mul_one]
  show (if j < n then _ else _) = Value.int .i64 (if j < n then F j else f (j - n))
  split <;> rfl

/-- append([]int64{}, l...): the new list, and the world. -/
theorem clone_i64 (w : World) {A : Option Addr} {n c B : Nat} {l : Nat → Int} (hs : Sees w B A n (i64s l)) (hB : B ≤ w.heap.size) (hn : n ≤ 1000000000) :
    ∃ A' c' w', (∀ ty, (Builtin.append_ #[22, 22] ty #[.slice (some ⟨w.heap.size, 0, none⟩) 0 0, .slice A n c]).run Try.prog (w.alloc (.cells #[] 2)) = .ok (.slice A' n c') w') ∧ Own w' w.heap.size 2 1 n c' A' (i64s l) ∧ Below w.heap.size w w' ∧ c' ≤ maxLen := by
  have L0 : Below w.heap.size w (w.alloc (.cells #[] 2)) := (Below.refl _ w).alloc (Nat.le_refl _) _
  obtain ⟨A', c', w', run, O, b, m⟩ := app_i64 (w.alloc (.cells #[] 2)) w.heap.size (Own.lit0 w 2 1 (i64s l)) (by simp) (c2 := c) ((hs.more hB).below L0) (by omega)
  rw [Nat.zero_add] at run O
  exact ⟨A', c', w', run, O.congr fun j _ => by show Value.int .i64 (if j < 0 then _ else _) = _; rw [if_neg (by omega)]; rfl, L0.trans b, m (Nat.zero_le _)⟩
theorem own_blk' {w : World} {B n c : Nat} {e : TypeId} {sz : Nat} {A : Option Addr} {F : Nat → Value} (h : Own w B e sz n c A F) : ∀ k, A.map (·.block) = some k → B ≤ k ∧ k < w.heap.size := by
  intro k hk
  rcases h with ⟨rfl, _⟩ | ⟨h, g, F', rfl, hg, hr, hF⟩
  · cases hk
  · injection hk with hk
    have : g = k := hk
    subst this
    exact ⟨hg, hr.lt⟩
theorem Own.seesO {S : Nat → Prop} {w : World} {B n c : Nat} {e : TypeId} {A : Option Addr} {F : Nat → Value} (h : Own w B e 1 n c A F) (hS : ∀ b, S b → b < B) : SeesO S w A n F := by
  intro hn
  obtain ⟨g, h1, h2, h3, h4, _⟩ := h.at_ hn
  exact ⟨g, 0, h1, h3, fun s => by have := hS g s; omega, fun j hj => by rw [Nat.zero_add]; exact h4 j (by omega)⟩
end Go.Proofs.Ytafgdknfhchnpaa

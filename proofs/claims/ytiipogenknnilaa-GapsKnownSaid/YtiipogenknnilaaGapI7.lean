/-
  Contracts of package gaps at elements of type int, 7th: a literal that is put in; no buffer.
-/
import Derived.Test.YtiipogenknnilaaGapI6
namespace Go.Proofs.Ytiipogenknnilaa
namespace GapI
open Go.RowKit
set_option linter.unusedVariables false

theorem Buf.less {w : World} {B B' p n at_ : Nat} {l : Nat → Int} (h : Buf w B p n at_ l) (hB : B' ≤ B) : Buf w B' p n at_ l := by
  obtain ⟨g, m, gap, A, F, h1, h2, h3⟩ := h
  exact ⟨g, m, gap, A, F, h1, by omega, fun hm => by have := h3 hm; omega⟩
theorem Buf.alloc {w : World} {B p n at_ : Nat} {l : Nat → Int} (h : Buf w B p n at_ l) (o : Obj) : Buf (w.alloc o) B p n at_ l := h.below ((Below.refl _ w).alloc (Nat.le_refl _) o)
theorem Buf.lt {w : World} {B p n at_ : Nat} {l : Nat → Int} (h : Buf w B p n at_ l) : p < w.heap.size := by
  obtain ⟨g, m, gap, A, F, h1, h2, h3⟩ := h
  exact h1.hp.lt

/-- Insert, the source any row apart from the buffer's blocks. -/
theorem insert_row (w W : World) (B p n at_ : Nat) (l : Nat → Int) (h : Buf w B p n at_ l) (hW : Below w.heap.size w W) (i k : Nat) (x : Int) (hx : x = (i : Int)) (hi : i ≤ n) (hk : 0 < k) (hnk : n + k ≤ 4096) (b o c' : Nat) (f : Nat → Int)
    (hb : w.heap.size ≤ b) (hb' : b < W.heap.size) (hc : ∀ j, j < k → W.cell? ⟨b, o + j, none⟩ = some (.int .i64 (f j))) :
    Calls Try.prog 9 #[.pointer (some ⟨p, 0, none⟩), .int .i64 x, .slice (some ⟨b, o, none⟩) k c'] W (ChgPost W B p (n + k) (i + k) (ins l i k f)) := by
  obtain ⟨g, m, gap, A, F, h1, h2, h3, h4⟩ := h.open_
  have plt := h1.hp.lt
  refine (insert_raw W p g m n at_ gap A F l (h1.keep (hW.block p plt) (fun _ => hW.block g h4)) i k x hx hi hk hnk b o c' f hb' (by omega) (by omega) hc).mono ?_
  rintro e w' ⟨rfl, ⟨g', m', gap', A'', F', q1, q2⟩, q3⟩
  have hs := hW.size
  exact ⟨rfl, ⟨g', m', gap', A'', F', q1, h2, fun _ => by omega⟩, q3.below h2 h3 (by omega)⟩

/-- Insert of a literal. -/
theorem insert_lit (w : World) (B p n at_ : Nat) (l : Nat → Int) (h : Buf w B p n at_ l) (i k : Nat) (x : Int) (hx : x = (i : Int)) (hi : i ≤ n) (hk : 0 < k) (hnk : n + k ≤ 4096) (cs : Array Value) (t : TypeId) (c' : Nat) (f : Nat → Int)
    (hc : ∀ j, j < k → cs[j]? = some (.int .i64 (f j))) :
    Calls Try.prog 9 #[.pointer (some ⟨p, 0, none⟩), .int .i64 x, .slice (some ⟨w.heap.size, 0, none⟩) k c'] (w.alloc (.cells cs t)) (ChgPost (w.alloc (.cells cs t)) B p (n + k) (i + k) (ins l i k f)) := by
  refine insert_row w _ B p n at_ l h ((Below.refl _ w).alloc (Nat.le_refl _) _) i k x hx hi hk hnk w.heap.size 0 c' f (Nat.le_refl _) (by simp) fun j hj => ?_
  have hcs : k ≤ cs.size := by
    rcases Nat.lt_or_ge cs.size k with a | a
    · have := hc cs.size a; simp at this
    · exact a
  rw [Nat.zero_add]
  have hr := World.rowIs_alloc w cs t (fun j => if j < k then .int .i64 (f j) else (cs[j]?).getD (.bool false)) (fun j hj' => ?_)
  · have := hr.cell (i := j) (by omega)
    rwa [if_pos hj] at this
  · by_cases c : j < k
    · rw [if_pos c]; exact hc j c
    · rw [if_neg c]; simp [hj']

/-! ### No buffer -/
theorem nil_len (w : World) : Calls Try.prog 11 #[.pointer none] w fun e w' => e = .returned (.int .i64 0) ∧ w = w' := by
  go_enter Try.func11, Try.ntmps11
  go_wp2_with fail
  go_ret
  exact ⟨rfl, rfl⟩
theorem nil_gap (w : World) : Calls Try.prog 16 #[.pointer none] w fun e w' => e = .returned (.int .i64 0) ∧ w = w' := by
  go_enter Try.func16, Try.ntmps16
  go_wp2_with fail
  go_ret
  exact ⟨rfl, rfl⟩
theorem nil_list (w : World) : Calls Try.prog 13 #[.pointer none] w fun e w' => e = .returned (.slice none 0 0) ∧ w = w' := by
  go_enter Try.func13, Try.ntmps13
  go_wp2_with fail
  refine (nil_len _).mono ?_
  rintro e w' ⟨rfl, rfl⟩
  go_wp2_with fail
  go_ret
  exact ⟨rfl, rfl⟩
theorem nil_check (w : World) (i k : Int) : Calls Try.prog 24 #[.pointer none, .int .i64 i, .int .i64 k] w fun e w' => e = .returned (.int .i64 2) ∧ w = w' := by
  go_enter Try.func24, Try.ntmps24
  go_wp2_with fail
  go_ret
  exact ⟨rfl, rfl⟩
theorem nil_at (w : World) (i : Int) : Calls Try.prog 14 #[.pointer none, .int .i64 i] w fun e w' => e = .returned (.tuple #[.int .i64 0, .int .i64 2]) ∧ w = w' := by
  go_enter Try.func14, Try.ntmps14
  go_wp2_with fail
  refine (nil_check _ _ _).mono ?_
  rintro e w' ⟨rfl, rfl⟩
  go_wp2_with fail
  go_ret2
  exact ⟨rfl, rfl⟩
theorem nil_insert (w : World) (i : Int) (A : Option Addr) (k c : Nat) : Calls Try.prog 9 #[.pointer none, .int .i64 i, .slice A k c] w fun e w' => e = .returned (.int .i64 2) ∧ w = w' := by
  go_enter Try.func9, Try.ntmps9
  go_wp2_with fail
  refine (nil_check _ _ _).mono ?_
  rintro e w' ⟨rfl, rfl⟩
  go_wp2_with fail
  go_ret
  exact ⟨rfl, rfl⟩
theorem nil_remove (w : World) (i k : Int) : Calls Try.prog 10 #[.pointer none, .int .i64 i, .int .i64 k] w fun e w' => e = .returned (.int .i64 2) ∧ w = w' := by
  go_enter Try.func10, Try.ntmps10
  go_wp2_with fail
  refine (nil_check _ _ _).mono ?_
  rintro e w' ⟨rfl, rfl⟩
  go_wp2_with fail
  go_ret
  exact ⟨rfl, rfl⟩
theorem nil_move (w : World) (i k t : Int) : Calls Try.prog 12 #[.pointer none, .int .i64 i, .int .i64 k, .int .i64 t] w fun e w' => e = .returned (.int .i64 2) ∧ w = w' := by
  go_enter Try.func12, Try.ntmps12
  go_wp2_with fail
  refine (nil_check _ _ _).mono ?_
  rintro e w' ⟨rfl, rfl⟩
  go_wp2_with fail
  go_ret
  exact ⟨rfl, rfl⟩
end GapI
end Go.Proofs.Ytiipogenknnilaa

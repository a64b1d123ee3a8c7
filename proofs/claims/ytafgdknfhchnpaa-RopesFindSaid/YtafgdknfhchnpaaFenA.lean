/-
  Contracts of package fenwicks, first: the tree in memory; none, Len, Total, at, the successor.
-/
import Derived.Test.YtafgdknfhchnpaaRows
import Derived.Test.YtafgdknfhchnpaaMem2
import Derived.Test.YtafgdknfhchnpaaFenP
import Derived.LoopTactic
import Derived.Outline
import Derived.Deep.QuietTactic
import Derived.BigQuiet
namespace Go.Proofs.Ytafgdknfhchnpaa
open Go.RowKit
set_option linter.unusedVariables false

/-- The tree's four cells. -/
def treeCells (gs gt n : Nat) (total : Int) : Nat → Value := fun j => if j = 0 then .bool true else if j = 1 then .slice (some ⟨gs, 0, none⟩) n n else if j = 2 then .slice (some ⟨gt, 0, none⟩) (n + 1) (n + 1) else .int .i64 total

/-- A tree at p, its sizes in block gs, its sums in block gt. -/
structure FG (w : World) (p gs gt n : Nat) (l : Nat → Int) : Prop where
  hp : w.rowIs p 79 4 (treeCells gs gt n (psum l n))
  hs : w.rowIs gs 2 n (i64s l)
  ht : w.rowIs gt 2 (n + 1) (i64s (fsum l))
  ne1 : gs ≠ p
  ne2 : gt ≠ p
  ne3 : gt ≠ gs
  ok : Sizes l n

/-- The same; its memory lies from block B on. -/
def Fen (w : World) (B p n : Nat) (l : Nat → Int) : Prop := ∃ gs gt, FG w p gs gt n l ∧ B ≤ p ∧ B ≤ gs ∧ B ≤ gt

theorem Fen.ok {w : World} {B p n : Nat} {l : Nat → Int} (h : Fen w B p n l) : Sizes l n := by
  obtain ⟨gs, gt, h1, _⟩ := h
  exact h1.ok
theorem Fen.keep {w w' : World} {B p n : Nat} {l : Nat → Int} (h : Fen w B p n l) (k : ∀ b, B ≤ b → b < w.heap.size → w'.heap[b]? = w.heap[b]?) : Fen w' B p n l := by
  obtain ⟨gs, gt, h1, b1, b2, b3⟩ := h
  exact ⟨gs, gt, ⟨h1.hp.of_block (k p b1 h1.hp.lt), h1.hs.of_block (k gs b2 h1.hs.lt), h1.ht.of_block (k gt b3 h1.ht.lt), h1.ne1, h1.ne2, h1.ne3, h1.ok⟩, b1, b2, b3⟩
theorem Fen.below {w w' : World} {B p n : Nat} {l : Nat → Int} (h : Fen w B p n l) (hb : Below w.heap.size w w') : Fen w' B p n l := h.keep fun b _ hb' => hb.block b hb'
theorem Fen.drawn {w w' : World} {B p n : Nat} {l : Nat → Int} (h : Fen w B p n l) (hd : Drawn w w') : Fen w' B p n l := by obtain ⟨q, rfl⟩ := hd; exact h.keep fun _ _ _ => rfl
theorem Fen.less {w : World} {B B' p n : Nat} {l : Nat → Int} (h : Fen w B p n l) (hB : B' ≤ B) : Fen w B' p n l := by
  obtain ⟨gs, gt, h1, b1, b2, b3⟩ := h
  exact ⟨gs, gt, h1, by omega, by omega, by omega⟩

/-- The cells of the tree as the walk reads them. -/
structure TCells (w : World) (p gs gt n : Nat) (t : Int) : Prop where
  c0 : w.cell? ⟨p, 0, none⟩ = some (.bool true)
  c1 : w.cell? ⟨p, 1, none⟩ = some (.slice (some ⟨gs, 0, none⟩) n n)
  c2 : w.cell? ⟨p, 2, none⟩ = some (.slice (some ⟨gt, 0, none⟩) (n + 1) (n + 1))
  c3 : w.cell? ⟨p, 3, none⟩ = some (.int .i64 t)
  fz : ∀ i, w.frozen? ⟨p, i, none⟩ = false
theorem tcells_of {w : World} {p gs gt n : Nat} {t : Int} (h : w.rowIs p 79 4 (treeCells gs gt n t)) : TCells w p gs gt n t :=
  ⟨h.cell (i := 0) (by omega), h.cell (i := 1) (by omega), h.cell (i := 2) (by omega), h.cell (i := 3) (by omega), fun i => h.frozen i⟩

set_option maxHeartbeats 400000 in
theorem none_no (w : World) (p : Nat) (c0 : w.cell? ⟨p, 0, none⟩ = some (.bool true)) :
    Calls Try.prog 49 #[.pointer (some ⟨p, 0, none⟩)] w fun e w' => e = .returned (.bool false) ∧ w = w' := by
  go_enter Try.func49, Try.ntmps49
  go_wp2_with fail
  go_ret
  exact ⟨rfl, rfl⟩
theorem none_nil (w : World) :
    Calls Try.prog 49 #[.pointer none] w fun e w' => e = .returned (.bool true) ∧ w = w' := by
  go_enter Try.func49, Try.ntmps49
  go_wp2_with fail
  go_ret
  exact ⟨rfl, rfl⟩
theorem none_zero (w : World) (p : Nat) (c0 : w.cell? ⟨p, 0, none⟩ = some (.bool false)) :
    Calls Try.prog 49 #[.pointer (some ⟨p, 0, none⟩)] w fun e w' => e = .returned (.bool true) ∧ w = w' := by
  go_enter Try.func49, Try.ntmps49
  go_wp2_with fail
  go_ret
  exact ⟨rfl, rfl⟩

theorem flen_any (w : World) (B p n : Nat) (l : Nat → Int) (h : Fen w B p n l) :
    Calls Try.prog 29 #[.pointer (some ⟨p, 0, none⟩)] w fun e w' => e = .returned (.int .i64 n) ∧ w = w' := by
  obtain ⟨gs, gt, h1, _⟩ := h
  obtain ⟨c0, c1, c2, c3, fz⟩ := tcells_of h1.hp
  clear fz h1
  go_enter Try.func29, Try.ntmps29
  go_wp2_with fail
  refine (none_no w p c0).mono ?_
  rintro e w' ⟨rfl, rfl⟩
  go_wp2_with fail
  go_ret
  exact ⟨rfl, rfl⟩
/-- The error of an index. -/
theorem fat_ok (w : World) (p : Nat) (c0 : w.cell? ⟨p, 0, none⟩ = some (.bool true)) (i m : Int) (h1 : 0 ≤ i) (h2 : i ≤ m) :
    Calls Try.prog 51 #[.pointer (some ⟨p, 0, none⟩), .int .i64 i, .int .i64 m] w fun e w' => e = .returned (.int .i64 0) ∧ w = w' := by
  go_enter Try.func51, Try.ntmps51
  go_wp2_with fail
  refine (none_no w p c0).mono ?_
  rintro e w' ⟨rfl, rfl⟩
  go_wp2_with fail
  go_ret
  exact ⟨rfl, rfl⟩
theorem fat_bad (w : World) (p : Nat) (c0 : w.cell? ⟨p, 0, none⟩ = some (.bool true)) (i m : Int) (h : i < 0 ∨ m < i) :
    Calls Try.prog 51 #[.pointer (some ⟨p, 0, none⟩), .int .i64 i, .int .i64 m] w fun e w' => e = .returned (.int .i64 4) ∧ w = w' := by
  by_cases c : i < 0
  · clear h
    go_enter Try.func51, Try.ntmps51
    go_wp2_with fail
    refine (none_no w p c0).mono ?_
    rintro e w' ⟨rfl, rfl⟩
    go_wp2_with fail
    go_ret
    exact ⟨rfl, rfl⟩
  · have h2 : m < i := by omega
    clear h
    go_enter Try.func51, Try.ntmps51
    go_wp2_with fail
    refine (none_no w p c0).mono ?_
    rintro e w' ⟨rfl, rfl⟩
    go_wp2_with fail
    go_ret
    exact ⟨rfl, rfl⟩

theorem bits_and_i64_nat (a b : Nat) (ha : a < 9223372036854775808) (hb : b < 9223372036854775808) : bits .and .i64 (a : Int) (b : Int) = ((a &&& b : Nat) : Int) := by
  have hx : a &&& b ≤ a := Nat.and_le_left
  have h1 : (BitVec.ofInt 64 (a : Int)).toNat = a := by
    rw [BitVec.ofInt_natCast, BitVec.toNat_ofNat]; exact Nat.mod_eq_of_lt (by omega)
  have h2 : (BitVec.ofInt 64 (b : Int)).toNat = b := by
    rw [BitVec.ofInt_natCast, BitVec.toNat_ofNat]; exact Nat.mod_eq_of_lt (by omega)
  show IntKind.i64.wrap ((BitVec.ofInt 64 (a : Int) &&& BitVec.ofInt 64 (b : Int)).toNat : Int) = _
  rw [BitVec.toNat_and, h1, h2, IntKind.wrap_i64]
  omega
theorem bits_clr (k : Nat) (h0 : 0 < k) (h : k ≤ 100000) : bits .and .i64 (k : Int) ((k : Int) - 1) = (clr k : Int) := by
  rw [show (k : Int) - 1 = ((k - 1 : Nat) : Int) from by omega]
  exact bits_and_i64_nat _ _ (by omega) (by omega)
theorem bits_low (k : Nat) (h0 : 0 < k) (h : k ≤ 100000) : bits .and .i64 (k : Int) (-(k : Int)) = ((k - clr k : Nat) : Int) := by
  have hx := and_neg 64 k h0 (by omega)
  have h1 : (BitVec.ofInt 64 (k : Int)).toNat = k := by
    rw [BitVec.ofInt_natCast, BitVec.toNat_ofNat]; exact Nat.mod_eq_of_lt (by omega)
  have h2 : (BitVec.ofInt 64 (-(k : Int))).toNat = 2 ^ 64 - k := by
    rw [BitVec.toNat_ofInt]; omega
  show IntKind.i64.wrap ((BitVec.ofInt 64 (k : Int) &&& BitVec.ofInt 64 (-(k : Int))).toNat : Int) = _
  rw [BitVec.toNat_and, h1, h2, hx, IntKind.wrap_i64]
  omega

set_option maxHeartbeats 400000 in
theorem up_any (w : World) (k : Nat) (h1 : 0 < k) (h2 : k ≤ 100000) :
    Calls Try.prog 56 #[.int .i64 k] w fun e w' => e = .returned (.int .i64 (up k)) ∧ w = w' := by
  have h := bits_low k h1 h2
  have hu : Hid ((k : Int) + ((k - clr k : Nat) : Int) = (up k : Int)) := by show _ = _; unfold up; omega
  obtain ⟨d, hd⟩ : ∃ d : Nat, d = k - clr k := ⟨_, rfl⟩
  have hd2 : d ≤ k := by omega
  rw [← hd] at h hu
  clear hd
  go_enter Try.func56, Try.ntmps56
  go_wp2_with fail
  go_ret
  exact ⟨ret_int hu.out, rfl⟩
end Go.Proofs.Ytafgdknfhchnpaa

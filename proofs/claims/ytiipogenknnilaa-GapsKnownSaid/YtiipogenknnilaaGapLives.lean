/-
  The laws' own functions of layer 3: letters, lives.
-/
import Derived.Test.YtiipogenknnilaaGapS6
import Derived.Test.YtiipogenknnilaaGapI6
import Derived.LoopTactic
import Derived.Laws.Concat
namespace Go.Proofs.Ytiipogenknnilaa
open Go.RowKit
set_option linter.unusedVariables false

/-- n strings, one after another. -/
def cat (l : Nat → ByteArray) : Nat → ByteArray
  | 0 => ByteArray.empty
  | k + 1 => cat l k ++ l k
theorem cat_size (l : Nat → ByteArray) (n : Nat) (h : ∀ j, j < n → (l j).size ≤ 8) : (cat l n).size ≤ 8 * n := by
  induction n with
  | zero => exact Nat.le_refl _
  | succ n ih => have := ih fun j hj => h j (by omega); have := h n (by omega); unfold cat; rw [ByteArray.size_append']; omega

set_option maxHeartbeats 1600000 in
theorem letters_eq (w : World) (B p n at_ : Nat) (l : Nat → ByteArray) (s : ByteArray) (h : GapS.Buf w B p n at_ l) (hl : ∀ j, j < n → (l j).size ≤ 8) (hs : cat l n = s) :
    Calls Try.prog 19 #[.pointer (some ⟨p, 0, none⟩)] w fun e w' => e = .returned (.string s) ∧ Below w.heap.size w w' := by
  subst hs
  have HL := Lib.hid hl
  have HB := Lib.hid h
  have hn := h.le.2.2
  clear h hl
  go_enter Try.func19, Try.ntmps19
  go_wp2_with fail
  refine (GapS.list_any w B p n at_ l HB.out).mono ?_
  rintro e w1 ⟨A, rfl, hr, hb, hz⟩
  have HR := Lib.hid hr
  clear hr hz
  go_wp2_with fail
  go_loop [3, 5] (fun s k => ∃ j : Nat, j ≤ n ∧ k = .int .i64 j ∧ s = .string (cat l j)) (fun _ k => n - (intOf k).toNat)
  case atStart => exact ⟨0, Nat.zero_le _, rfl, rfl⟩
  case round =>
    obtain ⟨j, hj, rfl, rfl⟩ := hrel
    by_cases hlt : j < n
    · obtain ⟨g, rfl, hg, hrow⟩ := HR.out (by omega)
      have hc := hrow.cell hlt
      have hs1 := cat_size l j fun i hi => HL.out i (by omega)
      have hs2 := HL.out j hlt
      have hadd := run_string_add_sum (P := Try.prog) w1 (cat l j) (l j) (by omega)
      have H : Hid (cat l (j + 1) = cat l j ++ l j) := rfl
      clear hrow hs1 hs2
      go_wp2_with fail
      go_round
      case rel => exact ⟨j + 1, by omega, by go_num, rfl⟩
      case measure => simp [intOf]; omega
    · obtain rfl : j = n := by omega
      go_wp2_with fail
      go_ret
      exact ⟨rfl, hb⟩

/-- Letters. -/
def lt (xs : List UInt8) (j : Nat) : ByteArray := ⟨#[xs.getD j 0]⟩
theorem lt_size (xs : List UInt8) (j : Nat) : (lt xs j).size ≤ 8 := by show 1 ≤ 8; omega
theorem ins_size {l f : Nat → ByteArray} {i k : Nat} (h : ∀ j, (l j).size ≤ 8) (g : ∀ j, (f j).size ≤ 8) : ∀ j, (GapS.ins l i k f j).size ≤ 8 := by
  intro j; unfold GapS.ins; split
  · exact h _
  · split
    · exact g _
    · exact h _
theorem rem_size {l : Nat → ByteArray} {i k : Nat} (h : ∀ j, (l j).size ≤ 8) : ∀ j, (GapS.rem l i k j).size ≤ 8 := by
  intro j; unfold GapS.rem; split <;> exact h _
def L1 := GapS.ins (lt [97, 98, 99, 100, 101]) 2 2 (lt [120, 121])
def L2 := GapS.rem L1 0 3
def L3 := GapS.ins (GapS.rem L2 1 2) 0 2 fun j => L2 (1 + j)
theorem L1_size : ∀ j, (L1 j).size ≤ 8 := ins_size (lt_size _) (lt_size _)
theorem L2_size : ∀ j, (L2 j).size ≤ 8 := rem_size L1_size
theorem L3_size : ∀ j, (L3 j).size ≤ 8 := ins_size (rem_size L2_size) fun j => L2_size _
theorem cat1 : cat L1 7 = ⟨#[97, 98, 120, 121, 99, 100, 101]⟩ := by decide
theorem cat2 : cat L2 4 = ⟨#[121, 99, 100, 101]⟩ := by decide
theorem cat3 : cat L3 4 = ⟨#[99, 100, 121, 101]⟩ := by decide
end Go.Proofs.Ytiipogenknnilaa

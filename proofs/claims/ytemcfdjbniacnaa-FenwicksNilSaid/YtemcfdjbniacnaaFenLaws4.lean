/-
  The walk of the law FenwicksNil of layer 2.
-/
import Derived.Test.YtemcfdjbniacnaaFenLives
import Derived.Test.YtemcfdjbniacnaaFenG
namespace Go.Proofs.Ytemcfdjbniacnaa
open Go.RowKit
set_option linter.unusedVariables false

set_option maxRecDepth 100000 in
set_option maxHeartbeats 6400000 in
theorem law_fnil (i x : Int) (w : World) (fi : Fits i) (fx : Fits x) :
    Calls Try.prog 8 #[.int .i64 i, .int .i64 x] w fun e w' => e = .returned (.bool true) ∧ Below w.heap.size w w' := by
  have FI := Lib.hid fi
  have FX := Lib.hid fx
  clear fi fx
  go_enter Try.func8, Try.ntmps8
  go_wp2_with fail
  obtain ⟨w1, e1⟩ : ∃ w1, w1 = (w.alloc (.cells #[.bool false, .slice none 0 0, .slice none 0 0, .int .i64 0] 52)).alloc (.cells #[.pointer none, .pointer (some ⟨w.heap.size, 0, none⟩)] 25) := ⟨_, rfl⟩
  have D1 : Hid (Below w.heap.size w w1) := by rw [e1]; exact ((Below.refl _ w).alloc (Nat.le_refl _) _).alloc (by simp) _
  have c0 : w1.cell? ⟨w.heap.size, 0, none⟩ = some (.bool false) := by rw [e1]; simp
  have N0 : Hid (NoTree w1 none) := none_nil w1
  have N1 : Hid (NoTree w1 (some ⟨w.heap.size, 0, none⟩)) := none_zero w1 _ c0
  have d0 : w1.cell? ⟨w.heap.size + 1, 0, none⟩ = some (.pointer none) := by rw [e1]; simp
  have d1 : w1.cell? ⟨w.heap.size + 1, 1, none⟩ = some (.pointer (some ⟨w.heap.size, 0, none⟩)) := by rw [e1]; simp
  rw [← e1]
  clear e1 c0
  go_loop [7] (fun j => ∃ k : Nat, k ≤ 2 ∧ j = .int .i64 k) (fun j => 2 - (intOf j).toNat)
  case atStart => exact ⟨0, Nat.zero_le _, rfl⟩
  case round =>
    obtain ⟨k, hk, rfl⟩ := hrel
    by_cases hlt : k < 2
    · obtain ⟨Q, hQ, NQ⟩ : ∃ Q, w1.cell? ⟨w.heap.size + 1, k, none⟩ = some (.pointer Q) ∧ Hid (NoTree w1 Q) := by
        rcases (show k = 0 ∨ k = 1 from by omega) with rfl | rfl
        · exact ⟨_, d0, N0⟩
        · exact ⟨_, d1, N1⟩
      clear d0 d1
      have hki : (k : Int) < 2 := by omega
      go_wp2_with fail
      refine (no_At w1 Q _ NQ.out).mono ?_
      rintro e w' ⟨rfl, rfl⟩
      go_wp2_with fail
      refine (no_Sum w1 Q _ NQ.out).mono ?_
      rintro e w' ⟨rfl, rfl⟩
      go_wp2_with fail
      refine (no_Set w1 Q _ _ NQ.out).mono ?_
      rintro e w' ⟨rfl, rfl⟩
      go_wp2_with fail
      refine (no_Find w1 Q _ NQ.out).mono ?_
      rintro e w' ⟨rfl, rfl⟩
      go_wp2_with fail
      refine (no_len w1 Q NQ.out).mono ?_
      rintro e w' ⟨rfl, rfl⟩
      go_wp2_with fail
      refine (no_total w1 Q NQ.out).mono ?_
      rintro e w' ⟨rfl, rfl⟩
      go_wp2_with fail
      refine (no_List w1 Q NQ.out).mono ?_
      rintro e w' ⟨rfl, rfl⟩
      go_wp2_with fail
      go_round
      case rel => exact ⟨k + 1, by omega, by go_num⟩
      case measure => simp [intOf]; omega
    · obtain rfl : k = 2 := by omega
      go_wp2_with fail
      refine (lives2_yes _).mono ?_
      rintro e w9 ⟨rfl, hb⟩
      have D9 := Lib.hid (D1.out.trans (hb.mono D1.out.size))
      clear hb
      go_wp2_with fail
      go_ret
      exact ⟨rfl, D9.out⟩
end Go.Proofs.Ytemcfdjbniacnaa

/-
  The walks of the laws OffsetsPlus, OffsetsCeil of layer 10.
-/
import Derived.Test.YtgfhnakjdcpfmaaRows
import Derived.Test.YtgfhnakjdcpfmaaMem
import Derived.Test.YtgfhnakjdcpfmaaOffPlain
import Derived.Test.YtgfhnakjdcpfmaaOffA
import Derived.Test.YtgfhnakjdcpfmaaOffD
import Derived.Test.YtgfhnakjdcpfmaaOffE
import Derived.Outline
namespace Go.Proofs.Ytgfhnakjdcpfmaa
open Go.RowKit
set_option linter.unusedVariables false

theorem satPlus_comm (a b : Int) : satPlus b a = satPlus a b := by unfold satPlus; rw [Int.add_comm b a]
theorem satPlus_zero (a : Int) (h : Fits a) : satPlus a 0 = a := by obtain ⟨h1, h2⟩ := h; unfold satPlus; rw [if_neg (by omega), if_neg (by omega)]; omega

set_option maxHeartbeats 800000 in
theorem law_plus (a b : Int) (fa : Fits a) (fb : Fits b) (w : World) :
    Calls Try.prog 3 #[.int .i64 a, .int .i64 b] w fun e w' => e = .returned (.bool true) ∧ Below w.heap.size w w' := by
  have hz := satPlus_zero a fa
  obtain ⟨a1, a2⟩ := fa
  obtain ⟨b1, b2⟩ := fb
  obtain ⟨s1, s2⟩ := satPlus_bd a b
  have HS : Hid (satPlus a b = if a + b > 9223372036854775807 then 9223372036854775807 else if a + b < -9223372036854775808 then -9223372036854775808 else a + b) := rfl
  obtain ⟨s, hs⟩ : ∃ s, s = satPlus a b := ⟨_, rfl⟩
  rw [← hs] at s1 s2
  have hc := (satPlus_comm a b).trans hs.symm
  have HP := fun W => plus_eq a b s W hs.symm a1 a2 b1 b2
  have HQ := fun W => plus_eq b a s W hc b1 b2 a1 a2
  have HZ := fun W => plus_eq a 0 a W hz a1 a2 (by omega) (by omega)
  have HR : ∀ W : World, Calls Try.prog 11 #[.int .i64 a, .int .i64 b] W fun e w' => e = .returned (.int .i64 s) ∧ Below W.heap.size W w' := by
    intro W; have := refPlus_any a b W a1 a2 b1 b2; rwa [← hs] at this
  have HP := Lib.hid HP
  have HQ := Lib.hid HQ
  have HZ := Lib.hid HZ
  have HR := Lib.hid HR
  have HE : Hid (s = if a + b > 9223372036854775807 then 9223372036854775807 else if a + b < -9223372036854775808 then -9223372036854775808 else a + b) := hs.trans HS.out
  clear hz hc hs
  go_enter Try.func3, Try.ntmps3
  go_wp2_with fail
  refine (HP.out _).mono ?_
  rintro e w' ⟨rfl, rfl⟩
  go_wp2_with fail
  refine (HR.out _).mono ?_
  rintro e w1 ⟨rfl, hb1⟩
  go_wp2_with fail
  refine (HQ.out _).mono ?_
  rintro e w' ⟨rfl, rfl⟩
  go_wp2_with fail
  refine (HZ.out _).mono ?_
  rintro e w' ⟨rfl, rfl⟩
  by_cases c1 : -9223372036854775808 < s
  · by_cases c2 : s < 9223372036854775807
    · have h1 : s = a + b := by have := HE.out; omega
      have h2 : s - a = b := by omega
      have h3 : (s - a == b) = true := by rw [h2]; simp
      have k1 : -9223372036854775808 ≤ s - a := by omega
      have k2 : s - a ≤ 9223372036854775807 := by omega
      clear h1 h2
      go_wp2_with fail
      refine (lives_yes _).mono ?_
      rintro e w2 ⟨rfl, hb2⟩
      go_wp2_with fail
      go_ret
      exact ⟨rfl, hb1.trans (hb2.mono hb1.size)⟩
    · go_wp2_with fail
      refine (lives_yes _).mono ?_
      rintro e w2 ⟨rfl, hb2⟩
      go_wp2_with fail
      go_ret
      exact ⟨rfl, hb1.trans (hb2.mono hb1.size)⟩
  · go_wp2_with fail
    refine (lives_yes _).mono ?_
    rintro e w2 ⟨rfl, hb2⟩
    go_wp2_with fail
    go_ret
    exact ⟨rfl, hb1.trans (hb2.mono hb1.size)⟩
end Go.Proofs.Ytgfhnakjdcpfmaa

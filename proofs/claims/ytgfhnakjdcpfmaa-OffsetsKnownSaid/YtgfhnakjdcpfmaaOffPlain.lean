/-
  Plain arithmetic for the offsets layer: saturating sums, clamping, quotients rounded up. No Go in sight.
-/
import Derived.WalkKit
namespace Go.Proofs.Ytgfhnakjdcpfmaa
open Go.RowKit






/-- The saturating sum. -/
def satPlus (a b : Int) : Int := if a + b > 9223372036854775807 then 9223372036854775807 else if a + b < -9223372036854775808 then -9223372036854775808 else a + b
/-- An offset brought into its range. -/
def clampTo (x total view : Int) : Int := if x < 0 then 0 else if x > (if total > view then total - view else 0) then (if total > view then total - view else 0) else x
/-- The quotient, rounded up. -/
def ceilDiv (a b : Int) : Int := if a % b > 0 then a / b + 1 else a / b

theorem satPlus_bd (a b : Int) : -9223372036854775808 ≤ satPlus a b ∧ satPlus a b ≤ 9223372036854775807 := by unfold satPlus; omega
theorem clampTo_bd (x total view : Int) (h1 : 0 ≤ total) (h2 : 1 ≤ view) : 0 ≤ clampTo x total view ∧ clampTo x total view ≤ total := by
  unfold clampTo
  by_cases a : x < 0
  · simp [a, h1]
  · by_cases b : total > view
    · simp only [if_neg a, if_pos b]; split <;> omega
    · simp only [if_neg a, if_neg b]; split <;> omega
theorem clampTo_minmax (x total view : Int) : min (max x 0) (max 0 (total - view)) = clampTo x total view := by
  unfold clampTo
  by_cases a : x < 0
  · simp only [if_pos a]; omega
  · by_cases b : total > view
    · simp only [if_neg a, if_pos b]; split <;> omega
    · simp only [if_neg a, if_neg b]; split <;> omega
theorem ceilDiv_bd (a b : Int) (h1 : 0 ≤ a) (h2 : 1 ≤ b) : 0 ≤ ceilDiv a b ∧ ceilDiv a b ≤ a := by
  unfold ceilDiv
  have e := Int.mul_ediv_add_emod a b
  have h0 := Int.ediv_nonneg h1 (by omega : (0:Int) ≤ b)
  have hr := Int.emod_nonneg a (by omega : b ≠ 0)
  have hm : a / b ≤ b * (a / b) := by
    have := Int.mul_le_mul_of_nonneg_right h2 h0
    simpa using this
  split <;> omega

/-- Go's remainder and quotient of a number below 0, by 2 ^ 32. -/
theorem tmod_neg (a : Int) (h : a < 0) : a.tmod 4294967296 = -((-a) % 4294967296) := by
  have e : a.tmod 4294967296 = -((-a).tmod 4294967296) := by rw [Int.neg_tmod, Int.neg_neg]
  rw [e, Int.tmod_eq_emod_of_nonneg (by omega)]
theorem tdiv_exact (q : Int) : (4294967296 * q).tdiv 4294967296 = q := Int.mul_tdiv_cancel_left q (by decide)

end Go.Proofs.Ytgfhnakjdcpfmaa

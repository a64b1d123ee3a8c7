/-
  Contracts of the functions on numbers of package offsets, and of its reference.
-/
import Derived.Test.YtgfhnakjdcpfmaaRows
import Derived.WalkKit
import Derived.WalkSpells
import Derived.WalkLawsBesides
import Derived.Lib.MinMax
import Derived.Test.YtgfhnakjdcpfmaaMem
import Derived.Test.YtgfhnakjdcpfmaaOffPlain
namespace Go.Proofs.Ytgfhnakjdcpfmaa
open Go.RowKit

set_option maxHeartbeats 400000 in
theorem plus_any (a b : Int) (w : World) (ha : -9223372036854775808 ≤ a) (ha' : a ≤ 9223372036854775807) (hb : -9223372036854775808 ≤ b) (hb' : b ≤ 9223372036854775807) :
    Calls Try.prog 10 #[.int .i64 a, .int .i64 b] w fun e w' => e = .returned (.int .i64 (satPlus a b)) ∧ w = w' := by
  by_cases h1 : 0 < b
  · by_cases h2 : 9223372036854775807 - b < a
    · go_enter Try.func10, Try.ntmps10
      go_wp2
      go_ret
      exact ⟨ret_int (by unfold satPlus; omega), rfl⟩
    · go_enter Try.func10, Try.ntmps10
      go_wp2
      go_ret
      exact ⟨ret_int (by unfold satPlus; omega), rfl⟩
  · by_cases h2 : b < 0
    · by_cases h3 : a < -9223372036854775808 - b
      · go_enter Try.func10, Try.ntmps10
        go_wp2
        go_ret
        exact ⟨ret_int (by unfold satPlus; omega), rfl⟩
      · go_enter Try.func10, Try.ntmps10
        go_wp2
        go_ret
        exact ⟨ret_int (by unfold satPlus; omega), rfl⟩
    · go_enter Try.func10, Try.ntmps10
      go_wp2
      go_ret
      exact ⟨ret_int (by unfold satPlus; omega), rfl⟩

set_option maxHeartbeats 400000 in
theorem number_yes (x f : Int) (w : World) :
    Calls Try.prog 15 #[.int .i64 x, .int .i64 f, .int .i64 x, .int .i64 f] w fun e w' => e = .returned (.bool true) ∧ w = w' := by
  go_enter Try.func15, Try.ntmps15
  go_wp2
  go_ret
  exact ⟨rfl, rfl⟩

set_option maxHeartbeats 400000 in
theorem clamp_bad (x total view : Int) (w : World) (h : total < 0 ∨ 4611686018427387904 < total ∨ view < 1 ∨ 2147483648 < view) :
    Calls Try.prog 13 #[.int .i64 x, .int .i64 total, .int .i64 view] w fun e w' => e = .returned (.tuple #[.int .i64 0, .int .i64 1]) ∧ w = w' := by
  by_cases h1 : total < 0
  · clear h
    go_enter Try.func13, Try.ntmps13
    go_wp2
    go_ret2
    exact ⟨rfl, rfl⟩
  · by_cases h2 : 4611686018427387904 < total
    · clear h
      go_enter Try.func13, Try.ntmps13
      go_wp2
      go_ret2
      exact ⟨rfl, rfl⟩
    · by_cases h3 : view < 1
      · clear h
        go_enter Try.func13, Try.ntmps13
        go_wp2
        go_ret2
        exact ⟨rfl, rfl⟩
      · have h4 : 2147483648 < view := by omega
        clear h
        go_enter Try.func13, Try.ntmps13
        go_wp2
        go_ret2
        exact ⟨rfl, rfl⟩

set_option maxHeartbeats 400000 in
theorem clamp_ok (x total view : Int) (w : World) (h1 : 0 ≤ total) (h2 : total ≤ 4611686018427387904) (h3 : 1 ≤ view) (h4 : view ≤ 2147483648) :
    Calls Try.prog 13 #[.int .i64 x, .int .i64 total, .int .i64 view] w fun e w' => e = .returned (.tuple #[.int .i64 (clampTo x total view), .int .i64 0]) ∧ w = w' := by
  go_enter Try.func13, Try.ntmps13
  go_wp2
  go_ret2
  exact ⟨ret_int2 (clampTo_minmax x total view) rfl, rfl⟩

set_option maxHeartbeats 400000 in
theorem shift_bad (x by_ total view : Int) (w : World) (ha : -9223372036854775808 ≤ x) (ha' : x ≤ 9223372036854775807) (hb : -9223372036854775808 ≤ by_) (hb' : by_ ≤ 9223372036854775807)
    (h : total < 0 ∨ 4611686018427387904 < total ∨ view < 1 ∨ 2147483648 < view) :
    Calls Try.prog 14 #[.int .i64 x, .int .i64 by_, .int .i64 total, .int .i64 view] w fun e w' => e = .returned (.tuple #[.int .i64 0, .int .i64 1]) ∧ w = w' := by
  have H := Lib.hid h; clear h
  go_enter Try.func14, Try.ntmps14
  go_wp2_with fail
  refine (plus_any _ _ _ ha ha' hb hb').mono ?_
  rintro e w' ⟨rfl, rfl⟩
  go_wp2_with fail
  refine (clamp_bad _ _ _ _ H.out).mono ?_
  rintro e w' ⟨rfl, rfl⟩
  go_wp2_with fail
  go_ret2
  exact ⟨rfl, rfl⟩

set_option maxHeartbeats 400000 in
theorem shift_ok (x by_ total view : Int) (w : World) (ha : -9223372036854775808 ≤ x) (ha' : x ≤ 9223372036854775807) (hb : -9223372036854775808 ≤ by_) (hb' : by_ ≤ 9223372036854775807)
    (h1 : 0 ≤ total) (h2 : total ≤ 4611686018427387904) (h3 : 1 ≤ view) (h4 : view ≤ 2147483648) :
    Calls Try.prog 14 #[.int .i64 x, .int .i64 by_, .int .i64 total, .int .i64 view] w fun e w' => e = .returned (.tuple #[.int .i64 (clampTo (satPlus x by_) total view), .int .i64 0]) ∧ w = w' := by
  go_enter Try.func14, Try.ntmps14
  go_wp2_with fail
  refine (plus_any _ _ _ ha ha' hb hb').mono ?_
  rintro e w' ⟨rfl, rfl⟩
  go_wp2_with fail
  refine (clamp_ok _ _ _ _ h1 h2 h3 h4).mono ?_
  rintro e w' ⟨rfl, rfl⟩
  go_wp2_with fail
  go_ret2
  exact ⟨rfl, rfl⟩

set_option maxHeartbeats 400000 in
theorem ceil_bad (a b : Int) (w : World) (h : a < 0 ∨ b < 1) :
    Calls Try.prog 17 #[.int .i64 a, .int .i64 b] w fun e w' => e = .returned (.tuple #[.int .i64 0, .int .i64 1]) ∧ w = w' := by
  by_cases h1 : a < 0
  · clear h
    go_enter Try.func17, Try.ntmps17
    go_wp2
    go_ret2
    exact ⟨rfl, rfl⟩
  · have h2 : b < 1 := by omega
    clear h
    go_enter Try.func17, Try.ntmps17
    go_wp2
    go_ret2
    exact ⟨rfl, rfl⟩

set_option maxHeartbeats 400000 in
theorem ceil_ok (a b : Int) (w : World) (h1 : 0 ≤ a) (h2 : 1 ≤ b) (h3 : a ≤ 9223372036854775807) :
    Calls Try.prog 17 #[.int .i64 a, .int .i64 b] w fun e w' => e = .returned (.tuple #[.int .i64 (ceilDiv a b), .int .i64 0]) ∧ w = w' := by
  have hq := Int.ediv_nonneg h1 (by omega : (0:Int) ≤ b)
  have hr := Int.emod_nonneg a (by omega : b ≠ 0)
  have hle : a / b ≤ a := Int.ediv_le_self b h1
  have hlt : 0 < a % b → a / b < 9223372036854775807 := by
    intro hp
    have e := Int.mul_ediv_add_emod a b
    have hm : a / b ≤ b * (a / b) := by
      have := Int.mul_le_mul_of_nonneg_right h2 hq
      simpa using this
    omega
  by_cases hp : 0 < a % b
  · have hlt := hlt hp
    go_enter Try.func17, Try.ntmps17
    go_wp2
    go_ret2
    exact ⟨ret_int2 (by unfold ceilDiv; rw [if_pos hp]) rfl, rfl⟩
  · clear hlt
    go_enter Try.func17, Try.ntmps17
    go_wp2
    go_ret2
    exact ⟨ret_int2 (by unfold ceilDiv; rw [if_neg (by omega)]) rfl, rfl⟩

end Go.Proofs.Ytgfhnakjdcpfmaa

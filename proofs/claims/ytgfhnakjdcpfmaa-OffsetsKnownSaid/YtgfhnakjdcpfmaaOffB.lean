/-
  Contracts of the functions on rows of package offsets: whole, parts, Meets.
-/
import Derived.Test.YtgfhnakjdcpfmaaRows
import Derived.Test.YtgfhnakjdcpfmaaMem
import Derived.Test.YtgfhnakjdcpfmaaFlo
import Derived.Test.YtgfhnakjdcpfmaaOffA
import Derived.LoopTactic
import Derived.Outline
namespace Go.Proofs.Ytgfhnakjdcpfmaa
open Go.RowKit

theorem arch_num (x : Nat) (s : Bool) (m : Nat) (i : Int) (hd : FloatKind.f64.decode x = .number s m i) :
    Extern.MathFloor.toIntegral "math.archTrunc" .zero #[.float .f64 x] = pure (.float .f64 (FloatKind.f64.encode ((Ieee.Datum.number s m i).integral .zero))) := by
  unfold Extern.MathFloor.toIntegral
  generalize FloatKind.f64.decode = dec at hd ⊢
  conv =>
    lhs
    whnf
  rw [hd]

theorem run_arch (n : Int) (h : n.natAbs < 9007199254740992) (w : World) : (callFunc 33 #[.float .f64 (F n)]).run Try.prog w = .ok (.value (.float .f64 (F n))) w := by
  rw [run_callFunc_extern Try.func33 (by kernel_rfl) (by kernel_rfl) (by kernel_rfl) (e := Extern.MathFloor.toIntegral "math.archTrunc" .zero) (by kernel_rfl)]
  have ht := trunc_F n h
  obtain ⟨m, i, hd, _, _⟩ := read_F n h
  have hd' : FloatKind.f64.decode (F n) = .number (decide (n < 0)) m i := hd
  have ht' : FloatKind.f64.encode ((Ieee.Datum.number (decide (n < 0)) m i).integral .zero) = F n := by rw [← hd']; exact ht
  rw [arch_num _ _ _ _ hd', ht']
  simp only [Sem.run_pure, Result.andThen]

set_option maxHeartbeats 400000 in
theorem trunc_any (n : Int) (w : World) (h : n.natAbs < 9007199254740992) :
    Calls Try.prog 32 #[.float .f64 (F n)] w fun e w' => e = .returned (.float .f64 (F n)) ∧ w = w' := by
  have hr := run_arch n h
  go_enter Try.func32, Try.ntmps32
  go_wp2_with fail
  go_ret
  exact ⟨rfl, rfl⟩

theorem cmp_gt {a b : Int} (h : b < a) : (compare a b) = .gt := by
  simp only [compare, compareOfLessAndEq]; rw [if_neg (by omega), if_neg (by omega)]
theorem cmp_lt {a b : Int} (h : a < b) : (compare a b) = .lt := by
  simp only [compare, compareOfLessAndEq]; rw [if_pos h]
theorem cmp_eq (a : Int) : (compare a a) = .eq := by
  simp [compare, compareOfLessAndEq]
theorem order_self (n : Int) (h : n.natAbs < 9007199254740992) : FloatKind.f64.format.order (F n) (F n) = some .eq := by
  have := order_F n n h h
  rw [cmp_eq] at this
  exact this

set_option maxHeartbeats 400000 in
theorem whole_any (n : Int) (w : World) (h0 : 0 ≤ n) (h1 : n < 9007199254740992) :
    Calls Try.prog 31 #[.float .f64 (F n)] w fun e w' => e = .returned (.tuple #[.int .i64 n, .bool true]) ∧ w = w' := by
  have o1 : (FloatKind.f64.format.order (F n) 0 == some .gt || FloatKind.f64.format.order (F n) 0 == some .eq) = true := by
    have h := order_F n 0 (by omega) (by decide)
    rw [F_zero] at h
    have h' : FloatKind.f64.format.order (F n) 0 = some (compare n 0) := h
    rw [h']
    by_cases hz : n = 0
    · subst hz; rfl
    · rw [cmp_gt (by omega)]; rfl
  have o2 : FloatKind.f64.format.order (F n) 4845873199050653696 = some .lt := by
    have h := order_max n (by omega)
    rw [cmp_lt h1] at h
    exact h
  have o3 := order_self n (by omega)
  have hc : ∀ W : World, (convert 49 2 (.float .f64 (F n))).run Try.prog W = .ok (.int .i64 n) W := by
    intro W
    refine run_convert_float_int W 49 2 .f64 .i64 (F n) n (by kernel_rfl) (by kernel_rfl) ?_
    unfold floatToIntVal
    have : (FloatKind.f64.decode (F n)).toInt .zero = some n := toInt_F n (by omega)
    rw [this]
    simp only
    rw [if_pos ⟨by show (-9223372036854775808 : Int) ≤ n; omega, by show n ≤ (9223372036854775807 : Int); omega⟩]
  go_enter Try.func31, Try.ntmps31
  go_wp2_with fail
  refine (trunc_any n _ (by omega)).mono ?_
  rintro e w' ⟨rfl, rfl⟩
  go_wp2_with fail
  go_ret2
  exact ⟨rfl, rfl⟩

set_option maxHeartbeats 400000 in
theorem parts_any (a b : Int) (w : World) (h0 : 0 ≤ a) (h1 : a < 9007199254740992) (h2 : 0 ≤ b) (h3 : b < 9007199254740992) :
    Calls Try.prog 29 #[.complex .f64 (F a) (F b)] w fun e w' => e = .returned (.tuple #[.int .i64 a, .int .i64 b, .bool true]) ∧ w = w' := by
  go_enter Try.func29, Try.ntmps29
  go_wp2_with fail
  refine (whole_any a _ h0 h1).mono ?_
  rintro e w' ⟨rfl, rfl⟩
  go_wp2_with fail
  refine (whole_any b _ h2 h3).mono ?_
  rintro e w' ⟨rfl, rfl⟩
  go_wp2_with fail
  go_ret3
  exact ⟨rfl, rfl⟩

/-- Does a row meet a viewport? -/
def meetsB (a b s v : Int) : Bool := decide (0 ≤ s ∧ s ≤ 4611686018427387904 ∧ 1 ≤ v ∧ v ≤ 2147483648 ∧ a < s + v ∧ s < a + b)

set_option maxHeartbeats 400000 in
theorem meets_any (a b s v : Int) (w : World) (h0 : 0 ≤ a) (h1 : a < 9007199254740992) (h2 : 0 ≤ b) (h3 : b < 9007199254740992) :
    Calls Try.prog 24 #[.complex .f64 (F a) (F b), .int .i64 s, .int .i64 v] w fun e w' => e = .returned (.bool (meetsB a b s v)) ∧ w = w' := by
  by_cases c1 : s < 0
  · have hfin : Hid (meetsB a b s v = false) := by show meetsB a b s v = false; unfold meetsB; rw [decide_eq_false_iff_not]; omega
    go_enter Try.func24, Try.ntmps24
    go_wp2_with fail
    refine (parts_any a b _ h0 h1 h2 h3).mono ?_
    rintro e w' ⟨rfl, rfl⟩
    go_wp2_with fail
    go_ret
    exact ⟨ret_bool (by rw [hfin.out]), rfl⟩
  · by_cases c2 : 4611686018427387904 < s
    · have hfin : Hid (meetsB a b s v = false) := by show meetsB a b s v = false; unfold meetsB; rw [decide_eq_false_iff_not]; omega
      go_enter Try.func24, Try.ntmps24
      go_wp2_with fail
      refine (parts_any a b _ h0 h1 h2 h3).mono ?_
      rintro e w' ⟨rfl, rfl⟩
      go_wp2_with fail
      go_ret
      exact ⟨ret_bool (by rw [hfin.out]), rfl⟩
    · by_cases c3 : v < 1
      · have hfin : Hid (meetsB a b s v = false) := by show meetsB a b s v = false; unfold meetsB; rw [decide_eq_false_iff_not]; omega
        go_enter Try.func24, Try.ntmps24
        go_wp2_with fail
        refine (parts_any a b _ h0 h1 h2 h3).mono ?_
        rintro e w' ⟨rfl, rfl⟩
        go_wp2_with fail
        go_ret
        exact ⟨ret_bool (by rw [hfin.out]), rfl⟩
      · by_cases c4 : 2147483648 < v
        · have hfin : Hid (meetsB a b s v = false) := by show meetsB a b s v = false; unfold meetsB; rw [decide_eq_false_iff_not]; omega
          go_enter Try.func24, Try.ntmps24
          go_wp2_with fail
          refine (parts_any a b _ h0 h1 h2 h3).mono ?_
          rintro e w' ⟨rfl, rfl⟩
          go_wp2_with fail
          go_ret
          exact ⟨ret_bool (by rw [hfin.out]), rfl⟩
        · by_cases c5 : a < s + v
          · by_cases c6 : s < a + b
            · have hfin : Hid (meetsB a b s v = true) := by show meetsB a b s v = true; unfold meetsB; rw [decide_eq_true_iff]; omega
              go_enter Try.func24, Try.ntmps24
              go_wp2_with fail
              refine (parts_any a b _ h0 h1 h2 h3).mono ?_
              rintro e w' ⟨rfl, rfl⟩
              go_wp2_with fail
              go_ret
              exact ⟨ret_bool (by rw [hfin.out]), rfl⟩
            · have hfin : Hid (meetsB a b s v = false) := by show meetsB a b s v = false; unfold meetsB; rw [decide_eq_false_iff_not]; omega
              go_enter Try.func24, Try.ntmps24
              go_wp2_with fail
              refine (parts_any a b _ h0 h1 h2 h3).mono ?_
              rintro e w' ⟨rfl, rfl⟩
              go_wp2_with fail
              go_ret
              exact ⟨ret_bool (by rw [hfin.out]; simp; omega), rfl⟩
          · have hfin : Hid (meetsB a b s v = false) := by show meetsB a b s v = false; unfold meetsB; rw [decide_eq_false_iff_not]; omega
            go_enter Try.func24, Try.ntmps24
            go_wp2_with fail
            refine (parts_any a b _ h0 h1 h2 h3).mono ?_
            rintro e w' ⟨rfl, rfl⟩
            go_wp2_with fail
            go_ret
            exact ⟨ret_bool (by rw [hfin.out]), rfl⟩

end Go.Proofs.Ytgfhnakjdcpfmaa

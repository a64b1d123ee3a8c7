/-
  Contracts of Bound, of the law's helper clamped, and of the reference of layer 10.
-/
import Derived.Test.YtgfhnakjdcpfmaaRows
import Derived.Test.YtgfhnakjdcpfmaaMem
import Derived.Test.YtgfhnakjdcpfmaaOffPlain
import Derived.Test.YtgfhnakjdcpfmaaOffA
import Derived.Outline
import Derived.Deep.QuietTactic
import Derived.BigQuiet
namespace Go.Proofs.Ytgfhnakjdcpfmaa
open Go.RowKit
set_option linter.unusedVariables false

set_option maxHeartbeats 400000 in
theorem bound_ok (v b o : Int) (w : World) (h1 : 1 ≤ v) (h2 : v ≤ 2147483648) (h3 : 1 ≤ b) (h4 : b ≤ 2305843009213693952) (h5 : 0 ≤ o) (h6 : o ≤ 16) :
    Calls Try.prog 18 #[.int .i64 v, .int .i64 b, .int .i64 o] w fun e w' => e = .returned (.tuple #[.int .i64 (ceilDiv v b + 2 * o + 2), .int .i64 0]) ∧ w = w' := by
  have hq := ceilDiv_bd v b (by omega) h3
  obtain ⟨q1, q2⟩ := hq
  go_enter Try.func18, Try.ntmps18
  go_wp2_with fail
  refine (ceil_ok v b _ (by omega) h3 (by omega)).mono ?_
  rintro e w' ⟨rfl, rfl⟩
  go_wp2_with fail
  go_ret2
  exact ⟨rfl, rfl⟩

set_option maxHeartbeats 800000 in
theorem bound_bad (v b o : Int) (w : World) (h : v < 1 ∨ 2147483648 < v ∨ b < 1 ∨ 2305843009213693952 < b ∨ o < 0 ∨ 16 < o) :
    Calls Try.prog 18 #[.int .i64 v, .int .i64 b, .int .i64 o] w fun e w' => e = .returned (.tuple #[.int .i64 0, .int .i64 1]) ∧ w = w' := by
  by_cases h1 : v < 1
  · clear h
    go_enter Try.func18, Try.ntmps18
    go_wp2_with fail
    go_ret2
    exact ⟨rfl, rfl⟩
  · by_cases h2 : 2147483648 < v
    · clear h
      go_enter Try.func18, Try.ntmps18
      go_wp2_with fail
      go_ret2
      exact ⟨rfl, rfl⟩
    · by_cases h3 : b < 1
      · clear h
        go_enter Try.func18, Try.ntmps18
        go_wp2_with fail
        go_ret2
        exact ⟨rfl, rfl⟩
      · by_cases h4 : 2305843009213693952 < b
        · clear h
          go_enter Try.func18, Try.ntmps18
          go_wp2_with fail
          go_ret2
          exact ⟨rfl, rfl⟩
        · by_cases h5 : o < 0
          · clear h
            go_enter Try.func18, Try.ntmps18
            go_wp2_with fail
            go_ret2
            exact ⟨rfl, rfl⟩
          · have h6 : 16 < o := by omega
            clear h
            go_enter Try.func18, Try.ntmps18
            go_wp2_with fail
            go_ret2
            exact ⟨rfl, rfl⟩

set_option maxHeartbeats 400000 in
theorem clamped_yes (x total view want : Int) (w : World) (h1 : 0 ≤ total) (h2 : total ≤ 4611686018427387904) (h3 : 1 ≤ view) (h4 : view ≤ 2147483648) (he : want = clampTo x total view) :
    Calls Try.prog 28 #[.int .i64 x, .int .i64 total, .int .i64 view, .int .i64 want] w fun e w' => e = .returned (.bool true) ∧ w = w' := by
  subst he
  go_enter Try.func28, Try.ntmps28
  go_wp2_with fail
  refine (clamp_ok x total view _ h1 h2 h3 h4).mono ?_
  rintro e w' ⟨rfl, rfl⟩
  go_wp2_with fail
  refine (number_yes _ _ _).mono ?_
  rintro e w' ⟨rfl, rfl⟩
  go_wp2_with fail
  go_ret
  exact ⟨rfl, rfl⟩

/-! ### The reference -/
theorem tdiv_q (a r q : Int) (h : a - r = 4294967296 * q) : (a - r).tdiv 4294967296 = q := by rw [h]; exact tdiv_exact q

set_option maxHeartbeats 400000 in
theorem refOf_any (a : Int) (w : World) (h1 : -9223372032559808512 ≤ a) (h2 : a ≤ 9223372036854775807) :
    Calls Try.prog 30 #[.int .i64 a] w fun e w' => e = .returned (.agg #[.int .i64 (a / 4294967296), .int .i64 (a % 4294967296)]) ∧ Below w.heap.size w w' := by
  by_cases h0 : 0 ≤ a
  · obtain ⟨r, hr⟩ : ∃ r, r = a % 4294967296 := ⟨_, rfl⟩
    have b1 : 0 ≤ r := by omega
    have b2 : r < 4294967296 := by omega
    have b3 : 0 ≤ a - r := by omega
    have hq : (a - r) / 4294967296 = a / 4294967296 := by omega
    have HR := hr.symm
    have HI := Lib.hid hr; clear hr
    go_enter Try.func30, Try.ntmps30
    go_wp2_with fail
    exact bodyPost_ret (v := .agg #[.int .i64 (a / 4294967296), .int .i64 r]) (by simp [results, Try.results30, go_sem]) rfl ⟨ret_agg2 rfl HI.out, (Below.refl _ _).alloc (Nat.le_refl _) _⟩
  · obtain ⟨r, hr⟩ : ∃ r, r = -((-a) % 4294967296) := ⟨_, rfl⟩
    have ht : a.tmod 4294967296 = r := by rw [hr]; exact tmod_neg a (by omega)
    by_cases hz : r < 0
    · have b2 : -4294967296 < r := by omega
      have hq : (a - (r + 4294967296)).tdiv 4294967296 = a / 4294967296 := tdiv_q _ _ _ (by omega)
      have HI : Hid (r + 4294967296 = a % 4294967296) := by show r + 4294967296 = a % 4294967296; omega
      clear hr
      go_enter Try.func30, Try.ntmps30
      go_wp2_with fail
      exact bodyPost_ret (v := .agg #[.int .i64 (a / 4294967296), .int .i64 (r + 4294967296)]) (by simp [results, Try.results30, go_sem]) rfl ⟨ret_agg2 rfl HI.out, (Below.refl _ _).alloc (Nat.le_refl _) _⟩
    · have hq : (a - r).tdiv 4294967296 = a / 4294967296 := tdiv_q _ _ _ (by omega)
      have hr0 : r = 0 := by omega
      have HI : Hid (r = a % 4294967296) := by show r = a % 4294967296; omega
      have c1 : 0 ≤ r := by omega
      have c2 : r ≤ 0 := by omega
      clear hr hr0
      go_enter Try.func30, Try.ntmps30
      go_wp2_with fail
      exact bodyPost_ret (v := .agg #[.int .i64 (a / 4294967296), .int .i64 r]) (by simp [results, Try.results30, go_sem]) rfl ⟨ret_agg2 rfl HI.out, (Below.refl _ _).alloc (Nat.le_refl _) _⟩

set_option maxHeartbeats 400000 in
theorem half_any (a : Int) (w : World) (h1 : -9223372036854775808 ≤ a) (h2 : a ≤ 9223372036854775807) :
    Calls Try.prog 27 #[.int .i64 a] w fun e w' => e = .returned (.agg #[.int .i64 (a / 4294967296), .int .i64 (a % 4294967296)]) ∧ Below w.heap.size w w' := by
  by_cases h0 : a < -9223372032559808511
  · have q1 : -2147483648 ≤ (a + 4294967296) / 4294967296 := by omega
    have q2 : (a + 4294967296) / 4294967296 ≤ 2147483647 := by omega
    go_enter Try.func27, Try.ntmps27
    go_wp2_with fail
    refine (refOf_any _ _ (by omega) (by omega)).mono ?_
    rintro e w1 ⟨rfl, hb⟩
    obtain ⟨hc, hf⟩ := below_cells hb
    have hz : w.heap.size < w1.heap.size := by have := hb.size; simp at this; omega
    have hb0 : Below w.heap.size w w1 := ((Below.refl _ w).alloc (Nat.le_refl _) _).trans (hb.mono (by simp))
    clear hb
    go_wp2_with fail
    refine bodyPost_ret (v := .agg #[.int .i64 ((a + 4294967296) / 4294967296 - 1), .int .i64 ((a + 4294967296) % 4294967296)]) (by simp [results, Try.results27, go_sem, hc, hz]) rfl ⟨ret_agg2 (by omega) (by omega), ?_⟩
    exact ((hb0.setCell (Nat.le_refl _) _).setCell (Nat.le_refl _) _).alloc (by simp; omega) _
  · go_enter Try.func27, Try.ntmps27
    go_wp2_with fail
    refine (refOf_any _ _ (by omega) (by omega)).mono ?_
    rintro e w1 ⟨rfl, hb⟩
    obtain ⟨hc, hf⟩ := below_cells hb
    have hz : w.heap.size < w1.heap.size := by have := hb.size; simp at this; omega
    have hb0 : Below w.heap.size w w1 := ((Below.refl _ w).alloc (Nat.le_refl _) _).trans (hb.mono (by simp))
    clear hb
    go_wp2_with fail
    refine bodyPost_ret (v := .agg #[.int .i64 (a / 4294967296), .int .i64 (a % 4294967296)]) (by simp [results, Try.results27, go_sem, hc]) rfl ⟨rfl, ?_⟩
    exact (hb0.setCell (Nat.le_refl _) _).setCell (Nat.le_refl _) _

/-- The two halves of two numbers, added. -/
theorem halves (a b : Int) : (a / 4294967296 + b / 4294967296) * 4294967296 + (a % 4294967296 + b % 4294967296) = a + b := by omega

set_option maxHeartbeats 1000000 in
theorem refPlus_any (a b : Int) (w : World) (ha : -9223372036854775808 ≤ a) (ha' : a ≤ 9223372036854775807) (hb : -9223372036854775808 ≤ b) (hb' : b ≤ 9223372036854775807) :
    Calls Try.prog 11 #[.int .i64 a, .int .i64 b] w fun e w' => e = .returned (.int .i64 (satPlus a b)) ∧ Below w.heap.size w w' := by
  have hs : Hid (satPlus a b = if a + b > 9223372036854775807 then 9223372036854775807 else if a + b < -9223372036854775808 then -9223372036854775808 else a + b) := rfl
  go_enter Try.func11, Try.ntmps11
  go_wp2_with fail
  refine (half_any a _ ha ha').mono ?_
  rintro e w1 ⟨rfl, hb1⟩
  go_wp2_with fail
  refine (half_any b _ hb hb').mono ?_
  rintro e w2 ⟨rfl, hb2⟩
  have hbb : Below w.heap.size w w2 := hb1.trans (hb2.mono hb1.size)
  clear hb1 hb2
  have hz := hbb.size
  obtain ⟨p, hp⟩ : ∃ p, p = a / 4294967296 := ⟨_, rfl⟩
  obtain ⟨q, hq⟩ : ∃ q, q = b / 4294967296 := ⟨_, rfl⟩
  obtain ⟨r, hr⟩ : ∃ r, r = a % 4294967296 := ⟨_, rfl⟩
  obtain ⟨s, hs'⟩ : ∃ s, s = b % 4294967296 := ⟨_, rfl⟩
  rw [← hp, ← hq, ← hr, ← hs']
  have k1 : -2147483648 ≤ p := by omega
  have k2 : p ≤ 2147483647 := by omega
  have k3 : -2147483648 ≤ q := by omega
  have k4 : q ≤ 2147483647 := by omega
  have k5 : 0 ≤ r := by omega
  have k6 : r < 4294967296 := by omega
  have k7 : 0 ≤ s := by omega
  have k8 : s < 4294967296 := by omega
  have HP := Lib.hid hp
  have HQ := Lib.hid hq
  have HR := Lib.hid hr
  have HS := Lib.hid hs'
  clear hp hq hr hs'
  go_wp2_with fail
  go_quiet (fail)
  by_cases c1 : 4294967296 ≤ r + s
  · by_cases c2 : 2147483647 < p + q + 1
    · have H : Hid (9223372036854775807 = satPlus a b) := by
        show _ = _
        have h1 := HP.out; have h2 := HQ.out; have h3 := HR.out; have h4 := HS.out
        rw [hs.out, if_pos (by omega)]
      go_wp2_with fail
      go_ret
      exact ⟨ret_int H.out, by exact below_drewN (((hbb.alloc (by omega) _).alloc (by simp; omega) _)) _⟩
    · by_cases c3 : p + q + 1 < -2147483648
      · have H : Hid (-9223372036854775808 = satPlus a b) := by
          show _ = _
          have h1 := HP.out; have h2 := HQ.out; have h3 := HR.out; have h4 := HS.out
          rw [hs.out, if_neg (by omega), if_pos (by omega)]
        go_wp2_with fail
        go_ret
        exact ⟨ret_int H.out, by exact below_drewN (((hbb.alloc (by omega) _).alloc (by simp; omega) _)) _⟩
      · have H : Hid ((p + q + 1) * 4294967296 + (r + s - 4294967296) = satPlus a b) := by
          show _ = _
          have h1 := HP.out; have h2 := HQ.out; have h3 := HR.out; have h4 := HS.out
          rw [hs.out, if_neg (by omega), if_neg (by omega)]
          omega
        go_wp2_with fail
        go_ret
        exact ⟨ret_int H.out, by exact below_drewN (((hbb.alloc (by omega) _).alloc (by simp; omega) _)) _⟩
  · by_cases c2 : 2147483647 < p + q
    · have H : Hid (9223372036854775807 = satPlus a b) := by
        show _ = _
        have h1 := HP.out; have h2 := HQ.out; have h3 := HR.out; have h4 := HS.out
        rw [hs.out, if_pos (by omega)]
      go_wp2_with fail
      go_ret
      exact ⟨ret_int H.out, by exact below_drewN (((hbb.alloc (by omega) _).alloc (by simp; omega) _)) _⟩
    · by_cases c3 : p + q < -2147483648
      · have H : Hid (-9223372036854775808 = satPlus a b) := by
          show _ = _
          have h1 := HP.out; have h2 := HQ.out; have h3 := HR.out; have h4 := HS.out
          rw [hs.out, if_neg (by omega), if_pos (by omega)]
        go_wp2_with fail
        go_ret
        exact ⟨ret_int H.out, by exact below_drewN (((hbb.alloc (by omega) _).alloc (by simp; omega) _)) _⟩
      · have H : Hid ((p + q) * 4294967296 + (r + s) = satPlus a b) := by
          show _ = _
          have h1 := HP.out; have h2 := HQ.out; have h3 := HR.out; have h4 := HS.out
          rw [hs.out, if_neg (by omega), if_neg (by omega)]
          omega
        go_wp2_with fail
        go_ret
        exact ⟨ret_int H.out, by exact below_drewN (((hbb.alloc (by omega) _).alloc (by simp; omega) _)) _⟩

set_option maxHeartbeats 400000 in
theorem refClamp_any (x total view : Int) (w : World) (h1 : 0 ≤ total) (h2 : total ≤ 4611686018427387904) (h3 : 1 ≤ view) (h4 : view ≤ 2147483648) :
    Calls Try.prog 16 #[.int .i64 x, .int .i64 total, .int .i64 view] w fun e w' => e = .returned (.int .i64 (clampTo x total view)) ∧ w = w' := by
  have hs : Hid (clampTo x total view = if x < 0 then 0 else if x > (if total > view then total - view else 0) then (if total > view then total - view else 0) else x) := rfl
  by_cases c1 : view < total
  · by_cases c2 : x < 0
    · have H : Hid (0 = clampTo x total view) := by show _ = _; rw [hs.out, if_pos c2]
      go_enter Try.func16, Try.ntmps16
      go_wp2_with fail
      go_ret
      exact ⟨ret_int H.out, rfl⟩
    · by_cases c3 : total - view < x
      · have H : Hid (total - view = clampTo x total view) := by show _ = _; rw [hs.out, if_neg c2, if_pos c1, if_pos c3]
        go_enter Try.func16, Try.ntmps16
        go_wp2_with fail
        go_ret
        exact ⟨ret_int H.out, rfl⟩
      · have H : Hid (x = clampTo x total view) := by show _ = _; rw [hs.out, if_neg c2, if_pos c1, if_neg c3]
        go_enter Try.func16, Try.ntmps16
        go_wp2_with fail
        go_ret
        exact ⟨ret_int H.out, rfl⟩
  · by_cases c2 : x < 0
    · have H : Hid (0 = clampTo x total view) := by show _ = _; rw [hs.out, if_pos c2]
      go_enter Try.func16, Try.ntmps16
      go_wp2_with fail
      go_ret
      exact ⟨ret_int H.out, rfl⟩
    · by_cases c3 : 0 < x
      · have H : Hid (0 = clampTo x total view) := by show _ = _; rw [hs.out, if_neg c2, if_neg c1, if_pos c3]
        go_enter Try.func16, Try.ntmps16
        go_wp2_with fail
        go_ret
        exact ⟨ret_int H.out, rfl⟩
      · have H : Hid (x = clampTo x total view) := by show _ = _; rw [hs.out, if_neg c2, if_neg c1, if_neg c3]
        go_enter Try.func16, Try.ntmps16
        go_wp2_with fail
        go_ret
        exact ⟨ret_int H.out, rfl⟩

set_option maxHeartbeats 400000 in
theorem refCeil_any (a b : Int) (w : World) (h1 : 0 ≤ a) (h2 : 1 ≤ b) (h3 : a ≤ 9223372036854775807) :
    Calls Try.prog 19 #[.int .i64 a, .int .i64 b] w fun e w' => e = .returned (.int .i64 (ceilDiv a b)) ∧ w = w' := by
  have e := Int.mul_ediv_add_emod a b
  have hq := Int.ediv_nonneg h1 (by omega : (0:Int) ≤ b)
  have hr := Int.emod_nonneg a (by omega : b ≠ 0)
  have hle : a / b ≤ a := Int.ediv_le_self b h1
  have hm : a / b ≤ b * (a / b) := by
    have := Int.mul_le_mul_of_nonneg_right h2 hq
    simpa using this
  obtain ⟨q, hqe⟩ : ∃ q, q = a / b := ⟨_, rfl⟩
  have hs : Hid (ceilDiv a b = if a % b > 0 then a / b + 1 else a / b) := rfl
  rw [← hqe] at e hq hle hm hs
  have m1 : q * b ≤ a := by rw [Int.mul_comm]; omega
  have m2 : 0 ≤ q * b := Int.mul_nonneg hq (by omega)
  by_cases c : q * b < a
  · have H : Hid (q + 1 = ceilDiv a b) := by
      show _ = _
      rw [hs.out, if_pos (by rw [Int.mul_comm] at c; omega)]
    have q3 : q < 9223372036854775807 := by
      rw [Int.mul_comm] at c; omega
    have HQ := hqe.symm
    clear hqe e hr hm
    go_enter Try.func19, Try.ntmps19
    go_wp2_with fail
    go_ret
    exact ⟨ret_int H.out, rfl⟩
  · have H : Hid (q = ceilDiv a b) := by
      show _ = _
      rw [hs.out, if_neg (by rw [Int.mul_comm] at c; omega)]
    have HQ := hqe.symm
    clear hqe e hr hm
    go_enter Try.func19, Try.ntmps19
    go_wp2_with fail
    go_ret
    exact ⟨ret_int H.out, rfl⟩
end Go.Proofs.Ytgfhnakjdcpfmaa

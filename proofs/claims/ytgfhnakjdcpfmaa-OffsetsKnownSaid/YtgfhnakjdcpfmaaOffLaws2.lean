/-
  The walks of the laws OffsetsClamp, OffsetsCeil of layer 10.
-/
import Derived.Test.YtgfhnakjdcpfmaaRows
import Derived.Test.YtgfhnakjdcpfmaaMem
import Derived.Test.YtgfhnakjdcpfmaaOffPlain
import Derived.Test.YtgfhnakjdcpfmaaOffA
import Derived.Test.YtgfhnakjdcpfmaaOffD
import Derived.Test.YtgfhnakjdcpfmaaOffE
import Derived.Outline
import Derived.Deep.QuietTactic
import Derived.BigQuiet
namespace Go.Proofs.Ytgfhnakjdcpfmaa
open Go.RowKit
set_option linter.unusedVariables false

theorem agg2_of {k : IntKind} {cs : Array Value} (h : cs.size = 2) (f : ∀ i, i < 2 → ∃ x, cs[i]? = some (.int k x) ∧ (Lit.int k x).wf = true) : ∃ x y, cs = #[.int k x, .int k y] ∧ (Lit.int k x).wf = true ∧ (Lit.int k y).wf = true := by
  obtain ⟨x, hx, wx⟩ := f 0 (by omega)
  obtain ⟨y, hy, wy⟩ := f 1 (by omega)
  refine ⟨x, y, ?_, wx, wy⟩
  apply Array.ext_getElem?
  intro i
  match i with
  | 0 => exact hx
  | 1 => exact hy
  | i + 2 => rw [Array.getElem?_eq_none (by omega), Array.getElem?_eq_none (by simp)]

theorem clampTo_idem (x t v : Int) (h1 : 0 ≤ t) (h3 : 1 ≤ v) : clampTo (clampTo x t v) t v = clampTo x t v := by
  unfold clampTo
  by_cases b : t > v
  · simp only [if_pos b]; by_cases a : x < 0
    · simp only [if_pos a]; omega
    · simp only [if_neg a]; by_cases c : x > t - v
      · simp only [if_pos c]; omega
      · simp only [if_neg c]; omega
  · simp only [if_neg b]; by_cases a : x < 0
    · simp only [if_pos a]; omega
    · simp only [if_neg a]; by_cases c : x > 0
      · simp only [if_pos c]; omega
      · simp only [if_neg c]; omega
theorem clampTo_range (x t v : Int) (h1 : 0 ≤ t) (h3 : 1 ≤ v) : clampTo x t v = 0 ∨ clampTo x t v + v ≤ t := by
  unfold clampTo
  by_cases b : t > v
  · rw [if_pos b]; by_cases a : x < 0
    · rw [if_pos a]; exact .inl rfl
    · rw [if_neg a]; by_cases c : x > t - v
      · rw [if_pos c]; omega
      · rw [if_neg c]; omega
  · rw [if_neg b]; by_cases a : x < 0
    · rw [if_pos a]; exact .inl rfl
    · rw [if_neg a]; by_cases c : x > 0
      · rw [if_pos c]; exact .inl rfl
      · rw [if_neg c]; omega

theorem clamp_eq (x total view c : Int) (w : World) (hc : clampTo x total view = c) (h1 : 0 ≤ total) (h2 : total ≤ 4611686018427387904) (h3 : 1 ≤ view) (h4 : view ≤ 2147483648) :
    Calls Try.prog 13 #[.int .i64 x, .int .i64 total, .int .i64 view] w fun e w' => e = .returned (.tuple #[.int .i64 c, .int .i64 0]) ∧ w = w' := by
  subst hc; exact clamp_ok x total view w h1 h2 h3 h4
theorem refClamp_eq (x total view c : Int) (w : World) (hc : clampTo x total view = c) (h1 : 0 ≤ total) (h2 : total ≤ 4611686018427387904) (h3 : 1 ≤ view) (h4 : view ≤ 2147483648) :
    Calls Try.prog 16 #[.int .i64 x, .int .i64 total, .int .i64 view] w fun e w' => e = .returned (.int .i64 c) ∧ w = w' := by
  subst hc; exact refClamp_any x total view w h1 h2 h3 h4
theorem refPlus_eq (a b c : Int) (w : World) (hc : satPlus a b = c) (ha : -9223372036854775808 ≤ a) (ha' : a ≤ 9223372036854775807) (hb : -9223372036854775808 ≤ b) (hb' : b ≤ 9223372036854775807) :
    Calls Try.prog 11 #[.int .i64 a, .int .i64 b] w fun e w' => e = .returned (.int .i64 c) ∧ Below w.heap.size w w' := by
  subst hc; exact refPlus_any a b w ha ha' hb hb'

set_option maxRecDepth 100000 in
set_option maxHeartbeats 1600000 in
theorem law_clamp (x by_ : Int) (z : Array Value) (fx : Fits x) (fb : Fits by_) (hz : z.size = 2) (f : ∀ i, i < 2 → ∃ x, z[i]? = some (.int .i64 x) ∧ (Lit.int .i64 x).wf = true) (w : World) :
    Calls Try.prog 4 #[.int .i64 x, .int .i64 by_, .agg z] w fun e w' => e = .returned (.bool true) ∧ Below w.heap.size w w' := by
  obtain ⟨t, v, rfl, wt, wv⟩ := agg2_of hz f
  obtain ⟨x1, x2⟩ := fx
  obtain ⟨b1, b2⟩ := fb
  clear hz f wt wv
  by_cases bad : t < 0 ∨ 4611686018427387904 < t ∨ v < 1 ∨ 2147483648 < v
  · have HB := Lib.hid bad
    have key : ∀ W : World, Below w.heap.size w W → Below W.heap.size W W := fun W _ => Below.refl _ _
    clear key
    by_cases c1 : t < 0
    · clear bad
      go_enter Try.func4, Try.ntmps4
      go_wp2_with fail
      go_quiet (fail)
      go_wp2_with fail
      refine (clamp_bad _ _ _ _ HB.out).mono ?_
      rintro e w' ⟨rfl, rfl⟩
      go_wp2_with fail
      refine (shift_bad _ _ _ _ _ x1 x2 b1 b2 HB.out).mono ?_
      rintro e w' ⟨rfl, rfl⟩
      go_wp2_with fail
      refine (number_yes _ _ _).mono ?_
      rintro e w' ⟨rfl, rfl⟩
      go_wp2_with fail
      refine (number_yes _ _ _).mono ?_
      rintro e w' ⟨rfl, rfl⟩
      go_wp2_with fail
      refine (lives_yes _).mono ?_
      rintro e w2 ⟨rfl, hb2⟩
      go_wp2_with fail
      go_ret
      exact ⟨rfl, (below_drewN ((Below.refl _ w).alloc (Nat.le_refl _) _) _).trans (hb2.mono (by simp))⟩
    · by_cases c2 : 4611686018427387904 < t
      · clear bad
        go_enter Try.func4, Try.ntmps4
        go_wp2_with fail
        go_quiet (fail)
        go_wp2_with fail
        refine (clamp_bad _ _ _ _ HB.out).mono ?_
        rintro e w' ⟨rfl, rfl⟩
        go_wp2_with fail
        refine (shift_bad _ _ _ _ _ x1 x2 b1 b2 HB.out).mono ?_
        rintro e w' ⟨rfl, rfl⟩
        go_wp2_with fail
        refine (number_yes _ _ _).mono ?_
        rintro e w' ⟨rfl, rfl⟩
        go_wp2_with fail
        refine (number_yes _ _ _).mono ?_
        rintro e w' ⟨rfl, rfl⟩
        go_wp2_with fail
        refine (lives_yes _).mono ?_
        rintro e w2 ⟨rfl, hb2⟩
        go_wp2_with fail
        go_ret
        exact ⟨rfl, (below_drewN ((Below.refl _ w).alloc (Nat.le_refl _) _) _).trans (hb2.mono (by simp))⟩
      · by_cases c3 : v < 1
        · clear bad
          go_enter Try.func4, Try.ntmps4
          go_wp2_with fail
          go_quiet (fail)
          go_wp2_with fail
          refine (clamp_bad _ _ _ _ HB.out).mono ?_
          rintro e w' ⟨rfl, rfl⟩
          go_wp2_with fail
          refine (shift_bad _ _ _ _ _ x1 x2 b1 b2 HB.out).mono ?_
          rintro e w' ⟨rfl, rfl⟩
          go_wp2_with fail
          refine (number_yes _ _ _).mono ?_
          rintro e w' ⟨rfl, rfl⟩
          go_wp2_with fail
          refine (number_yes _ _ _).mono ?_
          rintro e w' ⟨rfl, rfl⟩
          go_wp2_with fail
          refine (lives_yes _).mono ?_
          rintro e w2 ⟨rfl, hb2⟩
          go_wp2_with fail
          go_ret
          exact ⟨rfl, (below_drewN ((Below.refl _ w).alloc (Nat.le_refl _) _) _).trans (hb2.mono (by simp))⟩
        · have c4 : 2147483648 < v := by omega
          clear bad
          go_enter Try.func4, Try.ntmps4
          go_wp2_with fail
          go_quiet (fail)
          go_wp2_with fail
          refine (clamp_bad _ _ _ _ HB.out).mono ?_
          rintro e w' ⟨rfl, rfl⟩
          go_wp2_with fail
          refine (shift_bad _ _ _ _ _ x1 x2 b1 b2 HB.out).mono ?_
          rintro e w' ⟨rfl, rfl⟩
          go_wp2_with fail
          refine (number_yes _ _ _).mono ?_
          rintro e w' ⟨rfl, rfl⟩
          go_wp2_with fail
          refine (number_yes _ _ _).mono ?_
          rintro e w' ⟨rfl, rfl⟩
          go_wp2_with fail
          refine (lives_yes _).mono ?_
          rintro e w2 ⟨rfl, hb2⟩
          go_wp2_with fail
          go_ret
          exact ⟨rfl, (below_drewN ((Below.refl _ w).alloc (Nat.le_refl _) _) _).trans (hb2.mono (by simp))⟩
  · have t1 : 0 ≤ t := by omega
    have t2 : t ≤ 4611686018427387904 := by omega
    have v1 : 1 ≤ v := by omega
    have v2 : v ≤ 2147483648 := by omega
    clear bad
    obtain ⟨a, ha⟩ : ∃ a, clampTo x t v = a := ⟨_, rfl⟩
    have hidem : clampTo a t v = a := by rw [← ha]; exact clampTo_idem x t v t1 v1
    obtain ⟨a1, a2⟩ : 0 ≤ a ∧ a ≤ t := by rw [← ha]; exact clampTo_bd x t v t1 v1
    have hr : a = 0 ∨ a + v ≤ t := by rw [← ha]; exact clampTo_range x t v t1 v1
    obtain ⟨s, hs⟩ : ∃ s, satPlus x by_ = s := ⟨_, rfl⟩
    obtain ⟨c, hc⟩ : ∃ c, clampTo s t v = c := ⟨_, rfl⟩
    have hsc : clampTo (satPlus x by_) t v = c := by rw [hs]; exact hc
    have HA := Lib.hid ha
    have HS := Lib.hid hs
    have HC := Lib.hid hc
    have HSC := Lib.hid hsc
    have HI := Lib.hid hidem
    clear ha hs hc hsc hidem
    by_cases hz : a = 0
    · have hz' : (a == 0) = true := by rw [hz]; rfl
      have HZ := Lib.hid hz
      clear hz hr
      go_enter Try.func4, Try.ntmps4
      go_wp2_with fail
      go_quiet (fail)
      go_wp2_with fail
      refine (clamp_eq _ _ _ a _ HA.out t1 t2 v1 v2).mono ?_
      rintro e w' ⟨rfl, rfl⟩
      go_wp2_with fail
      refine (shift_eq _ _ _ _ c _ HSC.out x1 x2 b1 b2 t1 t2 v1 v2).mono ?_
      rintro e w' ⟨rfl, rfl⟩
      go_wp2_with fail
      refine (clamp_eq _ _ _ a _ HI.out t1 t2 v1 v2).mono ?_
      rintro e w' ⟨rfl, rfl⟩
      go_wp2_with fail
      refine (refClamp_eq _ _ _ a _ HA.out t1 t2 v1 v2).mono ?_
      rintro e w' ⟨rfl, rfl⟩
      go_wp2_with fail
      refine (number_yes _ _ _).mono ?_
      rintro e w' ⟨rfl, rfl⟩
      go_wp2_with fail
      refine (refPlus_eq _ _ s _ HS.out x1 x2 b1 b2).mono ?_
      rintro e w1 ⟨rfl, hb1⟩
      go_wp2_with fail
      refine (refClamp_eq _ _ _ c _ HC.out t1 t2 v1 v2).mono ?_
      rintro e w' ⟨rfl, rfl⟩
      go_wp2_with fail
      refine (number_yes _ _ _).mono ?_
      rintro e w' ⟨rfl, rfl⟩
      go_wp2_with fail
      refine (lives_yes _).mono ?_
      rintro e w2 ⟨rfl, hb2⟩
      have hf : Below w.heap.size w w1 := (below_drewN ((Below.refl _ w).alloc (Nat.le_refl _) _) _).trans (hb1.mono (by simp))
      go_wp2_with fail
      go_ret
      exact ⟨rfl, hf.trans (hb2.mono hf.size)⟩
    · have hr' : a + v ≤ t := by omega
      have hz' : (a == 0) = false := by simpa using hz
      have ap : 0 < a := by omega
      clear hr hz
      go_enter Try.func4, Try.ntmps4
      go_wp2_with fail
      go_quiet (fail)
      go_wp2_with fail
      refine (clamp_eq _ _ _ a _ HA.out t1 t2 v1 v2).mono ?_
      rintro e w' ⟨rfl, rfl⟩
      go_wp2_with fail
      refine (shift_eq _ _ _ _ c _ HSC.out x1 x2 b1 b2 t1 t2 v1 v2).mono ?_
      rintro e w' ⟨rfl, rfl⟩
      go_wp2_with fail
      refine (clamp_eq _ _ _ a _ HI.out t1 t2 v1 v2).mono ?_
      rintro e w' ⟨rfl, rfl⟩
      go_wp2_with fail
      refine (refClamp_eq _ _ _ a _ HA.out t1 t2 v1 v2).mono ?_
      rintro e w' ⟨rfl, rfl⟩
      go_wp2_with fail
      refine (number_yes _ _ _).mono ?_
      rintro e w' ⟨rfl, rfl⟩
      go_wp2_with fail
      refine (refPlus_eq _ _ s _ HS.out x1 x2 b1 b2).mono ?_
      rintro e w1 ⟨rfl, hb1⟩
      go_wp2_with fail
      refine (refClamp_eq _ _ _ c _ HC.out t1 t2 v1 v2).mono ?_
      rintro e w' ⟨rfl, rfl⟩
      go_wp2_with fail
      refine (number_yes _ _ _).mono ?_
      rintro e w' ⟨rfl, rfl⟩
      go_wp2_with fail
      refine (lives_yes _).mono ?_
      rintro e w2 ⟨rfl, hb2⟩
      have hf : Below w.heap.size w w1 := (below_drewN ((Below.refl _ w).alloc (Nat.le_refl _) _) _).trans (hb1.mono (by simp))
      go_wp2_with fail
      go_ret
      exact ⟨rfl, hf.trans (hb2.mono hf.size)⟩

set_option maxRecDepth 100000 in
set_option maxHeartbeats 1600000 in
theorem law_ceil (a b o : Int) (fa : Fits a) (fb : Fits b) (fo : Fits o) (w : World) :
    Calls Try.prog 5 #[.int .i64 a, .int .i64 b, .int .i64 o] w fun e w' => e = .returned (.bool true) ∧ Below w.heap.size w w' := by
  obtain ⟨a1, a2⟩ := fa
  obtain ⟨b1, b2⟩ := fb
  obtain ⟨o1, o2⟩ := fo
  by_cases c0 : a < 0 ∨ b < 1
  · have HB := Lib.hid c0
    have HB2 : Hid (a < 1 ∨ 2147483648 < a ∨ b < 1 ∨ 2305843009213693952 < b ∨ o < 0 ∨ 16 < o) := by show _ ∨ _; omega
    by_cases c1 : a < 0
    · clear c0
      go_enter Try.func5, Try.ntmps5
      go_wp2_with fail
      refine (ceil_bad _ _ _ HB.out).mono ?_
      rintro e w' ⟨rfl, rfl⟩
      go_wp2_with fail
      refine (bound_bad _ _ _ _ HB2.out).mono ?_
      rintro e w' ⟨rfl, rfl⟩
      go_wp2_with fail
      refine (number_yes _ _ _).mono ?_
      rintro e w' ⟨rfl, rfl⟩
      go_wp2_with fail
      refine (number_yes _ _ _).mono ?_
      rintro e w' ⟨rfl, rfl⟩
      go_wp2_with fail
      refine (lives_yes _).mono ?_
      rintro e w2 ⟨rfl, hb2⟩
      go_wp2_with fail
      go_ret
      exact ⟨rfl, hb2⟩
    · have c2 : b < 1 := by omega
      clear c0
      go_enter Try.func5, Try.ntmps5
      go_wp2_with fail
      refine (ceil_bad _ _ _ HB.out).mono ?_
      rintro e w' ⟨rfl, rfl⟩
      go_wp2_with fail
      refine (bound_bad _ _ _ _ HB2.out).mono ?_
      rintro e w' ⟨rfl, rfl⟩
      go_wp2_with fail
      refine (number_yes _ _ _).mono ?_
      rintro e w' ⟨rfl, rfl⟩
      go_wp2_with fail
      refine (number_yes _ _ _).mono ?_
      rintro e w' ⟨rfl, rfl⟩
      go_wp2_with fail
      refine (lives_yes _).mono ?_
      rintro e w2 ⟨rfl, hb2⟩
      go_wp2_with fail
      go_ret
      exact ⟨rfl, hb2⟩
  · have a0 : 0 ≤ a := by omega
    have b0 : 1 ≤ b := by omega
    clear c0
    obtain ⟨q, hq⟩ : ∃ q, ceilDiv a b = q := ⟨_, rfl⟩
    obtain ⟨q1, q2⟩ := ceilDiv_bd a b a0 b0
    rw [hq] at q1 q2
    have hqb : 0 < q → (q - 1) * b < a := by
      intro hp
      have e := Int.mul_ediv_add_emod a b
      have hr := Int.emod_nonneg a (by omega : b ≠ 0)
      have hu : ceilDiv a b = if a % b > 0 then a / b + 1 else a / b := rfl
      rw [hq] at hu
      by_cases hm : a % b > 0
      · rw [if_pos hm] at hu
        rw [hu, show a / b + 1 - 1 = a / b from by omega, Int.mul_comm]
        omega
      · rw [if_neg hm] at hu
        rw [hu, Int.sub_mul, Int.mul_comm]
        omega
    have hq0 : 0 < q → 0 ≤ (q - 1) * b := fun hp => Int.mul_nonneg (by omega) (by omega)
    have HC := fun W => ceil_eq a b q W hq a0 b0 a2
    have HC := Lib.hid HC
    have HR : ∀ W : World, Calls Try.prog 19 #[.int .i64 a, .int .i64 b] W fun e w' => e = .returned (.int .i64 q) ∧ W = w' := by
      intro W; have := refCeil_any a b W a0 b0 a2; rwa [hq] at this
    have HR := Lib.hid HR
    have HQ := Lib.hid hq
    clear hq
    by_cases c3 : a < 1 ∨ 2147483648 < a ∨ b < 1 ∨ 2305843009213693952 < b ∨ o < 0 ∨ 16 < o
    · have HB2 := Lib.hid c3
      have HN := fun W => bound_bad a b o W c3
      have HN := Lib.hid HN
      by_cases hp : 0 < q
      · have p1 := hqb hp
        have p2 := hq0 hp
        have p1' : ¬ a ≤ (q - 1) * b := by omega
        clear hqb hq0
        obtain ⟨m, hm⟩ : ∃ m, (q - 1) * b = m := ⟨_, rfl⟩
        rw [hm] at p1 p2 p1'
        by_cases d1 : a < 1
        · exact absurd q2 (by omega)
        · by_cases d2 : 2147483648 < a
          · clear c3
            go_enter Try.func5, Try.ntmps5
            go_wp2_with fail
            refine (HC.out _).mono ?_
            rintro e w' ⟨rfl, rfl⟩
            go_wp2_with fail
            refine (HN.out _).mono ?_
            rintro e w' ⟨rfl, rfl⟩
            go_wp2_with fail
            refine (HR.out _).mono ?_
            rintro e w' ⟨rfl, rfl⟩
            go_wp2_with fail
            refine (number_yes _ _ _).mono ?_
            rintro e w' ⟨rfl, rfl⟩
            go_wp2_with fail
            refine (number_yes _ _ _).mono ?_
            rintro e w' ⟨rfl, rfl⟩
            go_wp2_with fail
            refine (lives_yes _).mono ?_
            rintro e w2 ⟨rfl, hb2⟩
            go_wp2_with fail
            go_ret
            exact ⟨rfl, hb2⟩
          · by_cases d3 : 2305843009213693952 < b
            · clear c3
              go_enter Try.func5, Try.ntmps5
              go_wp2_with fail
              refine (HC.out _).mono ?_
              rintro e w' ⟨rfl, rfl⟩
              go_wp2_with fail
              refine (HN.out _).mono ?_
              rintro e w' ⟨rfl, rfl⟩
              go_wp2_with fail
              refine (HR.out _).mono ?_
              rintro e w' ⟨rfl, rfl⟩
              go_wp2_with fail
              refine (number_yes _ _ _).mono ?_
              rintro e w' ⟨rfl, rfl⟩
              go_wp2_with fail
              refine (number_yes _ _ _).mono ?_
              rintro e w' ⟨rfl, rfl⟩
              go_wp2_with fail
              refine (lives_yes _).mono ?_
              rintro e w2 ⟨rfl, hb2⟩
              go_wp2_with fail
              go_ret
              exact ⟨rfl, hb2⟩
            · by_cases d4 : o < 0
              · clear c3
                go_enter Try.func5, Try.ntmps5
                go_wp2_with fail
                refine (HC.out _).mono ?_
                rintro e w' ⟨rfl, rfl⟩
                go_wp2_with fail
                refine (HN.out _).mono ?_
                rintro e w' ⟨rfl, rfl⟩
                go_wp2_with fail
                refine (HR.out _).mono ?_
                rintro e w' ⟨rfl, rfl⟩
                go_wp2_with fail
                refine (number_yes _ _ _).mono ?_
                rintro e w' ⟨rfl, rfl⟩
                go_wp2_with fail
                refine (number_yes _ _ _).mono ?_
                rintro e w' ⟨rfl, rfl⟩
                go_wp2_with fail
                refine (lives_yes _).mono ?_
                rintro e w2 ⟨rfl, hb2⟩
                go_wp2_with fail
                go_ret
                exact ⟨rfl, hb2⟩
              · have d5 : 16 < o := by omega
                clear c3
                go_enter Try.func5, Try.ntmps5
                go_wp2_with fail
                refine (HC.out _).mono ?_
                rintro e w' ⟨rfl, rfl⟩
                go_wp2_with fail
                refine (HN.out _).mono ?_
                rintro e w' ⟨rfl, rfl⟩
                go_wp2_with fail
                refine (HR.out _).mono ?_
                rintro e w' ⟨rfl, rfl⟩
                go_wp2_with fail
                refine (number_yes _ _ _).mono ?_
                rintro e w' ⟨rfl, rfl⟩
                go_wp2_with fail
                refine (number_yes _ _ _).mono ?_
                rintro e w' ⟨rfl, rfl⟩
                go_wp2_with fail
                refine (lives_yes _).mono ?_
                rintro e w2 ⟨rfl, hb2⟩
                go_wp2_with fail
                go_ret
                exact ⟨rfl, hb2⟩
      · have q0 : q ≤ 0 := by omega
        have d1 : a < 1 := by
          have hu : ceilDiv a b = if a % b > 0 then a / b + 1 else a / b := rfl
          rw [HQ.out] at hu
          have e := Int.mul_ediv_add_emod a b
          have hr := Int.emod_nonneg a (by omega : b ≠ 0)
          have hd := Int.ediv_nonneg a0 (by omega : (0:Int) ≤ b)
          by_cases hm : a % b > 0
          · rw [if_pos hm] at hu; omega
          · rw [if_neg hm] at hu
            have : a / b = 0 := by omega
            rw [this, Int.mul_zero] at e
            omega
        clear hqb hq0 c3
        go_enter Try.func5, Try.ntmps5
        go_wp2_with fail
        refine (HC.out _).mono ?_
        rintro e w' ⟨rfl, rfl⟩
        go_wp2_with fail
        refine (HN.out _).mono ?_
        rintro e w' ⟨rfl, rfl⟩
        go_wp2_with fail
        refine (HR.out _).mono ?_
        rintro e w' ⟨rfl, rfl⟩
        go_wp2_with fail
        refine (number_yes _ _ _).mono ?_
        rintro e w' ⟨rfl, rfl⟩
        go_wp2_with fail
        refine (number_yes _ _ _).mono ?_
        rintro e w' ⟨rfl, rfl⟩
        go_wp2_with fail
        refine (lives_yes _).mono ?_
        rintro e w2 ⟨rfl, hb2⟩
        go_wp2_with fail
        go_ret
        exact ⟨rfl, hb2⟩
    · have HN : ∀ W : World, Calls Try.prog 18 #[.int .i64 a, .int .i64 b, .int .i64 o] W fun e w' => e = .returned (.tuple #[.int .i64 (q + 2 * o + 2), .int .i64 0]) ∧ W = w' := fun W => bound_eq a b o _ W (by rw [HQ.out]) (by omega) (by omega) (by omega) (by omega) (by omega) (by omega)
      have HN := Lib.hid HN
      have e1 : 1 ≤ a := by omega
      have e2 : a ≤ 2147483648 := by omega
      have e3 : b ≤ 2305843009213693952 := by omega
      have e4 : 0 ≤ o := by omega
      have e5 : o ≤ 16 := by omega
      clear c3
      have hp : 0 < q := by
        have hu : ceilDiv a b = if a % b > 0 then a / b + 1 else a / b := rfl
        rw [HQ.out] at hu
        have e := Int.mul_ediv_add_emod a b
        have hr := Int.emod_nonneg a (by omega : b ≠ 0)
        have hd := Int.ediv_nonneg a0 (by omega : (0:Int) ≤ b)
        by_cases hm : a % b > 0
        · rw [if_pos hm] at hu; omega
        · rw [if_neg hm] at hu
          rcases Int.lt_or_lt_of_ne (show a / b ≠ 0 from fun h => by rw [h, Int.mul_zero] at e; omega) with h | h
          · omega
          · omega
      have p1 := hqb hp
      have p2 := hq0 hp
      clear hqb hq0
      obtain ⟨m, hm⟩ : ∃ m, (q - 1) * b = m := ⟨_, rfl⟩
      rw [hm] at p1 p2
      go_enter Try.func5, Try.ntmps5
      go_wp2_with fail
      refine (HC.out _).mono ?_
      rintro e w' ⟨rfl, rfl⟩
      go_wp2_with fail
      refine (HN.out _).mono ?_
      rintro e w' ⟨rfl, rfl⟩
      go_wp2_with fail
      refine (HR.out _).mono ?_
      rintro e w' ⟨rfl, rfl⟩
      go_wp2_with fail
      refine (number_yes _ _ _).mono ?_
      rintro e w' ⟨rfl, rfl⟩
      go_wp2_with fail
      refine (number_yes _ _ _).mono ?_
      rintro e w' ⟨rfl, rfl⟩
      go_wp2_with fail
      refine (lives_yes _).mono ?_
      rintro e w2 ⟨rfl, hb2⟩
      go_wp2_with fail
      go_ret
      exact ⟨rfl, hb2⟩
end Go.Proofs.Ytgfhnakjdcpfmaa

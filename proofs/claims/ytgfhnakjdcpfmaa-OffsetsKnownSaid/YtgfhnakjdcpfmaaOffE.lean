/-
  The law's own examples (lives) of layer 10 hold.
-/
import Derived.Test.YtgfhnakjdcpfmaaRows
import Derived.Test.YtgfhnakjdcpfmaaMem
import Derived.Test.YtgfhnakjdcpfmaaOffPlain
import Derived.Test.YtgfhnakjdcpfmaaOffA
import Derived.Test.YtgfhnakjdcpfmaaOffB
import Derived.Test.YtgfhnakjdcpfmaaOffC
import Derived.Test.YtgfhnakjdcpfmaaOffD
import Derived.Outline
namespace Go.Proofs.Ytgfhnakjdcpfmaa
open Go.RowKit
set_option linter.unusedVariables false

theorem plus_eq (a b c : Int) (w : World) (hc : satPlus a b = c) (ha : -9223372036854775808 ≤ a) (ha' : a ≤ 9223372036854775807) (hb : -9223372036854775808 ≤ b) (hb' : b ≤ 9223372036854775807) :
    Calls Try.prog 10 #[.int .i64 a, .int .i64 b] w fun e w' => e = .returned (.int .i64 c) ∧ w = w' := by
  subst hc; exact plus_any a b w ha ha' hb hb'
theorem shift_eq (x by_ total view c : Int) (w : World) (hc : clampTo (satPlus x by_) total view = c) (ha : -9223372036854775808 ≤ x) (ha' : x ≤ 9223372036854775807) (hb : -9223372036854775808 ≤ by_) (hb' : by_ ≤ 9223372036854775807)
    (h1 : 0 ≤ total) (h2 : total ≤ 4611686018427387904) (h3 : 1 ≤ view) (h4 : view ≤ 2147483648) :
    Calls Try.prog 14 #[.int .i64 x, .int .i64 by_, .int .i64 total, .int .i64 view] w fun e w' => e = .returned (.tuple #[.int .i64 c, .int .i64 0]) ∧ w = w' := by
  subst hc; exact shift_ok x by_ total view w ha ha' hb hb' h1 h2 h3 h4
theorem ceil_eq (a b c : Int) (w : World) (hc : ceilDiv a b = c) (h1 : 0 ≤ a) (h2 : 1 ≤ b) (h3 : a ≤ 9223372036854775807) :
    Calls Try.prog 17 #[.int .i64 a, .int .i64 b] w fun e w' => e = .returned (.tuple #[.int .i64 c, .int .i64 0]) ∧ w = w' := by
  subst hc; exact ceil_ok a b w h1 h2 h3
theorem bound_eq (v b o c : Int) (w : World) (hc : ceilDiv v b + 2 * o + 2 = c) (h1 : 1 ≤ v) (h2 : v ≤ 2147483648) (h3 : 1 ≤ b) (h4 : b ≤ 2305843009213693952) (h5 : 0 ≤ o) (h6 : o ≤ 16) :
    Calls Try.prog 18 #[.int .i64 v, .int .i64 b, .int .i64 o] w fun e w' => e = .returned (.tuple #[.int .i64 c, .int .i64 0]) ∧ w = w' := by
  subst hc; exact bound_ok v b o w h1 h2 h3 h4 h5 h6
theorem meets_eq (a b s v : Int) (x y : Nat) (r : Bool) (w : World) (hx : x = F a) (hy : y = F b) (hr : meetsB a b s v = r) (h0 : 0 ≤ a) (h1 : a < 9007199254740992) (h2 : 0 ≤ b) (h3 : b < 9007199254740992) :
    Calls Try.prog 24 #[.complex .f64 x y, .int .i64 s, .int .i64 v] w fun e w' => e = .returned (.bool r) ∧ w = w' := by
  subst hx hy hr; exact meets_any a b s v w h0 h1 h2 h3

/-- The sizes of the example. -/
def ex3 : Nat → Int := fun j => if j = 0 then 3 else if j = 2 then 5 else 0
theorem ex3_fits (k : Nat) : Fits (ex3 k) := by unfold ex3 Fits; split <;> (try split) <;> omega
theorem ex3_chk : chk ex3 3 = 0 := by decide
theorem ex3_rows : rowsErr ex3 3 = 0 := by decide

theorem lit_ex3 : ∀ j, j < 3 → #[Value.int .i64 3, .int .i64 0, .int .i64 5][j]? = some (i64s ex3 j) := by
  intro j hj
  match j, hj with
  | 0, _ => rfl
  | 1, _ => rfl
  | 2, _ => rfl
theorem F3 : F 3 = 4613937818241073152 := by decide
theorem F5 : F 5 = 4617315517961601024 := by decide
theorem ps0 : psum ex3 0 = 0 := rfl
theorem ps1 : psum ex3 1 = 3 := rfl
theorem ps2 : psum ex3 2 = 3 := rfl
theorem ps3 : psum ex3 3 = 8 := rfl
theorem lit_cx3 : ∀ j, j < 3 → #[Value.complex .f64 0 4613937818241073152, .complex .f64 4613937818241073152 0, .complex .f64 4613937818241073152 4617315517961601024][j]? = some (cxs ex3 j) := by
  intro j hj
  unfold cxs
  match j, hj with
  | 0, _ => rw [ps0, show ex3 0 = 3 from rfl, F3, F_zero]; rfl
  | 1, _ => rw [ps1, show ex3 1 = 0 from rfl, F3, F_zero]; rfl
  | 2, _ => rw [ps2, show ex3 2 = 5 from rfl, F3, F5]; rfl

set_option maxRecDepth 100000 in
set_option maxHeartbeats 2000000 in
theorem lives_yes (w : World) : Calls Try.prog 12 #[] w fun e w' => e = .returned (.bool true) ∧ Below w.heap.size w w' := by
  go_enter Try.func12, Try.ntmps12
  go_wp2_with fail
  refine (plus_eq _ _ 9223372036854775807 _ (by decide) (by omega) (by omega) (by omega) (by omega)).mono ?_
  rintro e w' ⟨rfl, rfl⟩
  go_wp2_with fail
  refine (plus_eq _ _ (-9223372036854775808) _ (by decide) (by omega) (by omega) (by omega) (by omega)).mono ?_
  rintro e w' ⟨rfl, rfl⟩
  go_wp2_with fail
  refine (plus_eq _ _ (-2) _ (by decide) (by omega) (by omega) (by omega) (by omega)).mono ?_
  rintro e w' ⟨rfl, rfl⟩
  go_wp2_with fail
  refine (clamped_yes _ _ _ _ _ (by omega) (by omega) (by omega) (by omega) (by decide)).mono ?_
  rintro e w' ⟨rfl, rfl⟩
  go_wp2_with fail
  refine (clamped_yes _ _ _ _ _ (by omega) (by omega) (by omega) (by omega) (by decide)).mono ?_
  rintro e w' ⟨rfl, rfl⟩
  go_wp2_with fail
  refine (clamped_yes _ _ _ _ _ (by omega) (by omega) (by omega) (by omega) (by decide)).mono ?_
  rintro e w' ⟨rfl, rfl⟩
  go_wp2_with fail
  refine (clamped_yes _ _ _ _ _ (by omega) (by omega) (by omega) (by omega) (by decide)).mono ?_
  rintro e w' ⟨rfl, rfl⟩
  go_wp2_with fail
  refine (shift_eq _ _ _ _ 70 _ (by decide) (by omega) (by omega) (by omega) (by omega) (by omega) (by omega) (by omega) (by omega)).mono ?_
  rintro e w' ⟨rfl, rfl⟩
  go_wp2_with fail
  refine (shift_eq _ _ _ _ 0 _ (by decide) (by omega) (by omega) (by omega) (by omega) (by omega) (by omega) (by omega) (by omega)).mono ?_
  rintro e w' ⟨rfl, rfl⟩
  go_wp2_with fail
  refine (ceil_eq _ _ 3 _ (by decide) (by omega) (by omega) (by omega)).mono ?_
  rintro e w' ⟨rfl, rfl⟩
  go_wp2_with fail
  refine (ceil_eq _ _ 2 _ (by decide) (by omega) (by omega) (by omega)).mono ?_
  rintro e w' ⟨rfl, rfl⟩
  go_wp2_with fail
  refine (ceil_eq _ _ 0 _ (by decide) (by omega) (by omega) (by omega)).mono ?_
  rintro e w' ⟨rfl, rfl⟩
  go_wp2_with fail
  refine (bound_eq _ _ _ 10 _ (by decide) (by omega) (by omega) (by omega) (by omega) (by omega) (by omega)).mono ?_
  rintro e w' ⟨rfl, rfl⟩
  go_wp2_with fail
  refine (tops_any _ 3 3 ex3 _ (Sees.lit w _ _ _ 3 rfl lit_ex3) ex3_fits (by omega)).mono ?_
  rintro e w1 (⟨_, g, rfl, hrow, hg, hb⟩ | ⟨h0, _⟩)
  case inr => exact absurd ex3_chk h0
  have hb1 : Below w.heap.size w w1 := ((Below.refl _ w).alloc (Nat.le_refl _) _).trans (hb.mono (by simp))
  have c1 : w1.cell? ⟨g, 1, none⟩ = some (.int .i64 3) := hrow.cell (i := 1) (by omega)
  have c2 : w1.cell? ⟨g, 2, none⟩ = some (.int .i64 3) := hrow.cell (i := 2) (by omega)
  have c3 : w1.cell? ⟨g, 3, none⟩ = some (.int .i64 8) := hrow.cell (i := 3) (by omega)
  have hlt := hrow.lt
  clear hrow hb hg
  go_wp2_with fail
  refine (rows_any _ 3 3 ex3 _ (Sees.lit w1 _ _ _ 3 rfl lit_ex3) ex3_fits (by omega)).mono ?_
  rintro e w2 (⟨_, A, rfl, hA, hb⟩ | ⟨h0, _⟩)
  case inr => exact absurd ex3_rows h0
  have hb2 : Below w1.heap.size w1 w2 := ((Below.refl _ w1).alloc (Nat.le_refl _) _).trans (hb.mono (by simp))
  have d1 : w2.cell? ⟨g, 1, none⟩ = some (.int .i64 3) := (hb2.cell (p := ⟨g, 1, none⟩) hlt).trans c1
  have d2 : w2.cell? ⟨g, 2, none⟩ = some (.int .i64 3) := (hb2.cell (p := ⟨g, 2, none⟩) hlt).trans c2
  have d3 : w2.cell? ⟨g, 3, none⟩ = some (.int .i64 8) := (hb2.cell (p := ⟨g, 3, none⟩) hlt).trans c3
  have hbb := hb1.trans (hb2.mono hb1.size)
  clear c1 c2 c3 hb hb1 hb2
  go_wp2_with fail
  have hA' := (hA.below (B := w2.heap.size) ((Below.refl _ w2).alloc (Nat.le_refl _) (.cells #[.complex .f64 0 4613937818241073152, .complex .f64 4613937818241073152 0, .complex .f64 4613937818241073152 4617315517961601024] 46))).more (B' := w2.heap.size + 1) (by omega)
  refine (rowsSame A _ 3 3 0 (psum ex3) ex3 _ (by show Sees _ _ _ _ (cxs ex3); simpa using hA') (Sees.lit w2 _ _ _ 3 rfl lit_cx3) ?_ ?_ (by omega)).mono ?_
  · intro j hj
    match j, hj with
    | 0, _ => decide
    | 1, _ => decide
    | 2, _ => decide
  · intro j hj
    match j, hj with
    | 0, _ => decide
    | 1, _ => decide
    | 2, _ => decide
  rintro e w3 ⟨rfl, hd⟩
  have hb3 : Below w.heap.size w w3 := (hbb.alloc hbb.size _).trans (hd.below _)
  clear hA' hd hA d1 d2 d3 hlt hbb
  go_wp2_with fail
  refine (meets_eq 3 5 8 1 _ _ false _ F3.symm F5.symm (by decide) (by omega) (by omega) (by omega) (by omega)).mono ?_
  rintro e w' ⟨rfl, rfl⟩
  go_wp2_with fail
  refine (meets_eq 3 5 7 1 _ _ true _ F3.symm F5.symm (by decide) (by omega) (by omega) (by omega) (by omega)).mono ?_
  rintro e w' ⟨rfl, rfl⟩
  go_wp2_with fail
  refine (meets_eq 3 5 2 1 _ _ false _ F3.symm F5.symm (by decide) (by omega) (by omega) (by omega) (by omega)).mono ?_
  rintro e w' ⟨rfl, rfl⟩
  go_wp2_with fail
  refine (meets_eq 3 5 2 2 _ _ true _ F3.symm F5.symm (by decide) (by omega) (by omega) (by omega) (by omega)).mono ?_
  rintro e w' ⟨rfl, rfl⟩
  go_wp2_with fail
  go_ret
  exact ⟨rfl, hb3⟩

end Go.Proofs.Ytgfhnakjdcpfmaa

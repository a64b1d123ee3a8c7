/-
  The laws' own functions of layer 2: lives.
-/
import Derived.Test.YtemcfdjbniacnaaFenE
import Derived.LoopTactic
namespace Go.Proofs.Ytemcfdjbniacnaa
open Go.RowKit
set_option linter.unusedVariables false

def f4 : Nat → Int := fun j => ([3, 0, 5, 2] : List Int).getD j 0
def f1 : Nat → Int := fun j => ([-1] : List Int).getD j 0
def f3 : Nat → Int := fun j => ([2305843009213693952, 2305843009213693952, 1] : List Int).getD j 0
def G12 : Nat → Int := fun j => ([0, 0, 0, 2, 0, 2, 3, 2, 0, 9, 3, 1] : List Int).getD j 0
theorem f4_fits : ∀ k, Fits (f4 k) := fun k => by
  unfold f4
  match k with
  | 0 => exact ⟨by decide, by decide⟩
  | 1 => exact ⟨by decide, by decide⟩
  | 2 => exact ⟨by decide, by decide⟩
  | 3 => exact ⟨by decide, by decide⟩
  | k + 4 => exact ⟨by show (_ : Int) ≤ 0; decide, by show (0 : Int) ≤ _; decide⟩
theorem f1_fits : ∀ k, Fits (f1 k) := fun k => by
  unfold f1
  match k with
  | 0 => exact ⟨by decide, by decide⟩
  | k + 1 => exact ⟨by show (_ : Int) ≤ 0; decide, by show (0 : Int) ≤ _; decide⟩
theorem f3_fits : ∀ k, Fits (f3 k) := fun k => by
  unfold f3
  match k with
  | 0 => exact ⟨by decide, by decide⟩
  | 1 => exact ⟨by decide, by decide⟩
  | 2 => exact ⟨by decide, by decide⟩
  | k + 3 => exact ⟨by show (_ : Int) ≤ 0; decide, by show (0 : Int) ≤ _; decide⟩
/-- A literal of numbers is seen. -/
theorem lit_list (xs : List Int) (n : Nat) (vs : Array Value) (hv : vs = (xs.map fun b => Value.int .i64 b).toArray) (hn : xs.length = n) : ∀ j, j < n → vs[j]? = some (i64s (fun j => xs.getD j 0) j) := by
  subst hv hn
  intro j hj
  simp [i64s, hj]

set_option maxRecDepth 100000 in
set_option maxHeartbeats 6400000 in
theorem lives2_yes (w : World) : Calls Try.prog 10 #[] w fun e w' => e = .returned (.bool true) ∧ Below w.heap.size w w' := by
  go_enter Try.func10, Try.ntmps10
  go_wp2_with fail
  refine (fnew_ok _ 4 4 f4 _ (Sees.lit w _ _ _ 4 rfl (lit_list [3, 0, 5, 2] 4 _ rfl rfl)) f4_fits (by decide)).mono ?_
  rintro e w6 ⟨p, rfl, hF, hb⟩
  have D6 : Hid (Below w.heap.size w w6) := ((Below.refl _ w).alloc (Nat.le_refl _) _).trans (hb.mono (by simp))
  have F6 : Hid (Fen w6 w.heap.size p 4 f4) := hF.less (by simp)
  clear hF hb
  go_wp2_with fail
  refine (fSum_ok _ _ _ _ _ F6.out 0 (by omega)).mono ?_
  rintro e w' ⟨rfl, rfl⟩
  rw [show psum f4 0 = 0 from by decide]
  go_wp2_with fail
  refine (fSum_ok _ _ _ _ _ F6.out 3 (by omega)).mono ?_
  rintro e w' ⟨rfl, rfl⟩
  rw [show psum f4 3 = 8 from by decide]
  go_wp2_with fail
  refine (fSum_ok _ _ _ _ _ F6.out 4 (by omega)).mono ?_
  rintro e w' ⟨rfl, rfl⟩
  rw [show psum f4 4 = 10 from by decide]
  go_wp2_with fail
  refine (fSum_bad _ _ _ _ _ F6.out 5 (.inr (by omega))).mono ?_
  rintro e w' ⟨rfl, rfl⟩
  go_wp2_with fail
  refine (flen_any _ _ _ _ _ F6.out).mono ?_
  rintro e w' ⟨rfl, rfl⟩
  go_wp2_with fail
  refine (ftotal_any _ _ _ _ _ F6.out).mono ?_
  rintro e w' ⟨rfl, rfl⟩
  rw [show psum f4 4 = 10 from by decide]
  go_wp2_with fail
  have HC : Hid (∀ j, j < 12 → (w6.alloc (.cells #[.int .i64 0, .int .i64 0, .int .i64 0, .int .i64 2, .int .i64 0, .int .i64 2, .int .i64 3, .int .i64 2, .int .i64 0, .int .i64 9, .int .i64 3, .int .i64 1] 55)).cell? ⟨w6.heap.size, j, none⟩ = some (i64s G12 j)) := fun j hj =>
    World.rowIs.cell (World.rowIs_alloc w6 #[.int .i64 0, .int .i64 0, .int .i64 0, .int .i64 2, .int .i64 0, .int .i64 2, .int .i64 3, .int .i64 2, .int .i64 0, .int .i64 9, .int .i64 3, .int .i64 1] 55 (i64s G12) (lit_list [0, 0, 0, 2, 0, 2, 3, 2, 0, 9, 3, 1] 12 _ rfl rfl)) hj
  have F7 : Hid (Fen (w6.alloc (.cells #[.int .i64 0, .int .i64 0, .int .i64 0, .int .i64 2, .int .i64 0, .int .i64 2, .int .i64 3, .int .i64 2, .int .i64 0, .int .i64 9, .int .i64 3, .int .i64 1] 55)) w.heap.size p 4 f4) := F6.out.below ((Below.refl _ w6).alloc (Nat.le_refl _) _)
  have D7 : Hid (Below w.heap.size w (w6.alloc (.cells #[.int .i64 0, .int .i64 0, .int .i64 0, .int .i64 2, .int .i64 0, .int .i64 2, .int .i64 3, .int .i64 2, .int .i64 0, .int .i64 9, .int .i64 3, .int .i64 1] 55))) := D6.out.alloc D6.out.size _
  obtain ⟨w7, e7⟩ : ∃ w7, w7 = w6.alloc (.cells #[.int .i64 0, .int .i64 0, .int .i64 0, .int .i64 2, .int .i64 0, .int .i64 2, .int .i64 3, .int .i64 2, .int .i64 0, .int .i64 9, .int .i64 3, .int .i64 1] 55) := ⟨_, rfl⟩
  rw [← e7] at HC F7 D7 ⊢
  clear e7 F6 D6
  go_loopw [12] (fun i wr => ∃ k : Nat, k ≤ 4 ∧ i = .int .i64 k ∧ Hid (Drawn w7 wr)) (fun i _ => 4 - (intOf i).toNat)
  case atStart => exact ⟨0, Nat.zero_le _, rfl, Drawn.refl _⟩
  case round =>
    obtain ⟨k, hk, rfl, hD⟩ := hrel
    by_cases hlt : k < 4
    · have hcase : k = 0 ∨ k = 1 ∨ k = 2 ∨ k = 3 := by omega
      clear hk hlt
      rcases hcase with rfl | rfl | rfl | rfl
      · have d0 := (hD.out.cell ⟨w6.heap.size, 0, none⟩).trans (HC.out 0 (by omega))
        have d1 := (hD.out.cell ⟨w6.heap.size, 1, none⟩).trans (HC.out 1 (by omega))
        have d2 := (hD.out.cell ⟨w6.heap.size, 2, none⟩).trans (HC.out 2 (by omega))
        simp only [i64s, G12, List.getD_cons_zero, List.getD_cons_succ] at d0 d1 d2
        go_wp2_with fail
        refine (fFind_ok wr _ p 4 f4 (F7.out.drawn hD.out) 0 (by omega) 0 (by omega) (by decide) (by decide)).mono ?_
        rintro e w8 ⟨rfl, hd⟩
        have e0 := (hd.cell _).trans d0
        have e1 := (hd.cell _).trans d1
        have e2 := (hd.cell _).trans d2
        have hD8 := Lib.hid (hD.out.trans hd)
        rw [show (0 : Int) - psum f4 0 = 0 from by decide]
        clear d0 d1 d2 hd
        go_wp2_with fail
        go_roundw
        case rel => exact ⟨1, by omega, by first | rfl | go_num, hD8⟩
        case measure => simp [intOf]
      · have d0 := (hD.out.cell ⟨w6.heap.size, 3, none⟩).trans (HC.out 3 (by omega))
        have d1 := (hD.out.cell ⟨w6.heap.size, 4, none⟩).trans (HC.out 4 (by omega))
        have d2 := (hD.out.cell ⟨w6.heap.size, 5, none⟩).trans (HC.out 5 (by omega))
        simp only [i64s, G12, List.getD_cons_zero, List.getD_cons_succ] at d0 d1 d2
        go_wp2_with fail
        refine (fFind_ok wr _ p 4 f4 (F7.out.drawn hD.out) 2 (by omega) 0 (by omega) (by decide) (by decide)).mono ?_
        rintro e w8 ⟨rfl, hd⟩
        have e0 := (hd.cell _).trans d0
        have e1 := (hd.cell _).trans d1
        have e2 := (hd.cell _).trans d2
        have hD8 := Lib.hid (hD.out.trans hd)
        rw [show (2 : Int) - psum f4 0 = 2 from by decide]
        clear d0 d1 d2 hd
        go_wp2_with fail
        go_roundw
        case rel => exact ⟨2, by omega, by first | rfl | go_num, hD8⟩
        case measure => simp [intOf]
      · have d0 := (hD.out.cell ⟨w6.heap.size, 6, none⟩).trans (HC.out 6 (by omega))
        have d1 := (hD.out.cell ⟨w6.heap.size, 7, none⟩).trans (HC.out 7 (by omega))
        have d2 := (hD.out.cell ⟨w6.heap.size, 8, none⟩).trans (HC.out 8 (by omega))
        simp only [i64s, G12, List.getD_cons_zero, List.getD_cons_succ] at d0 d1 d2
        go_wp2_with fail
        refine (fFind_ok wr _ p 4 f4 (F7.out.drawn hD.out) 3 (by omega) 2 (by omega) (by decide) (by decide)).mono ?_
        rintro e w8 ⟨rfl, hd⟩
        have e0 := (hd.cell _).trans d0
        have e1 := (hd.cell _).trans d1
        have e2 := (hd.cell _).trans d2
        have hD8 := Lib.hid (hD.out.trans hd)
        rw [show (3 : Int) - psum f4 2 = 0 from by decide]
        clear d0 d1 d2 hd
        go_wp2_with fail
        go_roundw
        case rel => exact ⟨3, by omega, by first | rfl | go_num, hD8⟩
        case measure => simp [intOf]
      · have d0 := (hD.out.cell ⟨w6.heap.size, 9, none⟩).trans (HC.out 9 (by omega))
        have d1 := (hD.out.cell ⟨w6.heap.size, 10, none⟩).trans (HC.out 10 (by omega))
        have d2 := (hD.out.cell ⟨w6.heap.size, 11, none⟩).trans (HC.out 11 (by omega))
        simp only [i64s, G12, List.getD_cons_zero, List.getD_cons_succ] at d0 d1 d2
        go_wp2_with fail
        refine (fFind_ok wr _ p 4 f4 (F7.out.drawn hD.out) 9 (by omega) 3 (by omega) (by decide) (by decide)).mono ?_
        rintro e w8 ⟨rfl, hd⟩
        have e0 := (hd.cell _).trans d0
        have e1 := (hd.cell _).trans d1
        have e2 := (hd.cell _).trans d2
        have hD8 := Lib.hid (hD.out.trans hd)
        rw [show (9 : Int) - psum f4 3 = 1 from by decide]
        clear d0 d1 d2 hd
        go_wp2_with fail
        go_roundw
        case rel => exact ⟨4, by omega, by first | rfl | go_num, hD8⟩
        case measure => simp [intOf]
    · obtain rfl : k = 4 := by omega
      have F8 := Lib.hid (F7.out.drawn hD.out)
      have D8 := Lib.hid (D7.out.trans (hD.out.below _))
      clear hD F7 D7 HC hk hlt
      go_wp2_with fail
      refine (fFind_bad _ _ _ _ _ F8.out 10 (.inr (by decide))).mono ?_
      rintro e w' ⟨rfl, rfl⟩
      go_wp2_with fail
      refine (fSet_ok _ _ _ _ _ F8.out D8.out.size 1 (by omega) 4 (by omega) (by omega) (by decide)).mono ?_
      rintro e w9 ⟨rfl, h1, h2⟩
      have F9 := Lib.hid h1
      have D9 := Lib.hid (D8.out.trans h2)
      clear h1 h2 F8 D8
      go_wp2_with fail
      refine (fFind_ok _ _ _ _ _ F9.out 3 (by omega) 1 (by omega) (by decide) (by decide)).mono ?_
      rintro e w10 ⟨rfl, hd⟩
      have F10 := Lib.hid (F9.out.drawn hd)
      have D10 := Lib.hid (D9.out.trans (hd.below _))
      rw [show (3 : Int) - psum (setAt f4 1 4) 1 = 0 from by decide]
      clear hd F9 D9
      go_wp2_with fail
      refine (fnew_bad _ 1 1 f1 _ _ (Sees.lit w10 #[.int .i64 (-1)] _ _ 1 rfl (lit_list [-1] 1 _ rfl rfl)) f1_fits (by omega) (by decide)).mono ?_
      rintro e w' ⟨rfl, rfl⟩
      rw [show chk f1 1 = 12 from by decide]
      have F11 : Hid (Fen (w10.alloc (.cells #[.int .i64 (-1)] 2)) w.heap.size p 4 (setAt f4 1 4)) := F10.out.below ((Below.refl _ w10).alloc (Nat.le_refl _) _)
      have D11 : Hid (Below w.heap.size w (w10.alloc (.cells #[.int .i64 (-1)] 2))) := D10.out.alloc D10.out.size _
      obtain ⟨w11, e11⟩ : ∃ w11, w11 = w10.alloc (.cells #[.int .i64 (-1)] 2) := ⟨_, rfl⟩
      rw [← e11] at F11 D11 ⊢
      clear e11 F10 D10
      go_wp2_with fail
      refine (fnew_bad _ 3 3 f3 _ _ (Sees.lit w11 #[.int .i64 2305843009213693952, .int .i64 2305843009213693952, .int .i64 1] _ _ 3 rfl (lit_list [2305843009213693952, 2305843009213693952, 1] 3 _ rfl rfl)) f3_fits (by omega) (by decide)).mono ?_
      rintro e w' ⟨rfl, rfl⟩
      rw [show chk f3 3 = 13 from by decide]
      have F12 : Hid (Fen (w11.alloc (.cells #[.int .i64 2305843009213693952, .int .i64 2305843009213693952, .int .i64 1] 2)) w.heap.size p 4 (setAt f4 1 4)) := F11.out.below ((Below.refl _ w11).alloc (Nat.le_refl _) _)
      have D12 : Hid (Below w.heap.size w (w11.alloc (.cells #[.int .i64 2305843009213693952, .int .i64 2305843009213693952, .int .i64 1] 2))) := D11.out.alloc D11.out.size _
      obtain ⟨w12, e12⟩ : ∃ w12, w12 = w11.alloc (.cells #[.int .i64 2305843009213693952, .int .i64 2305843009213693952, .int .i64 1] 2) := ⟨_, rfl⟩
      rw [← e12] at F12 D12 ⊢
      clear e12 F11 D11
      go_wp2_with fail
      refine (ftotal_any _ _ _ _ _ F12.out).mono ?_
      rintro e w' ⟨rfl, rfl⟩
      rw [show psum (setAt f4 1 4) 4 = 14 from by decide]
      go_wp2_with fail
      go_ret
      exact ⟨rfl, D12.out⟩
end Go.Proofs.Ytemcfdjbniacnaa

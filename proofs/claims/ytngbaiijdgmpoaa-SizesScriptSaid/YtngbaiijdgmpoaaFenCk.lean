/-
  Contract of fenwicks.Check.
-/
import Derived.Test.YtngbaiijdgmpoaaRows
import Derived.Test.YtngbaiijdgmpoaaMem
import Derived.LoopTactic
namespace Go.Proofs.Ytngbaiijdgmpoaa
open Go.RowKit
set_option linter.unusedVariables false

set_option maxHeartbeats 800000 in
theorem fcheck_any (A : Option Addr) (n c : Nat) (l : Nat → Int) (w : World) (B : Nat) (hs : Sees w B A n (i64s l)) (hf : ∀ k, Fits (l k)) (hn : n ≤ 1000000000000000) :
    Calls Try.prog 35 #[.slice A n c] w fun e w' => e = .returned (.int .i64 (chk l n)) ∧ w = w' := by
  by_cases hbig : 4096 < n
  · go_enter Try.func35, Try.ntmps35
    go_wp2
    go_ret
    exact ⟨ret_int (by unfold chk; rw [if_pos hbig]), rfl⟩
  · have hfin : Hid (chk l n = chkTo l n) := by show chk l n = _; unfold chk; rw [if_neg hbig]
    have hle : n ≤ 4096 := by omega
    clear hbig
    go_enter Try.func35, Try.ntmps35
    go_wp2
    go_loop [3, 11] (fun s k => ∃ j : Nat, j ≤ n ∧ k = .int .i64 j ∧ s = .int .i64 (psum l j) ∧ Hid (chkTo l j = 0)) (fun _ k => n - (intOf k).toNat)
    case atStart => exact ⟨0, Nat.zero_le _, rfl, rfl, rfl⟩
    case round =>
      obtain ⟨j, hj, rfl, rfl, h0⟩ := hrel
      by_cases hlt : j < n
      · obtain ⟨b, o, rfl, hb, hcell⟩ := hs.at_ (k := j) hlt
        obtain ⟨p1, p2⟩ := psum_bd l h0.out
        obtain ⟨f1, f2⟩ := hf j
        rw [i64s_at] at hcell
        by_cases c1 : l j < 0
        · have H : Hid (chk l n = 12) := hfin.out.trans ((chkTo_stays l (by rw [chkTo_12 l h0.out (.inl c1)]; decide) hlt).trans (chkTo_12 l h0.out (.inl c1)))
          go_wp2
          go_ret
          exact ⟨ret_int H.out.symm, rfl⟩
        · by_cases c2 : 2305843009213693952 < l j
          · have H : Hid (chk l n = 12) := hfin.out.trans ((chkTo_stays l (by rw [chkTo_12 l h0.out (.inr c2)]; decide) hlt).trans (chkTo_12 l h0.out (.inr c2)))
            go_wp2
            go_ret
            exact ⟨ret_int H.out.symm, rfl⟩
          · by_cases c3 : 4611686018427387904 - psum l j < l j
            · have H : Hid (chk l n = 13) := hfin.out.trans ((chkTo_stays l (by rw [chkTo_13 l h0.out (by omega) (by omega) (by omega)]; decide) hlt).trans (chkTo_13 l h0.out (by omega) (by omega) (by omega)))
              go_wp2
              go_ret
              exact ⟨ret_int H.out.symm, rfl⟩
            · have H0 : Hid (chkTo l (j + 1) = 0) := chkTo_0 l h0.out (by omega) (by omega) (by omega)
              have H : Hid (psum l (j + 1) = psum l j + l j) := psum_succ l j
              go_wp2
              go_round
              case rel => exact ⟨j + 1, by omega, by go_num, by rw [H.out], H0⟩
              case measure => simp [intOf]; omega
      · obtain rfl : j = n := by omega
        have H : Hid (chk l j = 0) := hfin.out.trans h0.out
        go_wp2
        go_ret
        exact ⟨ret_int H.out.symm, rfl⟩

end Go.Proofs.Ytngbaiijdgmpoaa

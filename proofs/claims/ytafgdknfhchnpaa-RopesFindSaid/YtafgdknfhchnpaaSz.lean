/-
  Contracts of the reference's functions on lists of sizes: Check, Sum.
-/
import Derived.Test.YtafgdknfhchnpaaRows
import Derived.Test.YtafgdknfhchnpaaMem
import Derived.LoopTactic
namespace Go.Proofs.Ytafgdknfhchnpaa
open Go.RowKit

set_option maxHeartbeats 400000 in
theorem sum_any (A : Option Addr) (n c i : Nat) (l : Nat → Int) (x : Int) (w : World) (hx : x = (i : Int)) (B : Nat) (hs : Sees w B A n (i64s l)) (hi : i ≤ n) (hn : n ≤ 1000000000000000) (hc : chkTo l i = 0) :
    Calls Try.prog 35 #[.slice A n c, .int .i64 x] w fun e w' => e = .returned (.int .i64 (psum l i)) ∧ w = w' := by
  subst hx
  have HC := Lib.hid hc; clear hc
  go_enter Try.func35, Try.ntmps35
  go_wp2
  go_loop [5, 6] (fun s k => ∃ j : Nat, j ≤ i ∧ k = .int .i64 j ∧ s = .int .i64 (psum l j)) (fun _ k => i - (intOf k).toNat)
  case atStart => exact ⟨0, Nat.zero_le _, rfl, rfl⟩
  case round =>
    obtain ⟨j, hj, rfl, rfl⟩ := hrel
    by_cases hlt : j < i
    · obtain ⟨b, o, rfl, hb, hcell⟩ := hs.at_ (k := j) (by omega)
      obtain ⟨s0, s1, s2, s3⟩ := chkTo_step l (chkTo_zero l HC.out (show j + 1 ≤ i from hlt))
      obtain ⟨p1, p2⟩ := psum_bd l s0
      rw [i64s_at] at hcell
      clear s0
      have H : Hid (psum l (j + 1) = psum l j + l j) := psum_succ l j
      go_wp2
      go_round
      case rel => exact ⟨j + 1, by omega, by go_num, by rw [H.out]⟩
      case measure => simp [intOf]; omega
    · obtain rfl : j = i := by omega
      go_wp2
      go_ret
      exact ⟨rfl, rfl⟩

set_option maxHeartbeats 400000 in
theorem check_any (A : Option Addr) (n c : Nat) (l : Nat → Int) (w : World) (B : Nat) (hs : Sees w B A n (i64s l)) (hf : ∀ k, Fits (l k)) (hn : n ≤ 1000000000000000) :
    Calls Try.prog 10 #[.slice A n c] w fun e w' => e = .returned (.int .i64 (chk l n)) ∧ w = w' := by
  by_cases hbig : 4096 < n
  · go_enter Try.func10, Try.ntmps10
    go_wp2
    go_ret
    exact ⟨ret_int (by unfold chk; rw [if_pos hbig]), rfl⟩
  · have hfin : Hid (chk l n = chkTo l n) := by show chk l n = _; unfold chk; rw [if_neg hbig]
    have hle : n ≤ 4096 := by omega
    clear hbig
    go_enter Try.func10, Try.ntmps10
    go_wp2
    go_loop [3, 4] (fun s k => ∃ j : Nat, j ≤ n ∧ k = .int .i64 j ∧ s = .int .i64 (psum l j) ∧ Hid (chkTo l j = 0)) (fun _ k => n - (intOf k).toNat)
    case atStart => exact ⟨0, Nat.zero_le _, rfl, rfl, rfl⟩
    case round =>
      obtain ⟨j, hj, rfl, rfl, h0⟩ := hrel
      by_cases hlt : j < n
      · obtain ⟨b, o, rfl, hb, hcell⟩ := hs.at_ (k := j) hlt
        obtain ⟨p1, p2⟩ := psum_bd l h0.out
        obtain ⟨f1, f2⟩ := hf j
        rw [i64s_at] at hcell
        by_cases c1 : l j < 0
        · have H : Hid (chk l n = 12) := hfin.out.trans ((chkTo_stays l (by rw [chkTo_12 l h0.out (.inl c1)]; decide) hlt).trans (chkTo_12 l h0.out (.inl c1)))
          go_wp2
          go_ret
          exact ⟨ret_int H.out.symm, rfl⟩
        · by_cases c2 : 2305843009213693952 < l j
          · have H : Hid (chk l n = 12) := hfin.out.trans ((chkTo_stays l (by rw [chkTo_12 l h0.out (.inr c2)]; decide) hlt).trans (chkTo_12 l h0.out (.inr c2)))
            go_wp2
            go_ret
            exact ⟨ret_int H.out.symm, rfl⟩
          · by_cases c3 : 4611686018427387904 < psum l j + l j
            · have H : Hid (chk l n = 13) := hfin.out.trans ((chkTo_stays l (by rw [chkTo_13 l h0.out (by omega) (by omega) (by omega)]; decide) hlt).trans (chkTo_13 l h0.out (by omega) (by omega) (by omega)))
              go_wp2
              go_ret
              exact ⟨ret_int H.out.symm, rfl⟩
            · have H0 : Hid (chkTo l (j + 1) = 0) := chkTo_0 l h0.out (by omega) (by omega) (by omega)
              have H : Hid (psum l (j + 1) = psum l j + l j) := psum_succ l j
              go_wp2
              go_round
              case rel => exact ⟨j + 1, by omega, by go_num, by rw [H.out], H0⟩
              case measure => simp [intOf]; omega
      · obtain rfl : j = n := by omega
        go_wp2
        go_ret
        exact ⟨ret_int (hfin.out.trans h0.out).symm, rfl⟩
end Go.Proofs.Ytafgdknfhchnpaa

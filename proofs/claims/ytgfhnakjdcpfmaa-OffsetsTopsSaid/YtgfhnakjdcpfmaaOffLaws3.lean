/-
  The walk of the law OffsetsTops of layer 10.
-/
import Derived.Test.YtgfhnakjdcpfmaaRows
import Derived.Test.YtgfhnakjdcpfmaaMem
import Derived.Test.YtgfhnakjdcpfmaaMem2
import Derived.Test.YtgfhnakjdcpfmaaSz
import Derived.Test.YtgfhnakjdcpfmaaOffC
import Derived.Test.YtgfhnakjdcpfmaaOffE
import Derived.Outline
import Derived.Deep.QuietTactic
import Derived.BigQuiet
namespace Go.Proofs.Ytgfhnakjdcpfmaa
open Go.RowKit
set_option linter.unusedVariables false

theorem chkTo_small {l : Nat → Int} {n : Nat} (h : n ≤ 4096) : chk l n = chkTo l n := by unfold chk; rw [if_neg (by omega)]

set_option maxRecDepth 100000 in
set_option maxHeartbeats 1600000 in
theorem law_tops (A : Option Addr) (n c : Nat) (l : Nat → Int) (w : World) (hs : Sees w w.heap.size A n (i64s l)) (hf : ∀ k, Fits (l k)) (_ : n ≤ c) (_ : c ≤ maxLen) :
    Calls Try.prog 6 #[.slice A n c] w fun e w' => e = .returned (.bool true) ∧ Below w.heap.size w w' := by
  by_cases hbig : 60 < n
  · go_enter Try.func6, Try.ntmps6
    go_wp2_with fail
    refine (lives_yes _).mono ?_
    rintro e w2 ⟨rfl, hb2⟩
    go_wp2_with fail
    go_ret
    exact ⟨rfl, hb2⟩
  · have hle : n ≤ 60 := by omega
    clear hbig
    have HF := Lib.hid hf
    clear hf
    go_enter Try.func6, Try.ntmps6
    go_wp2_with fail
    refine (check_any A n c l w w.heap.size hs HF.out (by omega)).mono ?_
    rintro e w' ⟨rfl, rfl⟩
    go_wp2_with fail
    refine (tops_any A n c l w hs HF.out (by omega)).mono ?_
    rintro e w1 (⟨h0, g, rfl, hrow, hg, hb⟩ | ⟨h0, rfl, hb⟩)
    · have HC : Hid (chkTo l n = 0) := by show _ = _; rw [← chkTo_small (by omega)]; exact h0
      have hlt := hrow.lt
      have hs1 : Sees w1 w1.heap.size A n (i64s l) := (hs.below hb).more hb.size
      go_wp2_with fail
      clear h0
      go_loopw [6] (fun i wr => ∃ k : Nat, k ≤ n + 1 ∧ i = .int .i64 k ∧ Drawn w1 wr) (fun i _ => n + 1 - (intOf i).toNat)
      case atStart => exact ⟨0, Nat.zero_le _, rfl, Drawn.refl _⟩
      case round =>
        obtain ⟨k, hk, rfl, hd⟩ := hrel
        by_cases hlt' : k < n + 1
        · have hcell : wr.cell? ⟨g, k, none⟩ = some (.int .i64 (psum l k)) := (hd.cell _).trans (hrow.cell (i := k) hlt')
          have hki : (k : Int) < (n : Int) + 1 := by omega
          have hsw := hs1.drawn hd
          have HS : Hid (∀ m : Nat, Calls Try.prog 22 #[.slice A n c, .int .i64 k] (wr.drewN m) fun e w' => e = .returned (.int .i64 (psum l k)) ∧ wr.drewN m = w') :=
            fun m => sum_any A n c k l k _ rfl w1.heap.size hsw (by omega) (by omega) (chkTo_zero l HC.out (by omega))
          go_wp2_with fail
          go_quiet ((go_at_call 22; exact quiet_left' (HS.out _)))
          go_wp2_with fail
          go_roundw
          case rel => exact ⟨k + 1, by omega, by go_num, hd.drewN _⟩
          case measure => simp [intOf]; omega
        · obtain rfl : k = n + 1 := by omega
          go_wp2_with fail
          refine (lives_yes _).mono ?_
          rintro e w2 ⟨rfl, hb2⟩
          go_wp2_with fail
          go_ret
          exact ⟨rfl, (hb.trans ((hd.below _).mono (Nat.le_refl _))).trans (hb2.mono (by rw [hd.size]; exact hb.size))⟩
    · have hne : (chk l n != 0) = true := by rw [bne_iff_ne]; exact h0
      clear h0
      go_wp2_with fail
      refine (lives_yes _).mono ?_
      rintro e w2 ⟨rfl, hb2⟩
      go_wp2_with fail
      go_ret
      exact ⟨rfl, hb.trans (hb2.mono hb.size)⟩
end Go.Proofs.Ytgfhnakjdcpfmaa

/-
  The walk of the law FenwicksSums of layer 2.
-/
import Derived.Test.YtemcfdjbniacnaaFenLaws1
namespace Go.Proofs.Ytemcfdjbniacnaa
open Go.RowKit
set_option linter.unusedVariables false

set_option maxRecDepth 100000 in
set_option maxHeartbeats 6400000 in
theorem law_sums (A : Option Addr) (n c : Nat) (l : Nat → Int) (x : Int) (w : World) (hs : Sees w w.heap.size A n (i64s l)) (hf : ∀ k, Fits (l k)) (hnc : n ≤ c) (hc : c ≤ maxLen) (fx : Fits x) :
    Calls Try.prog 5 #[.slice A n c, .int .i64 x] w fun e w' => e = .returned (.bool true) ∧ Below w.heap.size w w' := by
  have HS := Lib.hid hs
  have HF := Lib.hid hf
  have HX := Lib.hid fx
  clear hs hf hnc hc fx
  by_cases hbig : 60 < n
  · go_enter Try.func5, Try.ntmps5
    go_wp2_with fail
    refine (lives2_yes _).mono ?_
    rintro e w2 ⟨rfl, hb2⟩
    have HB := Lib.hid hb2
    clear hb2
    go_wp2_with fail
    go_ret
    exact ⟨rfl, HB.out⟩
  have hn : n ≤ 60 := by omega
  by_cases hck : chk l n = 0
  case neg =>
    have hne : (chk l n != 0) = true := by rw [bne_iff_ne]; exact hck
    clear hck
    go_enter Try.func5, Try.ntmps5
    go_wp2_with fail
    refine (check_any A n c l w _ HS.out HF.out (by omega)).mono ?_
    rintro e w' ⟨rfl, rfl⟩
    go_wp2_with fail
    refine (lives2_yes _).mono ?_
    rintro e w2 ⟨rfl, hb2⟩
    have HB := Lib.hid hb2
    clear hb2
    go_wp2_with fail
    go_ret
    exact ⟨rfl, HB.out⟩
  have hckt : chkTo l n = 0 := by unfold chk at hck; rwa [if_neg (by omega)] at hck
  have HC := Lib.hid hck
  have HT := Lib.hid hckt
  have OK := Lib.hid (sizes_of_chk l n (by omega) hckt)
  clear hck hckt
  go_enter Try.func5, Try.ntmps5
  go_wp2_with fail
  refine (check_any A n c l w _ HS.out HF.out (by omega)).mono ?_
  rintro e w' ⟨rfl, rfl⟩
  rw [HC.out]
  go_wp2_with fail
  refine (fnew_ok A n c l w HS.out HF.out HC.out).mono ?_
  rintro e w1 ⟨p, rfl, hFe, hb⟩
  have F1 := Lib.hid hFe
  have D1 := Lib.hid hb
  have S1 := Lib.hid (HS.out.below hb)
  clear hFe hb
  go_wp2_with fail
  go_loop [7] (fun i => ∃ k : Nat, k ≤ n + 1 ∧ i = .int .i64 k) (fun i => n + 1 - (intOf i).toNat)
  case atStart => exact ⟨0, Nat.zero_le _, rfl⟩
  case round =>
    obtain ⟨k, hk, rfl⟩ := hrel
    by_cases hlt : k ≤ n
    · have HSu := Lib.hid (sum_any A n c k l k w1 rfl _ S1.out hlt (by omega) (chkTo_zero l HT.out hlt))
      have HFs := Lib.hid (fSum_ok w1 _ p n l F1.out k hlt)
      have HAt := Lib.hid (fAt_ok w1 _ p n l F1.out k)
      obtain ⟨v, hv⟩ : ∃ v, v = psum l k := ⟨_, rfl⟩
      rw [← hv] at HSu HFs
      clear hv
      by_cases h2 : k < n
      · obtain ⟨b, o, rfl, _, hc⟩ := S1.out.at_ h2
        rw [i64s_at] at hc
        go_wp2_with fail
        refine HFs.out.mono ?_
        rintro e w' ⟨rfl, rfl⟩
        go_wp2_with fail
        refine HSu.out.mono ?_
        rintro e w' ⟨rfl, rfl⟩
        go_wp2_with fail
        refine (HAt.out h2).mono ?_
        rintro e w' ⟨rfl, rfl⟩
        go_wp2_with fail
        go_round
        case rel => exact ⟨k + 1, by omega, by go_num⟩
        case measure => simp [intOf]; omega
      · obtain rfl : k = n := by omega
        go_wp2_with fail
        refine HFs.out.mono ?_
        rintro e w' ⟨rfl, rfl⟩
        go_wp2_with fail
        refine HSu.out.mono ?_
        rintro e w' ⟨rfl, rfl⟩
        go_wp2_with fail
        go_round
        case rel => exact ⟨k + 1, by omega, by go_num⟩
        case measure => simp [intOf]
    · obtain rfl : k = n + 1 := by omega
      have hx0 := HX.out
      obtain ⟨f1, f2⟩ := hx0
      by_cases q1 : x < 0
      · go_wp2_with fail
        refine (fSum_bad w1 _ p n l F1.out x (.inl q1)).mono ?_
        rintro e w' ⟨rfl, rfl⟩
        go_wp2_with fail
        refine (fAt_bad w1 _ p n l F1.out x (.inl q1)).mono ?_
        rintro e w' ⟨rfl, rfl⟩
        go_wp2_with fail
        refine (lives2_yes _).mono ?_
        rintro e w9 ⟨rfl, hb⟩
        have D9 := Lib.hid (D1.out.trans (hb.mono D1.out.size))
        clear hb
        go_wp2_with fail
        go_ret
        exact ⟨rfl, D9.out⟩
      obtain ⟨i, rfl⟩ : ∃ i : Nat, x = (i : Int) := ⟨x.toNat, by omega⟩
      by_cases q2 : i < n
      · go_wp2_with fail
        refine (fSum_ok w1 _ p n l F1.out i (by omega)).mono ?_
        rintro e w' ⟨rfl, rfl⟩
        go_wp2_with fail
        refine (fAt_ok w1 _ p n l F1.out i q2).mono ?_
        rintro e w' ⟨rfl, rfl⟩
        go_wp2_with fail
        refine (lives2_yes _).mono ?_
        rintro e w9 ⟨rfl, hb⟩
        have D9 := Lib.hid (D1.out.trans (hb.mono D1.out.size))
        clear hb
        go_wp2_with fail
        go_ret
        exact ⟨rfl, D9.out⟩
      by_cases q3 : i = n
      · subst q3
        go_wp2_with fail
        refine (fSum_ok w1 _ p _ l F1.out i (by omega)).mono ?_
        rintro e w' ⟨rfl, rfl⟩
        go_wp2_with fail
        refine (fAt_bad w1 _ p _ l F1.out i (.inr (by omega))).mono ?_
        rintro e w' ⟨rfl, rfl⟩
        go_wp2_with fail
        refine (lives2_yes _).mono ?_
        rintro e w9 ⟨rfl, hb⟩
        have D9 := Lib.hid (D1.out.trans (hb.mono D1.out.size))
        clear hb
        go_wp2_with fail
        go_ret
        exact ⟨rfl, D9.out⟩
      have q4 : (n : Int) < (i : Int) := by omega
      go_wp2_with fail
      refine (fSum_bad w1 _ p n l F1.out i (.inr q4)).mono ?_
      rintro e w' ⟨rfl, rfl⟩
      go_wp2_with fail
      refine (fAt_bad w1 _ p n l F1.out i (.inr (by omega))).mono ?_
      rintro e w' ⟨rfl, rfl⟩
      go_wp2_with fail
      refine (lives2_yes _).mono ?_
      rintro e w9 ⟨rfl, hb⟩
      have D9 := Lib.hid (D1.out.trans (hb.mono D1.out.size))
      clear hb
      go_wp2_with fail
      go_ret
      exact ⟨ret_bool (a := !decide (i ≤ n)) (by rw [decide_eq_false (show ¬ i ≤ n from by omega)]; rfl), D9.out⟩
end Go.Proofs.Ytemcfdjbniacnaa

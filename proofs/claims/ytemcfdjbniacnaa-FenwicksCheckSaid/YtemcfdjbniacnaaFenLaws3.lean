/-
  The walk of the law FenwicksCheck of layer 2.
-/
import Derived.Test.YtemcfdjbniacnaaFenLaws1
import Derived.Test.YtemcfdjbniacnaaFenF
namespace Go.Proofs.Ytemcfdjbniacnaa
open Go.RowKit
set_option linter.unusedVariables false

set_option maxRecDepth 100000 in
set_option maxHeartbeats 6400000 in
theorem law_check (A : Option Addr) (n c : Nat) (l : Nat → Int) (w : World) (hs : Sees w w.heap.size A n (i64s l)) (hf : ∀ k, Fits (l k)) (hnc : n ≤ c) (hc : c ≤ maxLen) :
    Calls Try.prog 6 #[.slice A n c] w fun e w' => e = .returned (.bool true) ∧ Below w.heap.size w w' := by
  have HS := Lib.hid hs
  have HF := Lib.hid hf
  clear hs hf hnc hc
  by_cases hbig : 100 < n
  · go_enter Try.func6, Try.ntmps6
    go_wp2_with fail
    refine (lives2_yes _).mono ?_
    rintro e w2 ⟨rfl, hb2⟩
    have HB := Lib.hid hb2
    clear hb2
    go_wp2_with fail
    go_ret
    exact ⟨rfl, HB.out⟩
  have hn : n ≤ 100 := by omega
  by_cases hck : chk l n = 0
  case neg =>
    have hne : (chk l n != 0) = true := by rw [bne_iff_ne]; exact hck
    have HN := Lib.hid hck
    clear hck
    go_enter Try.func6, Try.ntmps6
    go_wp2_with fail
    refine (check_any A n c l w _ HS.out HF.out (by omega)).mono ?_
    rintro e w' ⟨rfl, rfl⟩
    go_wp2_with fail
    refine (fnew_bad A n c l w _ HS.out HF.out (by omega) HN.out).mono ?_
    rintro e w' ⟨rfl, rfl⟩
    go_wp2_with fail
    refine (fcheck_any A n c l w _ HS.out HF.out (by omega)).mono ?_
    rintro e w' ⟨rfl, rfl⟩
    go_wp2_with fail
    refine (lives2_yes _).mono ?_
    rintro e w2 ⟨rfl, hb2⟩
    have HB := Lib.hid hb2
    clear hb2
    go_wp2_with fail
    go_ret
    exact ⟨rfl, HB.out⟩
  have hckt : chkTo l n = 0 := by unfold chk at hck; rwa [if_neg (by omega)] at hck
  have HC := Lib.hid hck
  have HT := Lib.hid hckt
  clear hck hckt
  go_enter Try.func6, Try.ntmps6
  go_wp2_with fail
  refine (check_any A n c l w _ HS.out HF.out (by omega)).mono ?_
  rintro e w' ⟨rfl, rfl⟩
  rw [HC.out]
  go_wp2_with fail
  refine (fnew_ok A n c l w HS.out HF.out HC.out).mono ?_
  rintro e w1 ⟨p, rfl, hFe, hb⟩
  have F1 := Lib.hid hFe
  have D1 := Lib.hid hb
  have S1 := Lib.hid (HS.out.below hb)
  clear hFe hb
  go_wp2_with fail
  refine (fcheck_any A n c l w1 _ S1.out HF.out (by omega)).mono ?_
  rintro e w' ⟨rfl, rfl⟩
  rw [HC.out]
  go_wp2_with fail
  refine (flen_any w1 _ p n l F1.out).mono ?_
  rintro e w' ⟨rfl, rfl⟩
  go_wp2_with fail
  refine (ftotal_any w1 _ p n l F1.out).mono ?_
  rintro e w' ⟨rfl, rfl⟩
  have HSu := Lib.hid (sum_any A n c n l n w1 rfl _ S1.out (Nat.le_refl n) (by omega) HT.out)
  obtain ⟨v, hv⟩ : ∃ v, v = psum l n := ⟨_, rfl⟩
  rw [← hv] at HSu ⊢
  clear hv
  go_wp2_with fail
  refine HSu.out.mono ?_
  rintro e w' ⟨rfl, rfl⟩
  go_wp2_with fail
  refine (fList_any w1 _ p n l F1.out).mono ?_
  rintro e w2 ⟨A2, rfl, hr, hb, _⟩
  have V2 : Hid (Sees w2 w2.heap.size A2 n (i64s l)) := by
    intro h0
    obtain ⟨g, rfl, _, hrow⟩ := hr h0
    exact Sees.row hrow (Nat.le_refl n) h0
  have S2 := Lib.hid (S1.out.below (hb.mono D1.out.size))
  have D2 := Lib.hid (D1.out.trans (hb.mono D1.out.size))
  clear hr hb
  go_wp2_with fail
  refine (same2_yes w2 A2 A n c _ _ l V2.out S2.out (by omega)).mono ?_
  rintro e w3 ⟨rfl, hd⟩
  have D3 := Lib.hid (D2.out.trans (hd.below _))
  clear hd
  go_wp2_with fail
  refine (lives2_yes _).mono ?_
  rintro e w4 ⟨rfl, hb⟩
  have D4 := Lib.hid (D3.out.trans (hb.mono D3.out.size))
  clear hb
  go_wp2_with fail
  go_ret
  exact ⟨rfl, D4.out⟩
end Go.Proofs.Ytemcfdjbniacnaa

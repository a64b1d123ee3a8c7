/-
  The walk of the law FenwicksFind of layer 2.
-/
import Derived.Test.YtemcfdjbniacnaaFenLives
import Derived.Test.YtemcfdjbniacnaaSz
import Derived.LoopTactic
namespace Go.Proofs.Ytemcfdjbniacnaa
open Go.RowKit
set_option linter.unusedVariables false

theorem place_exists (l : Nat → Int) (n : Nat) (x : Int) (h0 : 0 ≤ x) (h : x < psum l n) : ∃ i, i < n ∧ psum l i ≤ x ∧ x < psum l (i + 1) := by
  induction n with
  | zero => exact absurd h (by show ¬ x < 0; omega)
  | succ n ih =>
    by_cases c : x < psum l n
    · obtain ⟨i, h1, h2, h3⟩ := ih c
      exact ⟨i, by omega, h2, h3⟩
    · exact ⟨n, by omega, by omega, h⟩

set_option maxHeartbeats 800000 in
theorem refFind_any (A : Option Addr) (n c : Nat) (l : Nat → Int) (w : World) (B : Nat) (hs : Sees w B A n (i64s l)) (ok : Sizes l n) (x : Int) (i : Nat) (hi : i < n) (h1 : psum l i ≤ x) (h2 : x < psum l (i + 1)) :
    Calls Try.prog 14 #[.slice A n c, .int .i64 x] w fun e w' => e = .returned (.tuple #[.int .i64 i, .int .i64 (x - psum l i)]) ∧ w = w' := by
  have hn := ok.le
  have HO := Lib.hid ok
  have HS := Lib.hid hs
  have H1 := Lib.hid h1
  have H2 := Lib.hid h2
  have bx : x < 4611686018427387904 := by have := (ok.bd (a := i + 1) hi).2; omega
  clear hs ok h1 h2
  go_enter Try.func14, Try.ntmps14
  go_wp2_with fail
  go_loop [1, 6] (fun r k => ∃ (j : Nat) (y : Int), j ≤ i ∧ k = .int .i64 j ∧ r = .int .i64 y ∧ Hid (y = x - psum l j)) (fun _ k => i + 1 - (intOf k).toNat)
  case atStart => exact ⟨0, x, Nat.zero_le _, rfl, rfl, (by show x = x - 0; omega)⟩
  case round =>
    obtain ⟨j, y, hj, rfl, rfl, hy⟩ := hrel
    obtain ⟨b, o, rfl, _, hc⟩ := HS.out.at_ (k := j) (by omega)
    rw [i64s_at] at hc
    have p1 := HO.out.bd (a := j) (by omega)
    have p2 := HO.out.bd (a := j + 1) (by omega)
    have p3 := HO.out.nn j (by omega)
    have p4 := HO.out.mono (a := j) (b := i) hj (by omega)
    have hy' := hy.out
    have H1' := H1.out
    have H2' := H2.out
    rw [psum_succ] at p2
    have y1 : 0 ≤ y := by omega
    have y2 : y < 4611686018427387904 := by omega
    have y3 : l j ≤ 4611686018427387904 := by omega
    by_cases c1 : j = i
    · subst c1
      have lt : y < l j := by rw [psum_succ] at H2'; omega
      clear p1 p2 p4 hy' H1' H2'
      go_wp2_with fail
      go_ret2
      exact ⟨by rw [← hy.out]; rfl, rfl⟩
    · have p5 := HO.out.mono (a := j + 1) (b := i) (by omega) (by omega)
      rw [psum_succ] at p5
      have lt : ¬ y < l j := by omega
      have hy2 : Hid (y - l j = x - psum l (j + 1)) := by show _ = _; rw [psum_succ]; omega
      clear p1 p2 p4 p5 hy' H1' H2'
      go_wp2_with fail
      go_round
      case rel => exact ⟨j + 1, y - l j, by omega, by go_num, by go_num, hy2⟩
      case measure => simp [intOf]; omega

set_option maxRecDepth 100000 in
set_option maxHeartbeats 6400000 in
theorem law_find (A : Option Addr) (n c : Nat) (l : Nat → Int) (x : Int) (w : World) (hs : Sees w w.heap.size A n (i64s l)) (hf : ∀ k, Fits (l k)) (hnc : n ≤ c) (hc : c ≤ maxLen) (fx : Fits x) :
    Calls Try.prog 3 #[.slice A n c, .int .i64 x] w fun e w' => e = .returned (.bool true) ∧ Below w.heap.size w w' := by
  have HS := Lib.hid hs
  have HF := Lib.hid hf
  have HX := Lib.hid fx
  clear hs hf hnc hc fx
  by_cases hbig : 60 < n
  · go_enter Try.func3, Try.ntmps3
    go_wp2_with fail
    refine (lives2_yes _).mono ?_
    rintro e w2 ⟨rfl, hb2⟩
    have HB := Lib.hid hb2
    clear hb2
    go_wp2_with fail
    go_ret
    exact ⟨rfl, HB.out⟩
  have hn : n ≤ 60 := by omega
  by_cases hck : chk l n = 0
  case neg =>
    have hne : (chk l n != 0) = true := by rw [bne_iff_ne]; exact hck
    clear hck
    go_enter Try.func3, Try.ntmps3
    go_wp2_with fail
    refine (check_any A n c l w _ HS.out HF.out (by omega)).mono ?_
    rintro e w' ⟨rfl, rfl⟩
    go_wp2_with fail
    refine (lives2_yes _).mono ?_
    rintro e w2 ⟨rfl, hb2⟩
    have HB := Lib.hid hb2
    clear hb2
    go_wp2_with fail
    go_ret
    exact ⟨rfl, HB.out⟩
  have hckt : chkTo l n = 0 := by unfold chk at hck; rwa [if_neg (by omega)] at hck
  have HC := Lib.hid hck
  have HT := Lib.hid hckt
  have OK := Lib.hid (sizes_of_chk l n (by omega) hckt)
  clear hck hckt
  go_enter Try.func3, Try.ntmps3
  go_wp2_with fail
  refine (check_any A n c l w _ HS.out HF.out (by omega)).mono ?_
  rintro e w' ⟨rfl, rfl⟩
  rw [HC.out]
  go_wp2_with fail
  refine (fnew_ok A n c l w HS.out HF.out HC.out).mono ?_
  rintro e w1 ⟨p, rfl, hFe, hb⟩
  have F1 := Lib.hid hFe
  have D1 := Lib.hid hb
  have S1 := Lib.hid (HS.out.below hb)
  clear hFe hb
  go_wp2_with fail
  refine (sum_any A n c n l n w1 rfl _ S1.out (Nat.le_refl n) (by omega) HT.out).mono ?_
  rintro e w' ⟨rfl, rfl⟩
  obtain ⟨tot, htot⟩ : ∃ tot, tot = psum l n := ⟨_, rfl⟩
  rw [← htot]
  have hT := Lib.hid htot
  clear htot
  go_wp2_with fail
  by_cases bad : x < 0
  · refine (fFind_bad w1 _ p n l F1.out x (.inl bad)).mono ?_
    rintro e w' ⟨rfl, rfl⟩
    have hD0 : Hid (Drawn w1 w1) := Drawn.refl _
    go_wp2_with fail
    go_loopw [12] (fun i wr => ∃ k : Nat, k ≤ n ∧ i = .int .i64 k ∧ Hid (Drawn w1 wr)) (fun i _ => n - (intOf i).toNat)
    case atStart => exact ⟨0, Nat.zero_le _, by first | rfl | go_num, hD0⟩
    case round =>
      obtain ⟨k, hk, rfl, hD⟩ := hrel
      clear hD0
      by_cases hlt : k < n
      · obtain ⟨b, o, rfl, _, hc⟩ := (S1.out.drawn hD.out).at_ hlt
        rw [i64s_at] at hc
        have n0 := OK.out.nn k hlt
        have n1 := OK.out.bd (a := k) hk
        have n2 := OK.out.bd (a := k + 1) hlt
        rw [psum_succ] at n2
        by_cases lz : l k = 0
        · rw [lz] at hc
          clear n0 n1 n2
          go_wp2_with fail
          go_roundw
          case rel => exact ⟨k + 1, by omega, by go_num, hD⟩
          case measure => simp [intOf]; omega
        · have HFi : Hid (∀ W, Drawn w1 W → Calls Try.prog 13 #[.pointer (some ⟨p, 0, none⟩), .int .i64 (psum l k)] W fun e w' => e = .returned (.tuple #[.int .i64 k, .int .i64 0, .int .i64 0]) ∧ Drawn W w') := by
            intro W hW
            have := fFind_ok W _ p n l (F1.out.drawn hW) (psum l k) n1.1 k hlt (Int.le_refl _) (by rw [psum_succ]; omega)
            rwa [Int.sub_self] at this
          have HFj : Hid (∀ W, Drawn w1 W → Calls Try.prog 13 #[.pointer (some ⟨p, 0, none⟩), .int .i64 (psum l k + l k - 1)] W fun e w' => e = .returned (.tuple #[.int .i64 k, .int .i64 (l k - 1), .int .i64 0]) ∧ Drawn W w') := by
            intro W hW
            have := fFind_ok W _ p n l (F1.out.drawn hW) (psum l k + l k - 1) (by omega) k hlt (by omega) (by rw [psum_succ]; omega)
            rwa [show psum l k + l k - 1 - psum l k = l k - 1 from by omega] at this
          have HSu := Lib.hid (sum_any (some ⟨b, o, none⟩) n c k l k wr rfl _ (S1.out.drawn hD.out) hk (by omega) (chkTo_zero l HT.out hk))
          obtain ⟨top, htop⟩ : ∃ top, top = psum l k := ⟨_, rfl⟩
          rw [← htop] at HFi HFj HSu n1 n2
          clear htop
          obtain ⟨n10, n11⟩ := n1
          obtain ⟨n20, n21⟩ := n2
          go_wp2_with fail
          refine HSu.out.mono ?_
          rintro e w' ⟨rfl, rfl⟩
          go_wp2_with fail
          refine (HFi.out _ hD.out).mono ?_
          rintro e w5 ⟨rfl, hd5⟩
          have hD5 := Lib.hid (hD.out.trans hd5)
          have hc5 := (hd5.cell _).trans hc
          clear hd5
          go_wp2_with fail
          refine (HFj.out _ hD5.out).mono ?_
          rintro e w6 ⟨rfl, hd6⟩
          have hD6 := Lib.hid (hD5.out.trans hd6)
          have hc6 := (hd6.cell _).trans hc5
          clear hd6
          go_wp2_with fail
          go_roundw
          case rel => exact ⟨k + 1, by omega, by go_num, hD6⟩
          case measure => simp [intOf]; omega
      · obtain rfl : k = n := by omega
        have D8 := Lib.hid (D1.out.trans (hD.out.below _))
        clear hD
        go_wp2_with fail
        refine (lives2_yes _).mono ?_
        rintro e w9 ⟨rfl, hb⟩
        have D9 := Lib.hid (D8.out.trans (hb.mono D8.out.size))
        clear hb
        go_wp2_with fail
        go_ret
        exact ⟨rfl, D9.out⟩
  · by_cases bad2 : tot ≤ x
    · refine (fFind_bad w1 _ p n l F1.out x (.inr (by rw [← hT.out]; exact bad2))).mono ?_
      rintro e w' ⟨rfl, rfl⟩
      have hD0 : Hid (Drawn w1 w1) := Drawn.refl _
      go_wp2_with fail
      go_loopw [12] (fun i wr => ∃ k : Nat, k ≤ n ∧ i = .int .i64 k ∧ Hid (Drawn w1 wr)) (fun i _ => n - (intOf i).toNat)
      case atStart => exact ⟨0, Nat.zero_le _, by first | rfl | go_num, hD0⟩
      case round =>
        obtain ⟨k, hk, rfl, hD⟩ := hrel
        clear hD0
        by_cases hlt : k < n
        · obtain ⟨b, o, rfl, _, hc⟩ := (S1.out.drawn hD.out).at_ hlt
          rw [i64s_at] at hc
          have n0 := OK.out.nn k hlt
          have n1 := OK.out.bd (a := k) hk
          have n2 := OK.out.bd (a := k + 1) hlt
          rw [psum_succ] at n2
          by_cases lz : l k = 0
          · rw [lz] at hc
            clear n0 n1 n2
            go_wp2_with fail
            go_roundw
            case rel => exact ⟨k + 1, by omega, by go_num, hD⟩
            case measure => simp [intOf]; omega
          · have HFi : Hid (∀ W, Drawn w1 W → Calls Try.prog 13 #[.pointer (some ⟨p, 0, none⟩), .int .i64 (psum l k)] W fun e w' => e = .returned (.tuple #[.int .i64 k, .int .i64 0, .int .i64 0]) ∧ Drawn W w') := by
              intro W hW
              have := fFind_ok W _ p n l (F1.out.drawn hW) (psum l k) n1.1 k hlt (Int.le_refl _) (by rw [psum_succ]; omega)
              rwa [Int.sub_self] at this
            have HFj : Hid (∀ W, Drawn w1 W → Calls Try.prog 13 #[.pointer (some ⟨p, 0, none⟩), .int .i64 (psum l k + l k - 1)] W fun e w' => e = .returned (.tuple #[.int .i64 k, .int .i64 (l k - 1), .int .i64 0]) ∧ Drawn W w') := by
              intro W hW
              have := fFind_ok W _ p n l (F1.out.drawn hW) (psum l k + l k - 1) (by omega) k hlt (by omega) (by rw [psum_succ]; omega)
              rwa [show psum l k + l k - 1 - psum l k = l k - 1 from by omega] at this
            have HSu := Lib.hid (sum_any (some ⟨b, o, none⟩) n c k l k wr rfl _ (S1.out.drawn hD.out) hk (by omega) (chkTo_zero l HT.out hk))
            obtain ⟨top, htop⟩ : ∃ top, top = psum l k := ⟨_, rfl⟩
            rw [← htop] at HFi HFj HSu n1 n2
            clear htop
            obtain ⟨n10, n11⟩ := n1
            obtain ⟨n20, n21⟩ := n2
            go_wp2_with fail
            refine HSu.out.mono ?_
            rintro e w' ⟨rfl, rfl⟩
            go_wp2_with fail
            refine (HFi.out _ hD.out).mono ?_
            rintro e w5 ⟨rfl, hd5⟩
            have hD5 := Lib.hid (hD.out.trans hd5)
            have hc5 := (hd5.cell _).trans hc
            clear hd5
            go_wp2_with fail
            refine (HFj.out _ hD5.out).mono ?_
            rintro e w6 ⟨rfl, hd6⟩
            have hD6 := Lib.hid (hD5.out.trans hd6)
            have hc6 := (hd6.cell _).trans hc5
            clear hd6
            go_wp2_with fail
            go_roundw
            case rel => exact ⟨k + 1, by omega, by go_num, hD6⟩
            case measure => simp [intOf]; omega
        · obtain rfl : k = n := by omega
          have D8 := Lib.hid (D1.out.trans (hD.out.below _))
          clear hD
          go_wp2_with fail
          refine (lives2_yes _).mono ?_
          rintro e w9 ⟨rfl, hb⟩
          have D9 := Lib.hid (D8.out.trans (hb.mono D8.out.size))
          clear hb
          go_wp2_with fail
          go_ret
          exact ⟨rfl, D9.out⟩
    · obtain ⟨i, hi, q1, q2⟩ := place_exists l n x (by omega) (by rw [← hT.out]; omega)
      refine (fFind_ok w1 _ p n l F1.out x (by omega) i hi q1 q2).mono ?_
      rintro e w2 ⟨rfl, hd⟩
      have hD0 := Lib.hid hd
      have HRF := Lib.hid (refFind_any A n c l w2 _ (S1.out.drawn hd) OK.out x i hi q1 q2)
      obtain ⟨r, hr⟩ : ∃ r, r = x - psum l i := ⟨_, rfl⟩
      rw [← hr] at HRF ⊢
      clear hr q1 q2 hd
      go_wp2_with fail
      refine HRF.out.mono ?_
      rintro e w' ⟨rfl, rfl⟩
      go_wp2_with fail
      go_loopw [12] (fun i wr => ∃ k : Nat, k ≤ n ∧ i = .int .i64 k ∧ Hid (Drawn w1 wr)) (fun i _ => n - (intOf i).toNat)
      case atStart => exact ⟨0, Nat.zero_le _, by first | rfl | go_num, hD0⟩
      case round =>
        obtain ⟨k, hk, rfl, hD⟩ := hrel
        clear hD0
        by_cases hlt : k < n
        · obtain ⟨b, o, rfl, _, hc⟩ := (S1.out.drawn hD.out).at_ hlt
          rw [i64s_at] at hc
          have n0 := OK.out.nn k hlt
          have n1 := OK.out.bd (a := k) hk
          have n2 := OK.out.bd (a := k + 1) hlt
          rw [psum_succ] at n2
          by_cases lz : l k = 0
          · rw [lz] at hc
            clear n0 n1 n2
            go_wp2_with fail
            go_roundw
            case rel => exact ⟨k + 1, by omega, by go_num, hD⟩
            case measure => simp [intOf]; omega
          · have HFi : Hid (∀ W, Drawn w1 W → Calls Try.prog 13 #[.pointer (some ⟨p, 0, none⟩), .int .i64 (psum l k)] W fun e w' => e = .returned (.tuple #[.int .i64 k, .int .i64 0, .int .i64 0]) ∧ Drawn W w') := by
              intro W hW
              have := fFind_ok W _ p n l (F1.out.drawn hW) (psum l k) n1.1 k hlt (Int.le_refl _) (by rw [psum_succ]; omega)
              rwa [Int.sub_self] at this
            have HFj : Hid (∀ W, Drawn w1 W → Calls Try.prog 13 #[.pointer (some ⟨p, 0, none⟩), .int .i64 (psum l k + l k - 1)] W fun e w' => e = .returned (.tuple #[.int .i64 k, .int .i64 (l k - 1), .int .i64 0]) ∧ Drawn W w') := by
              intro W hW
              have := fFind_ok W _ p n l (F1.out.drawn hW) (psum l k + l k - 1) (by omega) k hlt (by omega) (by rw [psum_succ]; omega)
              rwa [show psum l k + l k - 1 - psum l k = l k - 1 from by omega] at this
            have HSu := Lib.hid (sum_any (some ⟨b, o, none⟩) n c k l k wr rfl _ (S1.out.drawn hD.out) hk (by omega) (chkTo_zero l HT.out hk))
            obtain ⟨top, htop⟩ : ∃ top, top = psum l k := ⟨_, rfl⟩
            rw [← htop] at HFi HFj HSu n1 n2
            clear htop
            obtain ⟨n10, n11⟩ := n1
            obtain ⟨n20, n21⟩ := n2
            go_wp2_with fail
            refine HSu.out.mono ?_
            rintro e w' ⟨rfl, rfl⟩
            go_wp2_with fail
            refine (HFi.out _ hD.out).mono ?_
            rintro e w5 ⟨rfl, hd5⟩
            have hD5 := Lib.hid (hD.out.trans hd5)
            have hc5 := (hd5.cell _).trans hc
            clear hd5
            go_wp2_with fail
            refine (HFj.out _ hD5.out).mono ?_
            rintro e w6 ⟨rfl, hd6⟩
            have hD6 := Lib.hid (hD5.out.trans hd6)
            have hc6 := (hd6.cell _).trans hc5
            clear hd6
            go_wp2_with fail
            go_roundw
            case rel => exact ⟨k + 1, by omega, by go_num, hD6⟩
            case measure => simp [intOf]; omega
        · obtain rfl : k = n := by omega
          have D8 := Lib.hid (D1.out.trans (hD.out.below _))
          clear hD
          go_wp2_with fail
          refine (lives2_yes _).mono ?_
          rintro e w9 ⟨rfl, hb⟩
          have D9 := Lib.hid (D8.out.trans (hb.mono D8.out.size))
          clear hb
          go_wp2_with fail
          go_ret
          exact ⟨rfl, D9.out⟩
end Go.Proofs.Ytemcfdjbniacnaa

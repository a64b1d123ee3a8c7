/-
  The law SpansCheck.
-/
import Derived.Test.YtglgkbocmnkokaaSpaLives
import Derived.Test.YtglgkbocmnkokaaSpaI
namespace Go.Proofs.Ytglgkbocmnkokaa
open Go.RowKit
set_option linter.unusedVariables false
set_option linter.unusedSimpArgs false

theorem ckFrom_rng : ∀ (L : Sp) (lo : Int), 0 ≤ ckFrom lo L ∧ ckFrom lo L ≤ 16
  | [], lo => by show (0 : Int) ≤ 0 ∧ (0 : Int) ≤ 16; omega
  | s :: r, lo => by
    have := ckFrom_rng r s.2
    unfold ckFrom
    split
    · omega
    · split <;> omega
theorem chkS_rng (L : Sp) : 0 ≤ chkS L ∧ chkS L ≤ 16 := by
  unfold chkS
  split
  · omega
  · exact ckFrom_rng L _
/-- pairs, then the reference's Check and Has. -/
theorem pairs_sees (w : World) (B : Nat) (A : Option Addr) (c : Nat) (L : Sp) (h : SeesP w B A L) (hB : B ≤ w.heap.size) (hn : L.length ≤ 100000) :
    Calls Try.prog 11 #[.slice A L.length c] w fun e w' => ∃ A' c', e = .returned (.slice A' L.length c') ∧ SeesP w' w'.heap.size A' L ∧ Below w.heap.size w w' := by
  refine (pairs_own w B A c L h hB hn).mono ?_
  rintro e w' ⟨A', c', rfl, O, hb, _⟩
  exact ⟨A', c', rfl, O.sees, hb⟩

set_option maxRecDepth 100000 in
set_option maxHeartbeats 3200000 in
theorem law_check (A : Option Addr) (n c : Nat) (L : Sp) (i : Int) (w : World) (s : SeesP w w.heap.size A L ∧ n = L.length) (hf : FitsS L) (hc : n ≤ c) (hM : c ≤ maxLen) (fi : Fits i) :
    Calls Try.prog 3 #[.slice A n c, .int .i64 i] w fun e w' => e = .returned (.bool true) ∧ Below w.heap.size w w' := by
  obtain ⟨hs, en⟩ := s
  have EN := Lib.hid en
  have HS := Lib.hid hs
  have HF := Lib.hid hf
  obtain ⟨f1, f2⟩ := fi
  have hm : n ≤ 9223372036854775807 := Nat.le_trans hc hM
  by_cases hbig : 40 < n
  · clear hs en hf hc hM
    go_enter Try.func3, Try.ntmps3
    go_wp2_with fail
    refine (lives_yes w).mono ?_
    rintro e w2 ⟨rfl, hb⟩
    have D := Lib.hid hb
    clear hb
    go_wp2_with fail
    go_ret
    exact ⟨rfl, D.out⟩
  · have K1 := Lib.hid (pairs_sees w w.heap.size A c L hs (Nat.le_refl _) (by omega))
    obtain ⟨x, ex⟩ : ∃ x, x = chkS L := ⟨_, rfl⟩
    obtain ⟨b, eb⟩ : ∃ x, x = anyS L i := ⟨_, rfl⟩
    have EX := Lib.hid ex
    have EB := Lib.hid eb
    have hxr : 0 ≤ x ∧ x ≤ 16 := by rw [ex]; exact chkS_rng L
    obtain ⟨hx0, hx1⟩ := hxr
    rw [← en] at K1
    clear hs en hf ex eb
    go_enter Try.func3, Try.ntmps3
    go_wp2_with fail
    refine (K1.out).mono ?_
    rintro e w1 ⟨A1, c1, rfl, s1, hb1⟩
    have D1 := Lib.hid hb1
    have K2 : Hid (Calls Try.prog 10 #[.slice A1 n c1] w1 fun e w' => e = .returned (.int .i64 x) ∧ Below w1.heap.size w1 w') := by
      rw [EN.out, EX.out]; exact refCheck_any w1 w1.heap.size A1 c1 L s1 (Nat.le_refl _) HF.out (by rw [← EN.out]; omega)
    clear s1 hb1 K1
    go_wp2_with fail
    refine (K2.out).mono ?_
    rintro e w2 ⟨rfl, hb2⟩
    have D2 : Hid (Below w.heap.size w w2) := D1.out.trans (hb2.mono D1.out.size)
    clear hb2 K2 D1
    go_wp2_with fail


    by_cases x0 : x = 0
    · subst x0
      have hN : NF L := (chkS_zero.1 EX.out.symm).1
      have HN := Lib.hid hN
      obtain ⟨t, et⟩ : ∃ t, t = cntS L := ⟨_, rfl⟩
      have ET : Hid (0 + cntS (L.drop 0) = t) := by rw [et]; show 0 + cntS L = cntS L; omega
      have EC : Hid (countS L = t) := by show countS L = t; unfold countS; rw [if_pos EX.out.symm, et]
      have ht1 : t ≤ 1073741824 + 1 := by
        have h1 := (NFfrom.cnt hN).2
        have h2 := NFfrom.end_le hN (by omega)
        omega
      clear hN et
      go_loopw [6, 7] (fun a i wr => ∃ (k : Nat) (m : Int), k ≤ n ∧ i = .int .i64 k ∧ a = .int .i64 m ∧ Hid (m + cntS (L.drop k) = t) ∧ 0 ≤ m ∧ Hid (Below w.heap.size w wr)) (fun _ i _ => n - (intOf i).toNat)
      case atStart => exact ⟨0, 0, Nat.zero_le _, rfl, rfl, ET, Int.le_refl _, D2⟩
      case round =>
        obtain ⟨k, m, hk, rfl, rfl, hC, hm0, hD⟩ := hrel
        clear D2 ET
        by_cases hlt : k < n
        · obtain ⟨b3, o, rfl, hb, c0, c1⟩ := SeesP.cells (HS.out.below hD.out) (k := k) (by rw [← EN.out]; exact hlt)
          have hkL : k < L.length := by rw [← EN.out]; exact hlt
          obtain ⟨m1, m2, m3, m4⟩ := NFfrom.mem HN.out _ (sg_mem L hkL)
          have hd : L.drop k = sg L k :: L.drop (k + 1) := by rw [sg_get L hkL]; exact List.drop_eq_getElem_cons hkL
          have hC' := hC.out
          rw [hd] at hC'
          obtain ⟨lo', hdn⟩ := NFfrom.drop HN.out (k + 1)
          have hpos := hdn.cnt.1
          have HC : Hid (m + ((sg L k).2 - (sg L k).1 + cntS (L.drop (k + 1))) = t) := hC'
          obtain ⟨x, hx⟩ : ∃ x, x = (sg L k).1 := ⟨_, rfl⟩
          obtain ⟨y, hy⟩ : ∃ y, y = (sg L k).2 := ⟨_, rfl⟩
          rw [← hx] at c0 HC m1 m2
          rw [← hy] at c1 HC m2 m4
          have hsum : m + (y - x) ≤ 1073741825 := by have := HC.out; omega
          have HC2 : Hid (m + (y - x) + cntS (L.drop (k + 1)) = t) := by show _ = _; have := HC.out; omega
          have hki : (k : Int) < (n : Int) := by omega
          have d1 : ∀ q, (wr.drewN q).cell? ⟨b3, o + k * 2 + 1, none⟩ = some (.int .i64 y) := fun _ => c1
          have hmp : 0 ≤ m + (y - x) := by omega
          clear hx hy hd hC hC' hkL m3 hdn hpos hb HC
          go_wp2_with fail
          go_quiet (fail)
          go_wp2_with fail
          go_roundw
          case rel => exact ⟨k + 1, m + (y - x), by omega, by go_num, rfl, HC2, hmp, hD.out.trans (((Drawn.refl _).drewN _).below _)⟩
          case measure => simp [intOf]; omega
        · obtain rfl : k = n := by omega
          have e : m = t := by
            have := hC.out
            rw [List.drop_of_length_le (by rw [← EN.out]; exact Nat.le_refl _)] at this
            rw [← this]; show m = m + 0; omega
          subst e
          have K4 : Hid (Calls Try.prog 12 #[.slice A k c] wr fun e w' => e = .returned (.int .i64 0) ∧ Below wr.heap.size wr w') := by
            have := check_any wr w.heap.size A c L (HS.out.below hD.out) hD.out.size HF.out (by rw [← EN.out]; omega)
            rwa [← EX.out, ← EN.out] at this
          go_wp2_with fail
          refine (K4.out).mono ?_
          rintro e w5 ⟨rfl, hb⟩
          have D5 : Hid (Below w.heap.size w w5) := hD.out.trans (hb.mono hD.out.size)
          have K5 : Hid (Calls Try.prog 13 #[.slice A k c, .int .i64 i] w5 fun e w' => e = .returned (.bool b) ∧ Below w5.heap.size w5 w') := by
            have := has_any w5 w.heap.size A c L i (HS.out.below D5.out) D5.out.size HF.out (by rw [← EN.out]; omega)
            unfold hasS at this
            rwa [← EX.out, ← EN.out, decide_eq_true rfl, Bool.true_and, ← EB.out] at this
          clear hb K4 hD
          go_wp2_with fail
          refine (K5.out).mono ?_
          rintro e w6 ⟨rfl, hb⟩
          have D6 : Hid (Below w.heap.size w w6) := D5.out.trans (hb.mono D5.out.size)
          have K6 : Hid (Calls Try.prog 11 #[.slice A k c] w6 fun e w' => ∃ A' c', e = .returned (.slice A' k c') ∧ SeesP w' w'.heap.size A' L ∧ Below w6.heap.size w6 w') := by
            have := pairs_sees w6 w.heap.size A c L (HS.out.below D6.out) D6.out.size (by rw [← EN.out]; omega)
            rwa [← EN.out] at this
          clear hb K5 D5
          go_wp2_with fail
          refine (K6.out).mono ?_
          rintro e w7 ⟨A7, c7, rfl, s7, hb⟩
          have D7 : Hid (Below w.heap.size w w7) := D6.out.trans (hb.mono D6.out.size)
          have K7 : Hid (Calls Try.prog 14 #[.slice A7 k c7, .int .i64 i] w7 fun e w' => e = .returned (.bool b) ∧ w7 = w') := by
            have := refHas_any w7 w7.heap.size A7 c7 L i s7 (by rw [← EN.out]; omega)
            rwa [← EN.out, ← EB.out] at this
          have K8 : Hid (Calls Try.prog 15 #[.slice A k c] w7 fun e w' => e = .returned (.int .i64 m) ∧ Below w7.heap.size w7 w') := by
            have := count_any w7 w.heap.size A c L (HS.out.below D7.out) D7.out.size HF.out (by rw [← EN.out]; omega)
            rwa [← EN.out, EC.out] at this
          clear hb K6 D6 s7
          go_wp2_with fail
          refine (K7.out).mono ?_
          rintro e w' ⟨rfl, rfl⟩
          go_wp2_with fail
          clear K7
          have hbb : (b == b) = true := by cases b <;> rfl
          go_wp2_with fail
          refine (K8.out).mono ?_
          rintro e w9 ⟨rfl, hb⟩
          have D9 : Hid (Below w.heap.size w w9) := D7.out.trans (hb.mono D7.out.size)
          clear hb K8 D7
          go_wp2_with fail
          refine (lives_yes w9).mono ?_
          rintro e w10 ⟨rfl, hb⟩
          have D10 : Hid (Below w.heap.size w w10) := D9.out.trans (hb.mono D9.out.size)
          clear hb D9
          go_wp2_with fail
          go_ret
          exact ⟨rfl, D10.out⟩
    · have hx2 : 0 < x := by omega
      go_loopw [6, 7] (fun a i wr => i = .int .i64 0 ∧ a = .int .i64 0 ∧ Hid (Below w.heap.size w wr)) (fun _ i _ => 0)
      case atStart => exact ⟨rfl, rfl, D2⟩
      case round =>
        obtain ⟨rfl, rfl, hD⟩ := hrel
        clear D2
        have K4 : Hid (Calls Try.prog 12 #[.slice A n c] wr fun e w' => e = .returned (.int .i64 x) ∧ Below wr.heap.size wr w') := by
          have := check_any wr w.heap.size A c L (HS.out.below hD.out) hD.out.size HF.out (by rw [← EN.out]; omega)
          rwa [← EX.out, ← EN.out] at this
        have xe : decide (x = 0) = false := decide_eq_false x0
        have xe2 : (x == 0) = false := by rw [beq_eq_false_iff_ne]; exact x0
        by_cases hn0 : 0 < n
        all_goals
          go_wp2_with fail
          refine (K4.out).mono ?_
          rintro e w5 ⟨rfl, hb⟩
          have D5 : Hid (Below w.heap.size w w5) := hD.out.trans (hb.mono hD.out.size)
          have K5 : Hid (Calls Try.prog 13 #[.slice A n c, .int .i64 i] w5 fun e w' => e = .returned (.bool false) ∧ Below w5.heap.size w5 w') := by
            have := has_any w5 w.heap.size A c L i (HS.out.below D5.out) D5.out.size HF.out (by rw [← EN.out]; omega)
            unfold hasS at this
            rwa [← EX.out, ← EN.out, xe, Bool.false_and] at this
          clear hb K4 hD
          go_wp2_with fail
          refine (K5.out).mono ?_
          rintro e w7 ⟨rfl, hb⟩
          have D7 : Hid (Below w.heap.size w w7) := D5.out.trans (hb.mono D5.out.size)
          have K8 : Hid (Calls Try.prog 15 #[.slice A n c] w7 fun e w' => e = .returned (.int .i64 0) ∧ Below w7.heap.size w7 w') := by
            have := count_any w7 w.heap.size A c L (HS.out.below D7.out) D7.out.size HF.out (by rw [← EN.out]; omega)
            unfold countS at this
            rwa [← EN.out, ← EX.out, if_neg x0] at this
          clear hb K5 D5
          go_wp2_with fail
          refine (K8.out).mono ?_
          rintro e w9 ⟨rfl, hb⟩
          have D9 : Hid (Below w.heap.size w w9) := D7.out.trans (hb.mono D7.out.size)
          clear hb K8 D7
          go_wp2_with fail
          refine (lives_yes w9).mono ?_
          rintro e w10 ⟨rfl, hb⟩
          have D10 : Hid (Below w.heap.size w w10) := D9.out.trans (hb.mono D9.out.size)
          clear hb D9
          go_wp2_with fail
          go_ret
          exact ⟨rfl, D10.out⟩
end Go.Proofs.Ytglgkbocmnkokaa

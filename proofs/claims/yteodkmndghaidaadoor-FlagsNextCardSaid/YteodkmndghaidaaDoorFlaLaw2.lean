/-
  FlagsRank and FlagsNext, walked.
-/
import Derived.Test.YteodkmndghaidaaDoorFlaL
namespace Go.Proofs.YteodkmndghaidaaDoor
open Go.RowKit
set_option linter.unusedVariables false
set_option linter.unusedSimpArgs false


set_option maxRecDepth 100000 in
set_option maxHeartbeats 6400000 in
theorem law_rank (A : Option Addr) (n c : Nat) (l : List Bool) (k : Int) (w : World) (hs : n = l.length ∧ SeesF w w.heap.size A l) (hnc : n ≤ c) (hc : c ≤ maxLen) (fk : Fits k) (hT : Tab w) (h0 : 0 < w.heap.size) :
    Calls Tryd.prog 3 #[.slice A n c, .int .i64 k] w fun e w' => e = .returned (.bool true) ∧ Below w.heap.size w w' := by
  obtain ⟨rfl, hs⟩ := hs
  by_cases hbig : 200 < l.length
  · have KL := Lib.hid (lives_yes w hT h0)
    have HB : Hid (Below w.heap.size w w) := Below.refl _ w
    obtain ⟨n, en⟩ : ∃ n, n = l.length := ⟨_, rfl⟩
    rw [← en] at hbig ⊢
    clear hT h0 hs hnc hc en
    have hbi : (200 : Int) < (n : Int) := by omega
    go_enter Tryd.func3, Tryd.ntmps3
    go_wp2_with fail
    refine (KL.out).mono ?_
    rintro e w8 ⟨rfl, b8⟩
    have B8 := Lib.hid (HB.out.trans b8)
    clear b8 KL HB
    go_wp2_with fail
    go_ret
    exact ⟨rfl, B8.out⟩
  have hsm : l.length ≤ 200 := by omega
  have KM := Lib.hid (made_any w hT h0 A c _ l hs (Nat.le_refl _) (by omega))
  have HS := Lib.hid hs
  have H0 := Lib.hid h0
  obtain ⟨n, en⟩ : ∃ n, n = l.length := ⟨_, rfl⟩
  have EN := Lib.hid en
  rw [← en] at KM hsm hnc ⊢
  have hbi : ¬ (200 : Int) < (n : Int) := by omega
  have HNC := Lib.hid hnc
  clear hs hT h0 en hbig hnc hc
  go_enter Tryd.func3, Tryd.ntmps3
  go_wp2_with fail
  refine (KM.out).mono ?_
  rintro e w1 ⟨p, rfl, f1, f2, f3⟩
  have X1 : Hid (FX w w1 [(p, l)]) := FX.add (FX.start f3) f1 f2
  have HS1 := Lib.hid (HS.out.below f3)
  have KS := same_any w1 p l f1 A c _ HS1.out f3.size
  rw [← EN.out] at KS
  have KS := Lib.hid KS
  have HB1 := Lib.hid f3.size
  have KL := Lib.hid (lives_yes w1 f1.tab (Nat.lt_of_lt_of_le H0.out f3.size))
  clear f1 f2 f3 KM
  go_wp2_with fail
  refine (KS.out).mono ?_
  rintro e w' ⟨rfl, rfl⟩
  go_wp2_with fail
  clear KS
  go_loopw [7] (fun i wr => ∃ j : Nat, j ≤ n + 1 ∧ i = .int .i64 j ∧ Hid (w1 = wr)) (fun i _ => n + 1 - (intOf i).toNat)
  case atStart => exact ⟨0, Nat.zero_le _, rfl, rfl⟩
  case round =>
    obtain ⟨j, hj, rfl, hw⟩ := hrel
    have hwe := hw.out
    subst hwe
    clear hw
    have F := X1.out.get (.head _)
    by_cases hle : j ≤ n
    · have hji : (j : Int) ≤ (n : Int) := by omega
      have K1 := Lib.hid (fRank_ok w1 p l F j (by rw [← EN.out]; exact hle))
      have K2 := rRank_any w1 A c _ l HS1.out j (by rw [← EN.out]; exact hle) (by rw [← EN.out]; omega)
      rw [← EN.out] at K2
      have K2 := Lib.hid K2
      have K3 := Lib.hid (fcount_any w1 p l F)
      have q := cnt_mono (bt l) (show j ≤ l.length by rw [← EN.out]; exact hle)
      have q2 := cn_le l
      rw [← EN.out] at q2
      change cnt (bt l) j ≤ cn l at q
      by_cases hlt : j < n
      · obtain ⟨b, o, rfl, hb, hcell⟩ := HS1.out (by rw [← EN.out]; omega)
        have hc := hcell j (by rw [← EN.out]; exact hlt)
        rw [bvs_at] at hc
        have hjn : (j : Int) < (n : Int) := by omega
        cases hv : bt l j with
        | true =>
          rw [hv] at hc
          have K4 := Lib.hid (fSel_ok w1 p l F j hv)
          have q3 := cnt_mono (bt l) (show j + 1 ≤ l.length by rw [← EN.out]; exact hlt)
          rw [cnt_hit hv] at q3
          change cnt (bt l) j + 1 ≤ cn l at q3
          generalize cnt (bt l) j = x at *
          generalize cn l = y at *
          have hxy : ((x : Int) == (y : Int)) = false := by rw [beq_eq_false_iff_ne]; omega
          clear hcell F hv
          go_wp2_with fail
          refine (K1.out).mono ?_
          rintro e w' ⟨rfl, rfl⟩
          go_wp2_with fail
          refine (K2.out).mono ?_
          rintro e w' ⟨rfl, rfl⟩
          go_wp2_with fail
          refine (K4.out).mono ?_
          rintro e w' ⟨rfl, rfl⟩
          go_wp2_with fail
          refine (K3.out).mono ?_
          rintro e w' ⟨rfl, rfl⟩
          go_wp2_with fail
          go_roundw
          case rel => exact ⟨j + 1, by omega, by go_num, by first | rfl | exact trivial⟩
          case measure => simp [intOf]; omega
        | false =>
          rw [hv] at hc
          by_cases hxy : cnt (bt l) j < cn l
          · obtain ⟨t, t1, t2, t3⟩ := cnt_find hxy
            have K4 := fSel_ok w1 p l F t t2
            rw [t3] at K4
            have K4 := Lib.hid K4
            generalize cnt (bt l) j = x at *
            generalize cn l = y at *
            have hxy : ((x : Int) == (y : Int)) = false := by rw [beq_eq_false_iff_ne]; omega
            clear hcell F hv t1 t2 t3
            go_wp2_with fail
            refine (K1.out).mono ?_
            rintro e w' ⟨rfl, rfl⟩
            go_wp2_with fail
            refine (K2.out).mono ?_
            rintro e w' ⟨rfl, rfl⟩
            go_wp2_with fail
            refine (K4.out).mono ?_
            rintro e w' ⟨rfl, rfl⟩
            go_wp2_with fail
            refine (K3.out).mono ?_
            rintro e w' ⟨rfl, rfl⟩
            go_wp2_with fail
            go_roundw
            case rel => exact ⟨j + 1, by omega, by go_num, by first | rfl | exact trivial⟩
            case measure => simp [intOf]; omega
          · have e : cnt (bt l) j = cn l := by omega
            have K4 := fSel_bad w1 p l F (cn l) ⟨by omega, by omega⟩ (.inr (Int.le_refl _))
            rw [e] at K1 K2
            have K4 := Lib.hid K4
            generalize cn l = y at *
            clear hcell F hv e hxy q
            go_wp2_with fail
            refine (K1.out).mono ?_
            rintro e w' ⟨rfl, rfl⟩
            go_wp2_with fail
            refine (K2.out).mono ?_
            rintro e w' ⟨rfl, rfl⟩
            go_wp2_with fail
            refine (K4.out).mono ?_
            rintro e w' ⟨rfl, rfl⟩
            go_wp2_with fail
            refine (K3.out).mono ?_
            rintro e w' ⟨rfl, rfl⟩
            go_wp2_with fail
            go_roundw
            case rel => exact ⟨j + 1, by omega, by go_num, by first | rfl | exact trivial⟩
            case measure => simp [intOf]; omega
      · obtain rfl : j = n := by omega
        have e : cnt (bt l) j = cn l := by rw [EN.out]; rfl
        have K4 := fSel_bad w1 p l F (cn l) ⟨by omega, by omega⟩ (.inr (Int.le_refl _))
        rw [e] at K1 K2
        have K4 := Lib.hid K4
        generalize cn l = y at *
        clear F e q
        go_wp2_with fail
        refine (K1.out).mono ?_
        rintro e w' ⟨rfl, rfl⟩
        go_wp2_with fail
        refine (K2.out).mono ?_
        rintro e w' ⟨rfl, rfl⟩
        go_wp2_with fail
        refine (K4.out).mono ?_
        rintro e w' ⟨rfl, rfl⟩
        go_wp2_with fail
        refine (K3.out).mono ?_
        rintro e w' ⟨rfl, rfl⟩
        go_wp2_with fail
        go_roundw
        case rel => exact ⟨j + 1, by omega, by go_num, by first | rfl | exact trivial⟩
        case measure => simp [intOf]
    · have hji : ¬ (j : Int) ≤ (n : Int) := by omega
      have K3 := Lib.hid (fcount_any w1 p l F)
      have q2 := cn_le l
      rw [← EN.out] at q2
      by_cases hk0 : k < 0
      · have K1 := Lib.hid (fRank_bad w1 p l F k fk (.inl hk0))
        have K2 := Lib.hid (fSel_bad w1 p l F k fk (.inl hk0))
        clear F fk
        go_wp2_with fail
        refine (K1.out).mono ?_
        rintro e w' ⟨rfl, rfl⟩
        go_wp2_with fail
        refine (K2.out).mono ?_
        rintro e w' ⟨rfl, rfl⟩
        go_wp2_with fail
        refine (KL.out).mono ?_
        rintro e w8 ⟨rfl, b8⟩
        have B8 := Lib.hid (X1.out.below b8).bl
        clear b8 KL X1
        go_wp2_with fail
        go_ret
        exact ⟨rfl, B8.out⟩
      · by_cases hkn : (n : Int) < k
        · have K1 := Lib.hid (fRank_bad w1 p l F k fk (.inr (by rw [← EN.out]; exact hkn)))
          have K2 := Lib.hid (fSel_bad w1 p l F k fk (.inr (by omega)))
          clear F fk
          go_wp2_with fail
          refine (K1.out).mono ?_
          rintro e w' ⟨rfl, rfl⟩
          go_wp2_with fail
          refine (K2.out).mono ?_
          rintro e w' ⟨rfl, rfl⟩
          go_wp2_with fail
          refine (KL.out).mono ?_
          rintro e w8 ⟨rfl, b8⟩
          have B8 := Lib.hid (X1.out.below b8).bl
          clear b8 KL X1
          go_wp2_with fail
          go_ret
          exact ⟨rfl, B8.out⟩
        · obtain ⟨x, rfl⟩ : ∃ x : Nat, k = x := ⟨k.toNat, by omega⟩
          have K1 := Lib.hid (fRank_ok w1 p l F x (by rw [← EN.out]; omega))
          generalize cnt (bt l) x = y at K1
          by_cases hxc : x < cn l
          · obtain ⟨t, t1, t2, t3⟩ := cnt_find hxc
            have K2 := fSel_ok w1 p l F t t2
            rw [t3] at K2
            have K2 := Lib.hid K2
            generalize cn l = z at *
            have hxz : (x : Int) < (z : Int) := by omega
            clear F fk t1 t2 t3
            go_wp2_with fail
            refine (K1.out).mono ?_
            rintro e w' ⟨rfl, rfl⟩
            go_wp2_with fail
            refine (K2.out).mono ?_
            rintro e w' ⟨rfl, rfl⟩
            go_wp2_with fail
            refine (K3.out).mono ?_
            rintro e w' ⟨rfl, rfl⟩
            go_wp2_with fail
            refine (KL.out).mono ?_
            rintro e w8 ⟨rfl, b8⟩
            have B8 := Lib.hid (X1.out.below b8).bl
            clear b8 KL X1
            go_wp2_with fail
            go_ret
            exact ⟨rfl, B8.out⟩
          · have K2 := Lib.hid (fSel_bad w1 p l F x fk (.inr (by omega)))
            generalize cn l = z at *
            have hxz : ¬ (x : Int) < (z : Int) := by omega
            clear F fk
            go_wp2_with fail
            refine (K1.out).mono ?_
            rintro e w' ⟨rfl, rfl⟩
            go_wp2_with fail
            refine (K2.out).mono ?_
            rintro e w' ⟨rfl, rfl⟩
            go_wp2_with fail
            refine (K3.out).mono ?_
            rintro e w' ⟨rfl, rfl⟩
            go_wp2_with fail
            refine (KL.out).mono ?_
            rintro e w8 ⟨rfl, b8⟩
            have B8 := Lib.hid (X1.out.below b8).bl
            clear b8 KL X1
            go_wp2_with fail
            go_ret
            exact ⟨rfl, B8.out⟩

set_option maxRecDepth 100000 in
set_option maxHeartbeats 6400000 in
theorem law_next (A : Option Addr) (n c : Nat) (l : List Bool) (i : Int) (w : World) (hs : n = l.length ∧ SeesF w w.heap.size A l) (hnc : n ≤ c) (hc : c ≤ maxLen) (fi : Fits i) (hT : Tab w) (h0 : 0 < w.heap.size) :
    Calls Tryd.prog 4 #[.slice A n c, .int .i64 i] w fun e w' => e = .returned (.bool true) ∧ Below w.heap.size w w' := by
  obtain ⟨rfl, hs⟩ := hs
  by_cases hbig : 200 < l.length
  · have KL := Lib.hid (lives_yes w hT h0)
    have HB : Hid (Below w.heap.size w w) := Below.refl _ w
    obtain ⟨n, en⟩ : ∃ n, n = l.length := ⟨_, rfl⟩
    rw [← en] at hbig ⊢
    clear hT h0 hs hnc hc en
    have hbi : (200 : Int) < (n : Int) := by omega
    go_enter Tryd.func4, Tryd.ntmps4
    go_wp2_with fail
    refine (KL.out).mono ?_
    rintro e w8 ⟨rfl, b8⟩
    have B8 := Lib.hid (HB.out.trans b8)
    clear b8 KL HB
    go_wp2_with fail
    go_ret
    exact ⟨rfl, B8.out⟩
  have hsm : l.length ≤ 200 := by omega
  have KM := Lib.hid (made_any w hT h0 A c _ l hs (Nat.le_refl _) (by omega))
  have HS := Lib.hid hs
  have H0 := Lib.hid h0
  obtain ⟨n, en⟩ : ∃ n, n = l.length := ⟨_, rfl⟩
  have EN := Lib.hid en
  rw [← en] at KM hsm hnc ⊢
  have hbi : ¬ (200 : Int) < (n : Int) := by omega
  have HNC := Lib.hid hnc
  clear hs hT h0 en hbig hnc hc
  go_enter Tryd.func4, Tryd.ntmps4
  go_wp2_with fail
  refine (KM.out).mono ?_
  rintro e w1 ⟨p, rfl, f1, f2, f3⟩
  have X1 : Hid (FX w w1 [(p, l)]) := FX.add (FX.start f3) f1 f2
  have HS1 := Lib.hid (HS.out.below f3)
  have KS := same_any w1 p l f1 A c _ HS1.out f3.size
  rw [← EN.out] at KS
  have KS := Lib.hid KS
  have HB1 := Lib.hid f3.size
  have KL := Lib.hid (lives_yes w1 f1.tab (Nat.lt_of_lt_of_le H0.out f3.size))
  clear f1 f2 f3 KM
  go_wp2_with fail
  go_loopw [7] (fun v wr => (v = .int .i64 0 ∨ v = .int .i64 1 ∨ v = .int .i64 2) ∧ Hid (w1 = wr)) (fun v _ => 2 - (intOf v).toNat)
  case atStart => exact ⟨.inl rfl, rfl⟩
  case round =>
    obtain ⟨hv, hw⟩ := hrel
    have hwe := hw.out
    subst hwe
    clear hw
    have F := X1.out.get (.head _)
    rcases hv with rfl | rfl | rfl
    · by_cases hi0 : i < 0
      · have K1 := Lib.hid (fNext_bad w1 p l F i fi (.inl hi0) false)
        clear F
        go_wp2_with fail
        refine (K1.out).mono ?_
        rintro e w' ⟨rfl, rfl⟩
        go_wp2_with fail
        go_roundw
        case rel => exact ⟨.inr (.inl rfl), by first | rfl | exact trivial⟩
        case measure => simp [intOf]
      · by_cases hin : (n : Int) < i
        · have K1 := Lib.hid (fNext_bad w1 p l F i fi (.inr (by rw [← EN.out]; exact hin)) false)
          clear F
          go_wp2_with fail
          refine (K1.out).mono ?_
          rintro e w' ⟨rfl, rfl⟩
          go_wp2_with fail
          go_roundw
          case rel => exact ⟨.inr (.inl rfl), by first | rfl | exact trivial⟩
          case measure => simp [intOf]
        · obtain ⟨x, rfl⟩ : ∃ x : Nat, i = x := ⟨i.toNat, by omega⟩
          have K1 := Lib.hid (fNext_any w1 p l F x (by rw [← EN.out]; omega) false)
          have K2 := rNext_any w1 A c _ l HS1.out x (by rw [← EN.out]; omega) (by rw [← EN.out]; omega) false
          rw [← EN.out] at K1 K2
          have K2 := Lib.hid K2
          clear F
          go_wp2_with fail
          refine (K1.out).mono ?_
          rintro e w' ⟨h1, rfl⟩
          have H1 := Lib.hid h1
          clear h1
          have H1' := H1.out
          rcases H1' with ⟨t, rfl, a1, a2, a3, a4⟩ | ⟨rfl, a1⟩
          · have A1 := Lib.hid (And.intro a1 (And.intro a2 (And.intro a3 a4)))
            clear a3 a4 a1 H1 K1
            go_wp2_with fail
            refine (K2.out).mono ?_
            rintro e w' ⟨⟨s, rfl, c1, c2, c3, c4⟩ | ⟨rfl, c1⟩, rfl⟩
            · obtain rfl : s = t := by
                obtain ⟨a1, a2, a3, a4⟩ := A1.out
                rcases Nat.lt_trichotomy s t with d | d | d
                · rw [a4 s c1 d] at c3; exact absurd c3 (by decide)
                · exact d
                · rw [c4 t a1 d] at a3; exact absurd a3 (by decide)
              clear c1 c2 c3 c4 A1 K2
              have ht0 : ¬ (s : Int) < 0 := by omega
              go_wp2_with fail
              go_roundw
              case rel => exact ⟨.inr (.inl rfl), by first | rfl | exact trivial⟩
              case measure => simp [intOf]
            · obtain ⟨a1, a2, a3, a4⟩ := A1.out
              rw [c1 t a1 a2] at a3
              exact absurd a3 (by decide)
          · have A1 := Lib.hid a1
            clear a1 H1 K1
            go_wp2_with fail
            refine (K2.out).mono ?_
            rintro e w' ⟨⟨s, rfl, c1, c2, c3, c4⟩ | ⟨rfl, c1⟩, rfl⟩
            · rw [A1.out s c1 c2] at c3
              exact absurd c3 (by decide)
            · clear c1 A1 K2
              go_wp2_with fail
              go_roundw
              case rel => exact ⟨.inr (.inl rfl), by first | rfl | exact trivial⟩
              case measure => simp [intOf]
    · by_cases hi0 : i < 0
      · have K1 := Lib.hid (fNext_bad w1 p l F i fi (.inl hi0) true)
        clear F
        go_wp2_with fail
        refine (K1.out).mono ?_
        rintro e w' ⟨rfl, rfl⟩
        go_wp2_with fail
        go_roundw
        case rel => exact ⟨.inr (.inr rfl), by first | rfl | exact trivial⟩
        case measure => simp [intOf]
      · by_cases hin : (n : Int) < i
        · have K1 := Lib.hid (fNext_bad w1 p l F i fi (.inr (by rw [← EN.out]; exact hin)) true)
          clear F
          go_wp2_with fail
          refine (K1.out).mono ?_
          rintro e w' ⟨rfl, rfl⟩
          go_wp2_with fail
          go_roundw
          case rel => exact ⟨.inr (.inr rfl), by first | rfl | exact trivial⟩
          case measure => simp [intOf]
        · obtain ⟨x, rfl⟩ : ∃ x : Nat, i = x := ⟨i.toNat, by omega⟩
          have K1 := Lib.hid (fNext_any w1 p l F x (by rw [← EN.out]; omega) true)
          have K2 := rNext_any w1 A c _ l HS1.out x (by rw [← EN.out]; omega) (by rw [← EN.out]; omega) true
          rw [← EN.out] at K1 K2
          have K2 := Lib.hid K2
          clear F
          go_wp2_with fail
          refine (K1.out).mono ?_
          rintro e w' ⟨h1, rfl⟩
          have H1 := Lib.hid h1
          clear h1
          have H1' := H1.out
          rcases H1' with ⟨t, rfl, a1, a2, a3, a4⟩ | ⟨rfl, a1⟩
          · have A1 := Lib.hid (And.intro a1 (And.intro a2 (And.intro a3 a4)))
            clear a3 a4 a1 H1 K1
            go_wp2_with fail
            refine (K2.out).mono ?_
            rintro e w' ⟨⟨s, rfl, c1, c2, c3, c4⟩ | ⟨rfl, c1⟩, rfl⟩
            · obtain rfl : s = t := by
                obtain ⟨a1, a2, a3, a4⟩ := A1.out
                rcases Nat.lt_trichotomy s t with d | d | d
                · rw [a4 s c1 d] at c3; exact absurd c3 (by decide)
                · exact d
                · rw [c4 t a1 d] at a3; exact absurd a3 (by decide)
              clear c1 c2 c3 c4 A1 K2
              have ht0 : ¬ (s : Int) < 0 := by omega
              go_wp2_with fail
              go_roundw
              case rel => exact ⟨.inr (.inr rfl), by first | rfl | exact trivial⟩
              case measure => simp [intOf]
            · obtain ⟨a1, a2, a3, a4⟩ := A1.out
              rw [c1 t a1 a2] at a3
              exact absurd a3 (by decide)
          · have A1 := Lib.hid a1
            clear a1 H1 K1
            go_wp2_with fail
            refine (K2.out).mono ?_
            rintro e w' ⟨⟨s, rfl, c1, c2, c3, c4⟩ | ⟨rfl, c1⟩, rfl⟩
            · rw [A1.out s c1 c2] at c3
              exact absurd c3 (by decide)
            · clear c1 A1 K2
              go_wp2_with fail
              go_roundw
              case rel => exact ⟨.inr (.inr rfl), by first | rfl | exact trivial⟩
              case measure => simp [intOf]
    · by_cases hi0 : i < 0
      · have K1 := Lib.hid (fGet_bad w1 p l F i fi (.inl hi0))
        have K2 := Lib.hid (fSet_bad w1 p l F i fi (.inl hi0) true)
        clear F
        go_wp2_with fail
        refine (K1.out).mono ?_
        rintro e w' ⟨rfl, rfl⟩
        go_wp2_with fail
        refine (K2.out).mono ?_
        rintro e w' ⟨rfl, rfl⟩
        go_wp2_with fail
        refine (KS.out).mono ?_
        rintro e w' ⟨rfl, rfl⟩
        go_wp2_with fail
        refine (KL.out).mono ?_
        rintro e w8 ⟨rfl, b8⟩
        have B8 := Lib.hid (X1.out.below b8).bl
        clear b8 KL X1
        go_wp2_with fail
        go_ret
        exact ⟨rfl, B8.out⟩
      · by_cases hin : (n : Int) ≤ i
        · have K1 := Lib.hid (fGet_bad w1 p l F i fi (.inr (by rw [← EN.out]; exact hin)))
          have K2 := Lib.hid (fSet_bad w1 p l F i fi (.inr (by rw [← EN.out]; exact hin)) true)
          clear F
          go_wp2_with fail
          refine (K1.out).mono ?_
          rintro e w' ⟨rfl, rfl⟩
          go_wp2_with fail
          refine (K2.out).mono ?_
          rintro e w' ⟨rfl, rfl⟩
          go_wp2_with fail
          refine (KS.out).mono ?_
          rintro e w' ⟨rfl, rfl⟩
          go_wp2_with fail
          refine (KL.out).mono ?_
          rintro e w8 ⟨rfl, b8⟩
          have B8 := Lib.hid (X1.out.below b8).bl
          clear b8 KL X1
          go_wp2_with fail
          go_ret
          exact ⟨rfl, B8.out⟩
        · obtain ⟨x, rfl⟩ : ∃ x : Nat, i = x := ⟨i.toNat, by omega⟩
          have K1 := Lib.hid (fGet_ok w1 p l F x (by rw [← EN.out]; omega))
          obtain ⟨b, o, rfl, hb, hcell⟩ := HS1.out (by rw [← EN.out]; omega)
          have hc := hcell x (by rw [← EN.out]; omega)
          rw [bvs_at] at hc
          have hxn : (x : Int) < (n : Int) := by omega
          generalize bt l x = u at hc K1
          have hu : (u == u) = true := by cases u <;> rfl
          clear F hcell
          go_wp2_with fail
          refine (K1.out).mono ?_
          rintro e w' ⟨rfl, rfl⟩
          go_wp2_with fail
          refine (KL.out).mono ?_
          rintro e w8 ⟨rfl, b8⟩
          have B8 := Lib.hid (X1.out.below b8).bl
          clear b8 KL X1
          go_wp2_with fail
          go_ret
          exact ⟨rfl, B8.out⟩
end Go.Proofs.YteodkmndghaidaaDoor

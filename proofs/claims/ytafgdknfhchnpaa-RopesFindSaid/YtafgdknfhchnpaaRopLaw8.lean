/-
  The walk of the law RopesFind.
-/
import Derived.Test.YtafgdknfhchnpaaRopLS2
import Derived.Test.YtafgdknfhchnpaaRopK
import Derived.Test.YtafgdknfhchnpaaRopM
import Derived.Test.YtafgdknfhchnpaaRopN
import Derived.Test.YtafgdknfhchnpaaFenE
namespace Go.Proofs.Ytafgdknfhchnpaa
open Go.RowKit
set_option linter.unusedVariables false
set_option linter.unusedSimpArgs false

theorem fAt_L (w : World) (B p : Nat) (L : List Int) (h : Fen w B p L.length (lf L)) (x : Int) :
    Calls Try.prog 31 #[.pointer (some ⟨p, 0, none⟩), .int .i64 x] w fun e w' => e = .returned (.tuple #[.int .i64 (atVal L x), .int .i64 (atErr L x)]) ∧ w = w' := by
  unfold atVal atErr
  by_cases c : x < 0 ∨ (L.length : Int) ≤ x
  · rw [if_pos c, if_pos c]
    exact fAt_bad w B p _ _ h x c
  · rw [if_neg c, if_neg c]
    obtain ⟨k, rfl⟩ : ∃ k : Nat, x = (k : Int) := ⟨x.toNat, by omega⟩
    rw [Int.toNat_natCast]
    exact fAt_ok w B p _ _ h k (by omega)
theorem fSum_L (w : World) (B p : Nat) (L : List Int) (h : Fen w B p L.length (lf L)) (x : Int) :
    Calls Try.prog 32 #[.pointer (some ⟨p, 0, none⟩), .int .i64 x] w fun e w' => e = .returned (.tuple #[.int .i64 (sumVal L x), .int .i64 (sumErr L x)]) ∧ w = w' := by
  unfold sumVal sumErr
  by_cases c : x < 0 ∨ (L.length : Int) < x
  · rw [if_pos c, if_pos c]
    exact fSum_bad w B p _ _ h x c
  · rw [if_neg c, if_neg c]
    obtain ⟨k, rfl⟩ : ∃ k : Nat, x = (k : Int) := ⟨x.toNat, by omega⟩
    rw [Int.toNat_natCast]
    exact fSum_ok w B p _ _ h k (by omega)
theorem place_ex (l : Nat → Int) (x : Int) (h0 : 0 ≤ x) : ∀ n, x < psum l n → ∃ i, i < n ∧ psum l i ≤ x ∧ x < psum l (i + 1)
  | 0, h => absurd h (by show ¬ x < 0; omega)
  | n + 1, h => by
    by_cases c : x < psum l n
    · obtain ⟨i, h1, h2, h3⟩ := place_ex l x h0 n c
      exact ⟨i, by omega, h2, h3⟩
    · exact ⟨n, by omega, by omega, h⟩
theorem place_of {L : List Int} {x : Int} {i : Nat} (hi : i < L.length) (h1 : psum (lf L) i ≤ x) (h2 : x < psum (lf L) (i + 1)) : Place L x i (x - psum (lf L) i) := by
  rw [psum_lf _ _ (by omega)] at h1 h2 ⊢
  exact ⟨hi, h1, h2, rfl⟩
/-- Both Finds answer the same. -/
theorem find_both (L : List Int) (ok : LOk L) (x : Int) (fx : Fits x) : ∃ a b e : Int,
    (∀ w r, Rp w r L → Calls Try.prog 33 #[.agg #[.pointer r], .int .i64 x] w fun y w' => y = .returned (.tuple #[.int .i64 a, .int .i64 b, .int .i64 e]) ∧ Below w.heap.size w w') ∧
    (∀ w B p, Fen w B p L.length (lf L) → Calls Try.prog 34 #[.pointer (some ⟨p, 0, none⟩), .int .i64 x] w fun y w' => y = .returned (.tuple #[.int .i64 a, .int .i64 b, .int .i64 e]) ∧ Drawn w w') := by
  by_cases c : x < 0 ∨ L.sum ≤ x
  · refine ⟨0, 0, 4, fun w r hr => rfind_bad w r L hr ok x fx c, fun w B p hp => (fFind_bad w B p _ _ hp x (by rw [psum_lf_all]; exact c)).mono ?_⟩
    rintro y w' ⟨rfl, rfl⟩
    exact ⟨rfl, Drawn.refl _⟩
  · obtain ⟨i, h1, h2, h3⟩ := place_ex (lf L) x (by omega) L.length (by rw [psum_lf_all]; omega)
    exact ⟨(i : Nat), x - psum (lf L) i, 0, fun w r hr => rfind_ok w r L hr ok x i _ (place_of h1 h2 h3) (by omega) (by omega), fun w B p hp => fFind_ok w B p _ _ hp x (by omega) i h1 h2 h3⟩

set_option maxRecDepth 100000 in
set_option maxHeartbeats 6400000 in
theorem law_rfind (A : Option Addr) (n c : Nat) (l : Nat → Int) (g : Bool) (i x : Int) (w : World)
    (hs : Sees w w.heap.size A n (u8s l)) (hf : ∀ j, 0 ≤ l j ∧ l j ≤ 255) (hnc : n ≤ c) (hc : c ≤ maxLen) (fi : Fits i) (fx : Fits x) :
    Calls Try.prog 8 #[.agg #[.slice A n c, .bool g], .int .i64 i, .int .i64 x] w fun e w' => e = .returned (.bool true) ∧ Below w.heap.size w w' := by
  have B0 : Hid (Below w.heap.size w (w.alloc (.cells #[.slice A n c, .bool g] 35))) := (Below.refl _ w).alloc (Nat.le_refl _) _
  have K1 := Lib.hid (rOf_any (w.alloc (.cells #[.slice A n c, .bool g] 35)) A n c l g ((hs.below B0.out).more B0.out.size) (fun j _ => hf j) (by omega))
  have OL := Lib.hid (ROk.mk' l n g)
  obtain ⟨L, eL⟩ : ∃ L, L = rof l n g := ⟨_, rfl⟩
  rw [← eL] at K1 OL
  obtain ⟨nL, eN⟩ : ∃ n, n = L.length := ⟨_, rfl⟩
  have EL := Lib.hid eN
  have lL := OL.out.len
  rw [← eN] at K1 lL
  obtain ⟨fa, fb, fe, F1, F2⟩ := find_both L OL.out.ok x fx
  have HF1 := Lib.hid F1
  have HF2 := Lib.hid F2
  have FI := Lib.hid fi
  clear hs hf hnc hc eL eN F1 F2 fi fx
  go_enter Try.func8, Try.ntmps8
  go_wp2_with fail
  refine (K1.out).mono ?_
  rintro e w1 ⟨Al, cl, rfl, O1, hb1, hm1⟩
  have X1 : Hid (LS w w1 [] [(Al, L)]) := (LS.start (B0.out.trans (hb1.mono B0.out.size))).add (by rw [EL.out] at O1; exact O1.seesL)
  have hcl := O1.le
  have K2 := Lib.hid (of_R (X1.out.see (.head _)) OL.out (by rw [← EL.out]; exact hcl) hm1)
  rw [← EL.out] at K2
  clear O1 hb1 K1 B0 hm1 hcl
  go_wp2_with fail
  refine (K2.out).mono ?_
  rintro e w2 ⟨r, rfl, p1, hb⟩
  have X2 := Lib.hid ((X1.out.below hb).cons p1)
  have K3 := Lib.hid (fnew_ok Al L.length cl (lf L) _ (X2.out.see (.head _)) (lf_fits OL.out.fit) OL.out.ck)
  rw [← EL.out] at K3
  clear hb p1 K2 X1
  go_wp2_with fail
  refine (K3.out).mono ?_
  rintro e w3 ⟨p, rfl, hF, hb⟩
  have X3 := Lib.hid (X2.out.below hb)
  have F3 := Lib.hid (hF.less (Nat.zero_le _))
  have K4 := Lib.hid (flen_any w3 0 p nL (lf L) F3.out)
  have g1 := X3.out.get (.head _)
  have d1 := g1.c
  have K5 := Lib.hid (same_any w3 r Al L cl _ 0 0 rfl g1.r OL.out.ok (X3.out.see (.head _)) (Nat.le_refl _))
  rw [← EL.out] at K5
  clear hb hF K3 X2 g1
  go_wp2_with fail
  refine (K4.out).mono ?_
  rintro e w' ⟨rfl, rfl⟩
  go_wp2_with fail
  refine (K5.out).mono ?_
  rintro e w4 ⟨rfl, hb⟩
  have X4 := Lib.hid (X3.out.below hb)
  have F4 := Lib.hid (F3.out.below hb)
  have g1 := X4.out.get (.head _)
  have d2 := g1.c
  have K6 := Lib.hid (rat_any w4 r L g1.r OL.out.ok.len i FI.out)
  obtain ⟨v, hv⟩ : ∃ v, v = atVal L i := ⟨_, rfl⟩
  obtain ⟨ve, hve⟩ : ∃ v, v = atErr L i := ⟨_, rfl⟩
  rw [← hv, ← hve] at K6
  have HV := Lib.hid hv
  have HVE := Lib.hid hve
  clear hb K4 K5 X3 F3 g1 d1 hv hve
  go_wp2_with fail
  refine (K6.out).mono ?_
  rintro e w5 ⟨rfl, hb⟩
  have X5 := Lib.hid (X4.out.below hb)
  have F5 := Lib.hid (F4.out.below hb)
  have K7 := Lib.hid (fAt_L w5 0 p L (by rw [← EL.out]; exact F5.out) i)
  rw [← HV.out, ← HVE.out] at K7
  have g1 := X5.out.get (.head _)
  have d1 := g1.c
  clear hb K6 X4 F4 g1 d2 HV HVE
  go_wp2_with fail
  refine (K7.out).mono ?_
  rintro e w' ⟨rfl, rfl⟩
  go_wp2_with fail
  have g1 := X5.out.get (.head _)
  have K8 := Lib.hid (rsum_any w5 r L g1.r OL.out.ok i FI.out)
  obtain ⟨v2, hv⟩ : ∃ v, v = sumVal L i := ⟨_, rfl⟩
  obtain ⟨ve2, hve⟩ : ∃ v, v = sumErr L i := ⟨_, rfl⟩
  rw [← hv, ← hve] at K8
  have HV := Lib.hid hv
  have HVE := Lib.hid hve
  clear g1 K7 hv hve
  refine (K8.out).mono ?_
  rintro e w6 ⟨rfl, hb⟩
  have X6 := Lib.hid (X5.out.below hb)
  have F6 := Lib.hid (F5.out.below hb)
  have K9 := Lib.hid (fSum_L w6 0 p L (by rw [← EL.out]; exact F6.out) i)
  rw [← HV.out, ← HVE.out] at K9
  have g1 := X6.out.get (.head _)
  have d2 := g1.c
  have K10 := Lib.hid (HF1.out w6 r g1.r)
  clear hb K8 X5 F5 g1 d1 HV HVE
  go_wp2_with fail
  refine (K9.out).mono ?_
  rintro e w' ⟨rfl, rfl⟩
  go_wp2_with fail
  refine (K10.out).mono ?_
  rintro e w7 ⟨rfl, hb⟩
  have X7 := Lib.hid (X6.out.below hb)
  have F7 := Lib.hid (F6.out.below hb)
  have K11 := Lib.hid (HF2.out w7 0 p (by rw [← EL.out]; exact F7.out))
  clear hb K9 K10 X6 F6 d2
  go_wp2_with fail
  refine (K11.out).mono ?_
  rintro e w8 ⟨rfl, hd⟩
  have X8 := Lib.hid (X7.out.drawn hd)
  clear hd K11 X7 F7
  go_wp2_with fail
  go_loopw [18] (fun j wr => ∃ k : Nat, k ≤ nL ∧ j = .int .i64 k ∧ Hid (LS w wr [(w2.heap.size, r, L)] [(Al, L)])) (fun j _ => nL - (intOf j).toNat)
  case atStart => exact ⟨0, Nat.zero_le _, rfl, X8⟩
  case round =>
    obtain ⟨k, hk, rfl, hX⟩ := hrel
    clear X8
    by_cases hlt : k < nL
    · have hkL : k < L.length := by rw [← EL.out]; exact hlt
      have g1 := hX.out.get (.head _)
      have d1 := g1.c
      have KT := Lib.hid (sumL_any Al cl k L wr _ (hX.out.see (.head _)) OL.out.ok (by omega))
      rw [← EL.out] at KT
      have KS := Lib.hid (rsum_any wr r L g1.r OL.out.ok (k : Int) ⟨by omega, by omega⟩)
      have hsv : sumVal L (k : Int) = psum (lf L) k ∧ sumErr L (k : Int) = 0 := by
        unfold sumVal sumErr
        rw [if_neg (by omega), if_neg (by omega), Int.toNat_natCast]
        exact ⟨rfl, rfl⟩
      rw [hsv.1, hsv.2] at KS
      have hav : atVal L (k : Int) = lf L k ∧ atErr L (k : Int) = 0 := by
        unfold atVal atErr
        rw [if_neg (by omega), if_neg (by omega), Int.toNat_natCast]
        exact ⟨rfl, rfl⟩
      obtain ⟨b1, b2⟩ := OL.out.ok.lf_bd k hkL
      have HPL : Hid (0 < lf L k → Place L (psum (lf L) k) k 0) := fun h => by
        have := place_of (x := psum (lf L) k) hkL (Int.le_refl _) (by rw [psum_succ]; omega)
        rwa [Int.sub_self] at this
      have HPS : Hid (0 < lf L k → 0 ≤ psum (lf L) k ∧ psum (lf L) k < L.sum) := fun h => by
        have h1 := (OL.out.ok.psum_bd k (by omega)).1
        have h2 := sum_take_le OL.out.ok.nn (k + 1)
        rw [← psum_lf _ _ (by omega), psum_succ] at h2
        omega
      obtain ⟨z, hz⟩ : ∃ z, z = psum (lf L) k := ⟨_, rfl⟩
      obtain ⟨v, hv⟩ : ∃ v, v = lf L k := ⟨_, rfl⟩
      have HV := Lib.hid hv
      have HAV := Lib.hid hav
      rw [← hz] at KT KS HPL HPS
      rw [← hv] at b1 b2 HPL HPS
      clear g1 hz hv hav hsv hkL
      go_wp2_with fail
      refine (KT.out).mono ?_
      rintro e w' ⟨rfl, rfl⟩
      go_wp2_with fail
      refine (KS.out).mono ?_
      rintro e w9 ⟨rfl, hb⟩
      have Y1 := Lib.hid (hX.out.below hb)
      have g1 := Y1.out.get (.head _)
      have d2 := g1.c
      have KA := Lib.hid (rat_any w9 r L g1.r OL.out.ok.len (k : Int) ⟨by omega, by omega⟩)
      rw [HAV.out.1, HAV.out.2, ← HV.out] at KA
      clear hb g1 KT KS hX d1
      go_wp2_with fail
      refine (KA.out).mono ?_
      rintro e w10 ⟨rfl, hb⟩
      have Y2 := Lib.hid (Y1.out.below hb)
      have g1 := Y2.out.get (.head _)
      have d1 := g1.c
      obtain ⟨b, o, rfl, _, hcell⟩ := (Y2.out.see (.head _)).at_ (show k < L.length by rw [← EL.out]; exact hlt)
      rw [i64s_at, ← HV.out] at hcell
      have RR := Lib.hid g1.r
      clear hb g1 KA Y1 d2
      by_cases hv0 : 0 < v
      · have KF := Lib.hid (rfind_ok w10 r L RR.out OL.out.ok z k 0 (HPL.out hv0) (HPS.out hv0).1 (HPS.out hv0).2)
        go_wp2_with fail
        refine (KF.out).mono ?_
        rintro e w11 ⟨rfl, hb⟩
        have Y3 := Lib.hid (Y2.out.below hb)
        clear hb KF Y2 d1 hcell
        go_wp2_with fail
        go_roundw
        case rel => exact ⟨k + 1, by omega, by go_num, Y3⟩
        case measure => simp [intOf]; omega
      · go_wp2_with fail
        go_roundw
        case rel => exact ⟨k + 1, by omega, by go_num, Y2⟩
        case measure => simp [intOf]; omega
    · obtain rfl : k = nL := by omega
      go_wp2_with fail
      refine (lives_yes _).mono ?_
      rintro e w11 ⟨rfl, hb⟩
      have Y1 := Lib.hid (hX.out.below hb)
      clear hb
      go_wp2_with fail
      go_ret
      exact ⟨rfl, Y1.out.v.bl⟩
end Go.Proofs.Ytafgdknfhchnpaa

/-
  The walk of the law RopesSplit.
-/
import Derived.Test.YtafgdknfhchnpaaRopLS
namespace Go.Proofs.Ytafgdknfhchnpaa
open Go.RowKit
set_option linter.unusedVariables false
set_option linter.unusedSimpArgs false

theorem joinErr_split {L : List Int} (h : ROk L) (k : Nat) : joinErr (L.take k) (L.drop k) = 0 := by
  have e := congrArg List.sum (List.take_append_drop k L)
  have e2 := congrArg List.length (List.take_append_drop k L)
  rw [List.sum_append] at e
  rw [List.length_append] at e2
  have := h.ok.top
  have := h.len
  unfold joinErr
  rw [if_neg (by omega), if_neg (by omega)]
theorem joinTo_ok {L M : List Int} (hL : LOk L) (hM : LOk M) : LOk (if joinErr L M = 0 then L ++ M else []) := by
  by_cases c : joinErr L M = 0
  · rw [if_pos c]
    unfold joinErr at c
    by_cases q1 : 4096 < L.length + M.length
    · rw [if_pos q1] at c; exact absurd c (by decide)
    by_cases q2 : 4611686018427387904 - M.sum < L.sum
    · rw [if_neg q1, if_pos q2] at c; exact absurd c (by decide)
    refine ⟨fun x hx => ?_, by rw [List.length_append]; omega, by rw [List.sum_append]; omega⟩
    rcases List.mem_append.1 hx with h | h
    · exact hL.nn x h
    · exact hM.nn x h
  · rw [if_neg c]; exact LOk.nil
theorem sum_right (L M : List Int) (k : Nat) (hk : k ≤ M.length) : sumVal (L ++ M) ((L.length : Int) + k) = L.sum + psum (lf M) k ∧ sumErr (L ++ M) ((L.length : Int) + k) = 0 := by
  have h : ¬ ((L.length : Int) + k < 0 ∨ ((L ++ M).length : Int) < (L.length : Int) + k) := by rw [List.length_append]; omega
  unfold sumVal sumErr
  rw [if_neg h, if_neg h]
  refine ⟨?_, rfl⟩
  rw [show ((L.length : Int) + k).toNat = L.length + k from by omega, psum_lf _ _ (by rw [List.length_append]; omega), psum_lf _ _ hk, List.take_length_add_append, List.sum_append]
theorem sum_in (M : List Int) (k : Nat) (hk : k ≤ M.length) : sumVal M (k : Int) = psum (lf M) k ∧ sumErr M (k : Int) = 0 := by
  have h : ¬ ((k : Int) < 0 ∨ (M.length : Int) < (k : Int)) := by omega
  unfold sumVal sumErr
  rw [if_neg h, if_neg h, Int.toNat_natCast]
  exact ⟨rfl, rfl⟩



set_option maxRecDepth 100000 in
set_option maxHeartbeats 6400000 in
theorem law_split (A : Option Addr) (n c : Nat) (l : Nat → Int) (g : Bool) (A2 : Option Addr) (n2 c2 : Nat) (l2 : Nat → Int) (g2 : Bool) (i : Int) (w : World)
    (hs : Sees w w.heap.size A n (u8s l)) (hf : ∀ j, 0 ≤ l j ∧ l j ≤ 255) (hnc : n ≤ c) (hc : c ≤ maxLen) (hs2 : Sees w w.heap.size A2 n2 (u8s l2)) (hf2 : ∀ j, 0 ≤ l2 j ∧ l2 j ≤ 255) (hnc2 : n2 ≤ c2) (hc2 : c2 ≤ maxLen) (fi : Fits i) :
    Calls Try.prog 4 #[.agg #[.slice A n c, .bool g], .agg #[.slice A2 n2 c2, .bool g2], .int .i64 i] w fun e w' => e = .returned (.bool true) ∧ Below w.heap.size w w' := by
  obtain ⟨w0, e0⟩ : ∃ w0, w0 = (w.alloc (.cells #[.slice A n c, .bool g] 35)).alloc (.cells #[.slice A2 n2 c2, .bool g2] 35) := ⟨_, rfl⟩
  have B0 : Hid (Below w.heap.size w w0) := by rw [e0]; exact ((Below.refl _ w).alloc (Nat.le_refl _) _).alloc (by rw [World.size_alloc]; omega) _
  have lt0 : w.heap.size < w0.heap.size := by rw [e0, World.size_alloc, World.size_alloc]; omega
  have lt1 : w.heap.size + 1 < w0.heap.size := by rw [e0, World.size_alloc, World.size_alloc]; omega
  obtain ⟨c00, c01, c10, c11⟩ : w0.cell? ⟨w.heap.size, 0, none⟩ = some (.slice A n c) ∧ w0.cell? ⟨w.heap.size, 1, none⟩ = some (.bool g) ∧ w0.cell? ⟨w.heap.size + 1, 0, none⟩ = some (.slice A2 n2 c2) ∧ w0.cell? ⟨w.heap.size + 1, 1, none⟩ = some (.bool g2) := by
    rw [e0]; exact box2_cells w _ _ _ _ _ _
  have S0 : Hid (Below w0.heap.size w0 w0.drew) := (Below.refl _ _).drew
  have K1 := Lib.hid (rOf_any w0.drew A n c l g (((hs.below B0.out).more B0.out.size).drawn ⟨1, rfl⟩) (fun j _ => hf j) (by omega))
  have K2 : Hid (∀ W, Below w0.heap.size w0 W → _) := fun W (hW : Below w0.heap.size w0 W) => rOf_any W A2 n2 c2 l2 g2 ((((hs2.below B0.out).more B0.out.size).below hW).more hW.size) (fun j _ => hf2 j) (by omega)
  have OL := Lib.hid (ROk.mk' l n g)
  have OM := Lib.hid (ROk.mk' l2 n2 g2)
  obtain ⟨L, eL⟩ : ∃ L, L = rof l n g := ⟨_, rfl⟩
  obtain ⟨M, eM⟩ : ∃ M, M = rof l2 n2 g2 := ⟨_, rfl⟩
  rw [← eL] at K1 OL
  rw [← eM] at K2 OM
  have E0 := Lib.hid e0
  clear hs hs2 hf hf2 eL eM hnc hc hnc2 hc2 e0
  obtain ⟨fi1, fi2⟩ := fi
  have lL := OL.out.len
  have lM := OM.out.len
  obtain ⟨nL, eL⟩ : ∃ n, n = L.length := ⟨_, rfl⟩
  obtain ⟨nM, eM⟩ : ∃ n, n = M.length := ⟨_, rfl⟩
  have EL := Lib.hid eL
  have EM := Lib.hid eM
  rw [← eL] at K1 lL
  rw [← eM] at K2 lM
  clear eL eM
  go_enter Try.func4, Try.ntmps4
  go_wp2_with fail
  change Code.wp _ _ _ _ ((w.alloc _).alloc _)
  rw [← E0.out]
  refine wp_region_plan [(false, 0), (false, 2), (true, 1), (true, 3), (false, 4), (false, 5)] (Below w0.heap.size w0) (by kernel_rfl) (by kernel_rfl) (S0.out) _ (by simp only [pickH, List.getElem?_toArray, List.getElem?_cons_succ, List.getElem?_cons_zero]; rfl) ?_
  repeat (refine HWalk.step (fun K hK => ?_); first | (apply held_yes; (focus rfl); (focus (intro w' hw; obtain ⟨hc', hf'⟩ := below_cells hw; go_simp; rfl)); (go_simp; refine hK _ ?_; clear hK K)) | (refine ite_no (by decide) ?_; go_simp; refine hK _ ?_; clear hK K))
  refine HWalk.mark ?_
  go_wp2_with fail
  refine (K1.out).mono ?_
  rintro e w1 ⟨Al, cl, rfl, O1, hb1, hm1⟩
  have B1 : Hid (Below w0.heap.size w0 w1) := S0.out.trans hb1
  have P1 := Lib.hid O1
  have K2' := Lib.hid (K2.out w1 B1.out)
  clear hb1 O1 K1 K2
  go_wp2_with fail
  refine ⟨B1.out, ?_⟩
  repeat (refine HWalk.step (fun K hK => ?_); first | (apply held_yes; (focus rfl); (focus (intro w' hw; obtain ⟨hc', hf'⟩ := below_cells hw; go_simp; rfl)); (go_simp; refine hK _ ?_; clear hK K)) | (refine ite_no (by decide) ?_; go_simp; refine hK _ ?_; clear hK K))
  refine HWalk.mark ?_
  go_wp2_with fail
  refine (K2'.out).mono ?_
  rintro e w2 ⟨Am, cm, rfl, O2, hb2, hm2⟩
  have B2 : Hid (Below w0.heap.size w0 w2) := B1.out.trans (hb2.mono B1.out.size)
  have X2 : Hid (LS w w2 [] [(Am, M), (Al, L)]) := ((LS.start (B0.out.trans (B2.out.mono B0.out.size))).add (by have := (P1.out.below hb2); rw [EL.out] at this; exact this.seesL)).add (by rw [EM.out] at O2; exact O2.seesL)
  have hcl := P1.out.le
  have hcm := O2.le
  clear hb2 O2 K2' P1
  go_wp2_with fail
  refine ⟨B2.out, ?_⟩
  repeat (refine HWalk.step (fun K hK => ?_); first | (apply held_yes; (focus rfl); (focus (intro w' hw; obtain ⟨hc', hf'⟩ := below_cells hw; go_simp; rfl)); (go_simp; refine hK _ ?_; clear hK K)) | (refine ite_no (by decide) ?_; go_simp; refine hK _ ?_; clear hK K))
  have K3 := Lib.hid (of_R (X2.out.see (.tail _ (.head _))) OL.out (by rw [← EL.out]; exact hcl) hm1)
  rw [← EL.out] at K3
  have HH1 := Lib.hid hm1
  have HH2 := Lib.hid hm2
  have HC1 := Lib.hid hcl
  have HC2 := Lib.hid hcm
  obtain ⟨x, ex⟩ : ∃ x, x = joinErr L M := ⟨_, rfl⟩
  obtain ⟨W, eW⟩ : ∃ W, W = (if joinErr L M = 0 then L ++ M else []) := ⟨_, rfl⟩
  obtain ⟨nW, eN⟩ : ∃ n, n = W.length := ⟨_, rfl⟩
  have EX := Lib.hid ex
  have EW := Lib.hid eW
  have EN := Lib.hid eN
  have OW : Hid (LOk W) := by rw [eW]; exact joinTo_ok OL.out.ok OM.out.ok
  have HX : Hid (x = 0 → W = L ++ M) := fun h => by rw [eW, ← ex, if_pos h]
  have HB4 : Hid (x = 0 → ∀ k, k ≤ nM → L.sum + psum (lf M) k ≤ 4611686018427387904) := fun h k hk => by
    have h1 := OM.out.ok
    rw [psum_lf _ _ (by rw [← EM.out]; exact hk)]
    have h2 := sum_take_le h1.nn k
    rw [ex] at h
    unfold joinErr at h
    by_cases q1 : 4096 < L.length + M.length
    · rw [if_pos q1] at h; exact absurd h (by decide)
    by_cases q2 : 4611686018427387904 - M.sum < L.sum
    · rw [if_neg q1, if_pos q2] at h; exact absurd h (by decide)
    omega
  clear ex eW eN hm1 hm2 hcl hcm B1 B2 S0 c00 c01 c10 c11 lt0 lt1
  refine HWalk.done ?_
  go_wp2_with fail
  refine (K3.out).mono ?_
  rintro e w3 ⟨r, rfl, p1, hb⟩
  have X3 := Lib.hid ((X2.out.below hb).cons p1)
  have K4 := Lib.hid (of_R (X3.out.see (.head _)) OM.out (by rw [← EM.out]; exact HC2.out) HH2.out)
  rw [← EM.out] at K4
  clear hb p1 K3 X2
  go_wp2_with fail
  refine (K4.out).mono ?_
  rintro e w4 ⟨s, rfl, p1, hb⟩
  have X4 := Lib.hid ((X3.out.below hb).cons p1)
  have g1 := X4.out.get (.tail _ (.head _))
  have d1 := g1.c
  have HR := Lib.hid g1.r
  clear hb p1 g1 K4 X3
  by_cases hi : i < 0 ∨ (nL : Int) < i
  · have K5 := Lib.hid (rsplit_bad _ r L HR.out OL.out.ok i (by rw [← EL.out]; exact hi))
    clear HR
    go_wp2_with fail
    refine (K5.out).mono ?_
    rintro e w5 ⟨a, b, rfl, p1, p2, hb⟩
    have X5 := Lib.hid ((X4.out.below hb).cons2 p1 p2)
    have g1 := X5.out.get (.tail _ (.head _))
    have d1 := g1.c
    have K6 := Lib.hid (same_any _ a none [] 0 0 4 4 rfl g1.r LOk.nil (seesL_nil _ _) (Nat.zero_le _))
    clear hb p1 p2 g1 K5 X4
    by_cases i0 : i < 0
    · clear hi
      go_wp2_with fail
      refine (K6.out).mono ?_
      rintro e w5a ⟨rfl, hb⟩
      have X5a := Lib.hid (X5.out.below hb)
      have g1 := X5a.out.get (.head _)
      have d2 := g1.c
      have K7 := Lib.hid (same_any _ b none [] 0 0 4 4 rfl g1.r LOk.nil (seesL_nil _ _) (Nat.zero_le _))
      clear hb g1 K6 X5 d1
      go_wp2_with fail
      refine (K7.out).mono ?_
      rintro e wz ⟨rfl, hb⟩
      have XZ := Lib.hid ((X5a.out.below hb).sub (fun x hx => .tail _ (.tail _ hx)) (fun x h => h))
      clear hb K7 X5a d2
      go_wp2_with fail
      have KJ := Lib.hid (refJoin_any wz Al Am cl cm _ _ L M (XZ.out.see (.tail _ (.head _))) (XZ.out.see (.head _)) (Nat.le_refl _) (Nat.le_refl _) OL.out.ok OM.out.ok)
      rw [← EW.out, ← EX.out, ← EL.out, ← EM.out] at KJ
      unfold LPost at KJ
      rw [← EN.out] at KJ
      refine (KJ.out).mono ?_
      rintro e w6 ⟨Aw, cw, rfl, q1, hb, q2, q3, _⟩
      have X6 := Lib.hid ((XZ.out.below hb).add q1)
      have gr := X6.out.get (.tail _ (.head _))
      have gs := X6.out.get (.head _)
      have dr := gr.c
      have ds := gs.c
      have KK := Lib.hid (rjoin_any w6 r s L M gr.r gs.r OL.out.ok OM.out.ok)
      rw [← EW.out, ← EX.out] at KK
      clear hb gr gs KJ q1 q2 q3 XZ
      go_wp2_with fail
      refine (KK.out).mono ?_
      rintro e w7 ⟨c2, rfl, p1, hb⟩
      have X7 := Lib.hid ((X6.out.below hb).cons p1)
      have g1 := X7.out.get (.head _)
      have d1 := g1.c
      have K8 := Lib.hid (same_any _ c2 Aw W cw _ x x rfl g1.r OW.out (X7.out.see (.head _)) (Nat.le_refl _))
      rw [← EN.out] at K8
      clear hb p1 g1 KK X6 dr ds
      go_wp2_with fail
      refine (K8.out).mono ?_
      rintro e w8 ⟨rfl, hb⟩
      have X8 := Lib.hid (X7.out.below hb)
      have g1 := X8.out.get (.tail _ (.tail _ (.head _)))
      have d2 := g1.c
      have K9 := Lib.hid (same_any _ r Al L cl _ 0 0 rfl g1.r OL.out.ok (X8.out.see (.tail _ (.tail _ (.head _)))) (Nat.le_refl _))
      rw [← EL.out] at K9
      clear hb g1 K8 X7 d1
      go_wp2_with fail
      refine (K9.out).mono ?_
      rintro e w9 ⟨rfl, hb⟩
      have X9 := Lib.hid (X8.out.below hb)
      have g1 := X9.out.get (.tail _ (.head _))
      have d1 := g1.c
      have K10 := Lib.hid (same_any _ s Am M cm _ 0 0 rfl g1.r OM.out.ok (X9.out.see (.tail _ (.head _))) (Nat.le_refl _))
      rw [← EM.out] at K10
      clear hb g1 K9 X8 d2
      go_wp2_with fail
      refine (K10.out).mono ?_
      rintro e w10 ⟨rfl, hb⟩
      have X10 := Lib.hid ((X9.out.below hb).sub (qs' := []) (fun _ h => h) (fun _ h => nomatch h))
      clear hb K10 X9 d1
      go_wp2_with fail
      by_cases x0 : x = 0
      · subst x0
        go_loopw [22] (fun i wr => ∃ k : Nat, k ≤ nM ∧ i = .int .i64 k ∧ Hid (LS w wr [(w7.heap.size, c2, W), (w4.heap.size, s, M), (w3.heap.size, r, L)] [])) (fun i _ => nM - (intOf i).toNat)
        case atStart => exact ⟨0, Nat.zero_le _, rfl, X10⟩
        case round =>
          obtain ⟨k, hk, rfl, hX⟩ := hrel
          clear X10
          by_cases hlt : k < nM
          · have g1 := hX.out.get (.head _)
            have d1 := g1.c
            have KS := Lib.hid (rsum_any wr c2 W g1.r OW.out ((nL : Int) + k) ⟨by omega, by omega⟩)
            obtain ⟨v1, v2⟩ := sum_right L M k (by rw [← EM.out]; omega)
            rw [← HX.out rfl, ← EL.out] at v1 v2
            rw [v1, v2] at KS
            obtain ⟨b1, b2⟩ := OM.out.ok.psum_bd k (by rw [← EM.out]; omega)
            have b3 := OL.out.ok.sum0
            have b4 : L.sum + psum (lf M) k ≤ 4611686018427387904 := HB4.out rfl k (by omega)
            obtain ⟨z, hz⟩ : ∃ z, z = psum (lf M) k := ⟨_, rfl⟩
            obtain ⟨t, ht⟩ : ∃ t, t = L.sum := ⟨_, rfl⟩
            have HZ := Lib.hid hz
            have HT := Lib.hid ht
            rw [← hz, ← ht] at KS b4
            rw [← hz] at b1 b2
            rw [← ht] at b3
            clear g1 hz ht v1 v2
            go_wp2_with fail
            refine (KS.out).mono ?_
            rintro e w11 ⟨rfl, hb⟩
            have Y1 := Lib.hid (hX.out.below hb)
            have g1 := Y1.out.get (.tail _ (.head _))
            have d2 := g1.c
            have KT := Lib.hid (rsum_any w11 s M g1.r OM.out.ok (k : Int) ⟨by omega, by omega⟩)
            obtain ⟨v1, v2⟩ := sum_in M k (by rw [← EM.out]; omega)
            rw [v1, v2, ← HZ.out] at KT
            clear hb g1 KS d1 v1 v2 hX
            go_wp2_with fail
            refine (KT.out).mono ?_
            rintro e w12 ⟨rfl, hb⟩
            have Y2 := Lib.hid (Y1.out.below hb)
            have g1 := Y2.out.get (.tail _ (.tail _ (.head _)))
            have d1 := g1.c
            have KU := Lib.hid (rtotal_any w12 r L g1.r)
            rw [← HT.out] at KU
            clear hb g1 KT d2 Y1
            go_wp2_with fail
            refine (KU.out).mono ?_
            rintro e w13 ⟨rfl, hb⟩
            have Y3 := Lib.hid (Y2.out.below hb)
            clear hb KU d1 Y2
            go_wp2_with fail
            go_roundw
            case rel => exact ⟨k + 1, by omega, by go_num, Y3⟩
            case measure => simp [intOf]; omega
          · obtain rfl : k = nM := by omega
            go_wp2_with fail
            refine (lives_yes _).mono ?_
            rintro e w11 ⟨rfl, hb⟩
            have Y1 := Lib.hid (hX.out.below hb)
            clear hb
            go_wp2_with fail
            go_ret
            exact ⟨rfl, Y1.out.v.bl⟩
      · have xb : (x == 0) = false := by rw [beq_eq_false_iff_ne]; exact x0
        go_loopw [22] (fun i wr => i = .int .i64 0 ∧ wr = w10) (fun _ _ => 0)
        case atStart => exact ⟨rfl, rfl⟩
        case round =>
          obtain ⟨rfl, rfl⟩ := hrel
          by_cases hlt : 0 < nM
          · go_wp2_with fail
            refine (lives_yes _).mono ?_
            rintro e w11 ⟨rfl, hb⟩
            have Y1 := Lib.hid (X10.out.below hb)
            clear hb
            go_wp2_with fail
            go_ret
            exact ⟨rfl, Y1.out.v.bl⟩
          · obtain rfl : nM = 0 := by omega
            go_wp2_with fail
            refine (lives_yes _).mono ?_
            rintro e w11 ⟨rfl, hb⟩
            have Y1 := Lib.hid (X10.out.below hb)
            clear hb
            go_wp2_with fail
            go_ret
            exact ⟨rfl, Y1.out.v.bl⟩
    · have i1 : (nL : Int) < i := by omega
      clear hi
      go_wp2_with fail
      refine (K6.out).mono ?_
      rintro e w5a ⟨rfl, hb⟩
      have X5a := Lib.hid (X5.out.below hb)
      have g1 := X5a.out.get (.head _)
      have d2 := g1.c
      have K7 := Lib.hid (same_any _ b none [] 0 0 4 4 rfl g1.r LOk.nil (seesL_nil _ _) (Nat.zero_le _))
      clear hb g1 K6 X5 d1
      go_wp2_with fail
      refine (K7.out).mono ?_
      rintro e wz ⟨rfl, hb⟩
      have XZ := Lib.hid ((X5a.out.below hb).sub (fun x hx => .tail _ (.tail _ hx)) (fun x h => h))
      clear hb K7 X5a d2
      go_wp2_with fail
      have KJ := Lib.hid (refJoin_any wz Al Am cl cm _ _ L M (XZ.out.see (.tail _ (.head _))) (XZ.out.see (.head _)) (Nat.le_refl _) (Nat.le_refl _) OL.out.ok OM.out.ok)
      rw [← EW.out, ← EX.out, ← EL.out, ← EM.out] at KJ
      unfold LPost at KJ
      rw [← EN.out] at KJ
      refine (KJ.out).mono ?_
      rintro e w6 ⟨Aw, cw, rfl, q1, hb, q2, q3, _⟩
      have X6 := Lib.hid ((XZ.out.below hb).add q1)
      have gr := X6.out.get (.tail _ (.head _))
      have gs := X6.out.get (.head _)
      have dr := gr.c
      have ds := gs.c
      have KK := Lib.hid (rjoin_any w6 r s L M gr.r gs.r OL.out.ok OM.out.ok)
      rw [← EW.out, ← EX.out] at KK
      clear hb gr gs KJ q1 q2 q3 XZ
      go_wp2_with fail
      refine (KK.out).mono ?_
      rintro e w7 ⟨c2, rfl, p1, hb⟩
      have X7 := Lib.hid ((X6.out.below hb).cons p1)
      have g1 := X7.out.get (.head _)
      have d1 := g1.c
      have K8 := Lib.hid (same_any _ c2 Aw W cw _ x x rfl g1.r OW.out (X7.out.see (.head _)) (Nat.le_refl _))
      rw [← EN.out] at K8
      clear hb p1 g1 KK X6 dr ds
      go_wp2_with fail
      refine (K8.out).mono ?_
      rintro e w8 ⟨rfl, hb⟩
      have X8 := Lib.hid (X7.out.below hb)
      have g1 := X8.out.get (.tail _ (.tail _ (.head _)))
      have d2 := g1.c
      have K9 := Lib.hid (same_any _ r Al L cl _ 0 0 rfl g1.r OL.out.ok (X8.out.see (.tail _ (.tail _ (.head _)))) (Nat.le_refl _))
      rw [← EL.out] at K9
      clear hb g1 K8 X7 d1
      go_wp2_with fail
      refine (K9.out).mono ?_
      rintro e w9 ⟨rfl, hb⟩
      have X9 := Lib.hid (X8.out.below hb)
      have g1 := X9.out.get (.tail _ (.head _))
      have d1 := g1.c
      have K10 := Lib.hid (same_any _ s Am M cm _ 0 0 rfl g1.r OM.out.ok (X9.out.see (.tail _ (.head _))) (Nat.le_refl _))
      rw [← EM.out] at K10
      clear hb g1 K9 X8 d2
      go_wp2_with fail
      refine (K10.out).mono ?_
      rintro e w10 ⟨rfl, hb⟩
      have X10 := Lib.hid ((X9.out.below hb).sub (qs' := []) (fun _ h => h) (fun _ h => nomatch h))
      clear hb K10 X9 d1
      go_wp2_with fail
      by_cases x0 : x = 0
      · subst x0
        go_loopw [22] (fun i wr => ∃ k : Nat, k ≤ nM ∧ i = .int .i64 k ∧ Hid (LS w wr [(w7.heap.size, c2, W), (w4.heap.size, s, M), (w3.heap.size, r, L)] [])) (fun i _ => nM - (intOf i).toNat)
        case atStart => exact ⟨0, Nat.zero_le _, rfl, X10⟩
        case round =>
          obtain ⟨k, hk, rfl, hX⟩ := hrel
          clear X10
          by_cases hlt : k < nM
          · have g1 := hX.out.get (.head _)
            have d1 := g1.c
            have KS := Lib.hid (rsum_any wr c2 W g1.r OW.out ((nL : Int) + k) ⟨by omega, by omega⟩)
            obtain ⟨v1, v2⟩ := sum_right L M k (by rw [← EM.out]; omega)
            rw [← HX.out rfl, ← EL.out] at v1 v2
            rw [v1, v2] at KS
            obtain ⟨b1, b2⟩ := OM.out.ok.psum_bd k (by rw [← EM.out]; omega)
            have b3 := OL.out.ok.sum0
            have b4 : L.sum + psum (lf M) k ≤ 4611686018427387904 := HB4.out rfl k (by omega)
            obtain ⟨z, hz⟩ : ∃ z, z = psum (lf M) k := ⟨_, rfl⟩
            obtain ⟨t, ht⟩ : ∃ t, t = L.sum := ⟨_, rfl⟩
            have HZ := Lib.hid hz
            have HT := Lib.hid ht
            rw [← hz, ← ht] at KS b4
            rw [← hz] at b1 b2
            rw [← ht] at b3
            clear g1 hz ht v1 v2
            go_wp2_with fail
            refine (KS.out).mono ?_
            rintro e w11 ⟨rfl, hb⟩
            have Y1 := Lib.hid (hX.out.below hb)
            have g1 := Y1.out.get (.tail _ (.head _))
            have d2 := g1.c
            have KT := Lib.hid (rsum_any w11 s M g1.r OM.out.ok (k : Int) ⟨by omega, by omega⟩)
            obtain ⟨v1, v2⟩ := sum_in M k (by rw [← EM.out]; omega)
            rw [v1, v2, ← HZ.out] at KT
            clear hb g1 KS d1 v1 v2 hX
            go_wp2_with fail
            refine (KT.out).mono ?_
            rintro e w12 ⟨rfl, hb⟩
            have Y2 := Lib.hid (Y1.out.below hb)
            have g1 := Y2.out.get (.tail _ (.tail _ (.head _)))
            have d1 := g1.c
            have KU := Lib.hid (rtotal_any w12 r L g1.r)
            rw [← HT.out] at KU
            clear hb g1 KT d2 Y1
            go_wp2_with fail
            refine (KU.out).mono ?_
            rintro e w13 ⟨rfl, hb⟩
            have Y3 := Lib.hid (Y2.out.below hb)
            clear hb KU d1 Y2
            go_wp2_with fail
            go_roundw
            case rel => exact ⟨k + 1, by omega, by go_num, Y3⟩
            case measure => simp [intOf]; omega
          · obtain rfl : k = nM := by omega
            go_wp2_with fail
            refine (lives_yes _).mono ?_
            rintro e w11 ⟨rfl, hb⟩
            have Y1 := Lib.hid (hX.out.below hb)
            clear hb
            go_wp2_with fail
            go_ret
            exact ⟨rfl, Y1.out.v.bl⟩
      · have xb : (x == 0) = false := by rw [beq_eq_false_iff_ne]; exact x0
        go_loopw [22] (fun i wr => i = .int .i64 0 ∧ wr = w10) (fun _ _ => 0)
        case atStart => exact ⟨rfl, rfl⟩
        case round =>
          obtain ⟨rfl, rfl⟩ := hrel
          by_cases hlt : 0 < nM
          · go_wp2_with fail
            refine (lives_yes _).mono ?_
            rintro e w11 ⟨rfl, hb⟩
            have Y1 := Lib.hid (X10.out.below hb)
            clear hb
            go_wp2_with fail
            go_ret
            exact ⟨rfl, Y1.out.v.bl⟩
          · obtain rfl : nM = 0 := by omega
            go_wp2_with fail
            refine (lives_yes _).mono ?_
            rintro e w11 ⟨rfl, hb⟩
            have Y1 := Lib.hid (X10.out.below hb)
            clear hb
            go_wp2_with fail
            go_ret
            exact ⟨rfl, Y1.out.v.bl⟩
  · obtain ⟨k, rfl⟩ : ∃ k : Nat, i = (k : Int) := ⟨i.toNat, by omega⟩
    have hk : k ≤ nL := by omega
    have i0 : ¬ (nL : Int) < (k : Int) := by omega
    have K5 := Lib.hid (rsplit_ok _ r L HR.out OL.out.ok k (by rw [← EL.out]; exact hk))
    clear HR hi fi1 fi2
    go_wp2_with fail
    refine (K5.out).mono ?_
    rintro e w5 ⟨a, b, rfl, p1, p2, hb⟩
    have X5 := Lib.hid ((X4.out.below hb).cons2 p1 p2)
    have g1 := X5.out.get (.tail _ (.head _))
    have g2 := X5.out.get (.head _)
    have d1 := g1.c
    have d2 := g2.c
    have K6 := Lib.hid (rjoin_any _ a b (L.take k) (L.drop k) g1.r g2.r (OL.out.ok.take k) (OL.out.ok.drop k))
    rw [joinErr_split OL.out, if_pos rfl, List.take_append_drop] at K6
    clear hb p1 p2 g1 g2 K5 X4
    go_wp2_with fail
    refine (K6.out).mono ?_
    rintro e w6 ⟨c', rfl, p1, hb⟩
    have X6' := (X5.out.below hb).cons p1
    clear hb p1 K6 X5 d1 d2
    go_wp2_with fail
    obtain ⟨wc, ewc⟩ : ∃ wc, wc = w6.alloc (.cells #[.pointer c'] 27) := ⟨_, rfl⟩
    rw [← ewc] at X6' ⊢
    have X6 := Lib.hid X6'
    clear X6' ewc
    have ga := X6.out.get (.tail _ (.tail _ (.head _)))
    have gb := X6.out.get (.tail _ (.head _))
    have gc := X6.out.get (.head _)
    have d1 := ga.c
    have d2 := gb.c
    have d3 := gc.c
    have l1 := ga.lt
    have l2 := gb.lt
    have l3 := gc.lt
    have S1 : Hid (Below wc.heap.size wc wc.drew) := (Below.refl _ _).drew
    have hcl' : k ≤ cl := by have := HC1.out; omega
    have KA : Hid (∀ W, Below wc.heap.size wc W → Calls Try.prog 12 #[.agg #[.pointer a], .int .i64 0, .slice Al k cl, .int .i64 0] W fun e w' => e = .returned (.bool true) ∧ Below W.heap.size W w') := fun W hW => by
      have h := X6.out.below hW
      have := same_any W a Al (L.take k) cl _ 0 0 rfl (h.get (.tail _ (.tail _ (.head _)))).r (OL.out.ok.take k) ((h.see (.tail _ (.head _))).take k (by rw [← EL.out]; exact hk)) (Nat.le_refl _)
      rwa [List.length_take, ← EL.out, Nat.min_eq_left hk] at this
    have KB : Hid (∀ W, Below wc.heap.size wc W → Calls Try.prog 12 #[.agg #[.pointer b], .int .i64 0, .slice (subA Al cl k 1) (nL - k) (cl - k), .int .i64 0] W fun e w' => e = .returned (.bool true) ∧ Below W.heap.size W w') := fun W hW => by
      have h := X6.out.below hW
      have hs := (h.see (.tail _ (.head _))).sub (c := cl) (by rw [← EL.out]; exact HC1.out) k L.length (by rw [← EL.out]; exact hk) (Nat.le_refl _)
      rw [List.take_of_length_le (by rw [List.length_drop]; omega)] at hs
      have := same_any W b (subA Al cl k 1) (L.drop k) (cl - k) _ 0 0 rfl (h.get (.tail _ (.head _))).r (OL.out.ok.drop k) hs (Nat.le_refl _)
      rwa [List.length_drop, ← EL.out] at this
    have KC : Hid (∀ W, Below wc.heap.size wc W → Calls Try.prog 12 #[.agg #[.pointer c'], .int .i64 0, .slice Al nL cl, .int .i64 0] W fun e w' => e = .returned (.bool true) ∧ Below W.heap.size W w') := fun W hW => by
      have h := X6.out.below hW
      have := same_any W c' Al L cl _ 0 0 rfl (h.get (.head _)).r OL.out.ok (h.see (.tail _ (.head _))) (Nat.le_refl _)
      rwa [← EL.out] at this
    have hsa := sl_h Al nL cl k hcl'
    have hsb := sl_l Al nL cl k hk
    clear ga gb gc
    refine wp_region_plan [(false, 0), (false, 1), (false, 2), (false, 3), (false, 4), (true, 5), (false, 6), (false, 7), (false, 8), (false, 9), (false, 10), (false, 11), (false, 12), (true, 13), (false, 14), (false, 15), (false, 16), (false, 17), (false, 18), (false, 19), (true, 20), (false, 21), (false, 22)] (Below wc.heap.size wc) (by kernel_rfl) (by kernel_rfl) (S1.out) _ (by simp only [pickH, List.getElem?_toArray, List.getElem?_cons_succ, List.getElem?_cons_zero]; rfl) ?_
    repeat (refine HWalk.step (fun K hK => ?_); first | (apply held_yes; (focus rfl); (focus (intro w' hw; obtain ⟨hc', hf'⟩ := below_cells hw; go_simp; rfl)); (go_simp; refine hK _ ?_; clear hK K)) | (refine ite_no (by decide) ?_; go_simp; refine hK _ ?_; clear hK K))
    clear hsa
    refine HWalk.mark ?_
    go_wp2_with fail
    refine (KA.out _ S1.out).mono ?_
    rintro e w7a ⟨rfl, hb⟩
    have B7 : Hid (Below wc.heap.size wc w7a) := S1.out.trans hb
    clear hb KA
    go_wp2_with fail
    refine ⟨B7.out, ?_⟩
    repeat (refine HWalk.step (fun K hK => ?_); first | (apply held_yes; (focus rfl); (focus (intro w' hw; obtain ⟨hc', hf'⟩ := below_cells hw; go_simp; rfl)); (go_simp; refine hK _ ?_; clear hK K)) | (refine ite_no (by decide) ?_; go_simp; refine hK _ ?_; clear hK K))
    refine HWalk.mark ?_
    go_wp2_with fail
    refine (KB.out _ B7.out).mono ?_
    rintro e w8a ⟨rfl, hb⟩
    have B8 : Hid (Below wc.heap.size wc w8a) := B7.out.trans (hb.mono B7.out.size)
    clear hb KB hsb
    go_wp2_with fail
    refine ⟨B8.out, ?_⟩
    repeat (refine HWalk.step (fun K hK => ?_); first | (apply held_yes; (focus rfl); (focus (intro w' hw; obtain ⟨hc', hf'⟩ := below_cells hw; go_simp; rfl)); (go_simp; refine hK _ ?_; clear hK K)) | (refine ite_no (by decide) ?_; go_simp; refine hK _ ?_; clear hK K))
    refine HWalk.mark ?_
    go_wp2_with fail
    refine (KC.out _ B8.out).mono ?_
    rintro e wz ⟨rfl, hb⟩
    have BZ : Hid (Below wc.heap.size wc wz) := B8.out.trans (hb.mono B8.out.size)
    clear hb KC
    go_wp2_with fail
    refine ⟨BZ.out, ?_⟩
    repeat (refine HWalk.step (fun K hK => ?_); first | (apply held_yes; (focus rfl); (focus (intro w' hw; obtain ⟨hc', hf'⟩ := below_cells hw; go_simp; rfl)); (go_simp; refine hK _ ?_; clear hK K)) | (refine ite_no (by decide) ?_; go_simp; refine hK _ ?_; clear hK K))
    have XZ := Lib.hid ((X6.out.below BZ.out).sub (fun x hx => .tail _ (.tail _ (.tail _ hx))) (fun x h => h))
    clear d1 d2 d3 l1 l2 l3 X6 B7 B8 BZ S1
    refine HWalk.done ?_
    go_wp2_with fail
    have KJ := Lib.hid (refJoin_any wz Al Am cl cm _ _ L M (XZ.out.see (.tail _ (.head _))) (XZ.out.see (.head _)) (Nat.le_refl _) (Nat.le_refl _) OL.out.ok OM.out.ok)
    rw [← EW.out, ← EX.out, ← EL.out, ← EM.out] at KJ
    unfold LPost at KJ
    rw [← EN.out] at KJ
    refine (KJ.out).mono ?_
    rintro e w6 ⟨Aw, cw, rfl, q1, hb, q2, q3, _⟩
    have X6 := Lib.hid ((XZ.out.below hb).add q1)
    have gr := X6.out.get (.tail _ (.head _))
    have gs := X6.out.get (.head _)
    have dr := gr.c
    have ds := gs.c
    have KK := Lib.hid (rjoin_any w6 r s L M gr.r gs.r OL.out.ok OM.out.ok)
    rw [← EW.out, ← EX.out] at KK
    clear hb gr gs KJ q1 q2 q3 XZ
    go_wp2_with fail
    refine (KK.out).mono ?_
    rintro e w7 ⟨c2, rfl, p1, hb⟩
    have X7 := Lib.hid ((X6.out.below hb).cons p1)
    have g1 := X7.out.get (.head _)
    have d1 := g1.c
    have K8 := Lib.hid (same_any _ c2 Aw W cw _ x x rfl g1.r OW.out (X7.out.see (.head _)) (Nat.le_refl _))
    rw [← EN.out] at K8
    clear hb p1 g1 KK X6 dr ds
    go_wp2_with fail
    refine (K8.out).mono ?_
    rintro e w8 ⟨rfl, hb⟩
    have X8 := Lib.hid (X7.out.below hb)
    have g1 := X8.out.get (.tail _ (.tail _ (.head _)))
    have d2 := g1.c
    have K9 := Lib.hid (same_any _ r Al L cl _ 0 0 rfl g1.r OL.out.ok (X8.out.see (.tail _ (.tail _ (.head _)))) (Nat.le_refl _))
    rw [← EL.out] at K9
    clear hb g1 K8 X7 d1
    go_wp2_with fail
    refine (K9.out).mono ?_
    rintro e w9 ⟨rfl, hb⟩
    have X9 := Lib.hid (X8.out.below hb)
    have g1 := X9.out.get (.tail _ (.head _))
    have d1 := g1.c
    have K10 := Lib.hid (same_any _ s Am M cm _ 0 0 rfl g1.r OM.out.ok (X9.out.see (.tail _ (.head _))) (Nat.le_refl _))
    rw [← EM.out] at K10
    clear hb g1 K9 X8 d2
    go_wp2_with fail
    refine (K10.out).mono ?_
    rintro e w10 ⟨rfl, hb⟩
    have X10 := Lib.hid ((X9.out.below hb).sub (qs' := []) (fun _ h => h) (fun _ h => nomatch h))
    clear hb K10 X9 d1
    go_wp2_with fail
    by_cases x0 : x = 0
    · subst x0
      go_loopw [22] (fun i wr => ∃ k : Nat, k ≤ nM ∧ i = .int .i64 k ∧ Hid (LS w wr [(w7.heap.size, c2, W), (w4.heap.size, s, M), (w3.heap.size, r, L)] [])) (fun i _ => nM - (intOf i).toNat)
      case atStart => exact ⟨0, Nat.zero_le _, rfl, X10⟩
      case round =>
        obtain ⟨k, hk, rfl, hX⟩ := hrel
        clear X10
        by_cases hlt : k < nM
        · have g1 := hX.out.get (.head _)
          have d1 := g1.c
          have KS := Lib.hid (rsum_any wr c2 W g1.r OW.out ((nL : Int) + k) ⟨by omega, by omega⟩)
          obtain ⟨v1, v2⟩ := sum_right L M k (by rw [← EM.out]; omega)
          rw [← HX.out rfl, ← EL.out] at v1 v2
          rw [v1, v2] at KS
          obtain ⟨b1, b2⟩ := OM.out.ok.psum_bd k (by rw [← EM.out]; omega)
          have b3 := OL.out.ok.sum0
          have b4 : L.sum + psum (lf M) k ≤ 4611686018427387904 := HB4.out rfl k (by omega)
          obtain ⟨z, hz⟩ : ∃ z, z = psum (lf M) k := ⟨_, rfl⟩
          obtain ⟨t, ht⟩ : ∃ t, t = L.sum := ⟨_, rfl⟩
          have HZ := Lib.hid hz
          have HT := Lib.hid ht
          rw [← hz, ← ht] at KS b4
          rw [← hz] at b1 b2
          rw [← ht] at b3
          clear g1 hz ht v1 v2
          go_wp2_with fail
          refine (KS.out).mono ?_
          rintro e w11 ⟨rfl, hb⟩
          have Y1 := Lib.hid (hX.out.below hb)
          have g1 := Y1.out.get (.tail _ (.head _))
          have d2 := g1.c
          have KT := Lib.hid (rsum_any w11 s M g1.r OM.out.ok (k : Int) ⟨by omega, by omega⟩)
          obtain ⟨v1, v2⟩ := sum_in M k (by rw [← EM.out]; omega)
          rw [v1, v2, ← HZ.out] at KT
          clear hb g1 KS d1 v1 v2 hX
          go_wp2_with fail
          refine (KT.out).mono ?_
          rintro e w12 ⟨rfl, hb⟩
          have Y2 := Lib.hid (Y1.out.below hb)
          have g1 := Y2.out.get (.tail _ (.tail _ (.head _)))
          have d1 := g1.c
          have KU := Lib.hid (rtotal_any w12 r L g1.r)
          rw [← HT.out] at KU
          clear hb g1 KT d2 Y1
          go_wp2_with fail
          refine (KU.out).mono ?_
          rintro e w13 ⟨rfl, hb⟩
          have Y3 := Lib.hid (Y2.out.below hb)
          clear hb KU d1 Y2
          go_wp2_with fail
          go_roundw
          case rel => exact ⟨k + 1, by omega, by go_num, Y3⟩
          case measure => simp [intOf]; omega
        · obtain rfl : k = nM := by omega
          go_wp2_with fail
          refine (lives_yes _).mono ?_
          rintro e w11 ⟨rfl, hb⟩
          have Y1 := Lib.hid (hX.out.below hb)
          clear hb
          go_wp2_with fail
          go_ret
          exact ⟨rfl, Y1.out.v.bl⟩
    · have xb : (x == 0) = false := by rw [beq_eq_false_iff_ne]; exact x0
      go_loopw [22] (fun i wr => i = .int .i64 0 ∧ wr = w10) (fun _ _ => 0)
      case atStart => exact ⟨rfl, rfl⟩
      case round =>
        obtain ⟨rfl, rfl⟩ := hrel
        by_cases hlt : 0 < nM
        · go_wp2_with fail
          refine (lives_yes _).mono ?_
          rintro e w11 ⟨rfl, hb⟩
          have Y1 := Lib.hid (X10.out.below hb)
          clear hb
          go_wp2_with fail
          go_ret
          exact ⟨rfl, Y1.out.v.bl⟩
        · obtain rfl : nM = 0 := by omega
          go_wp2_with fail
          refine (lives_yes _).mono ?_
          rintro e w11 ⟨rfl, hb⟩
          have Y1 := Lib.hid (X10.out.below hb)
          clear hb
          go_wp2_with fail
          go_ret
          exact ⟨rfl, Y1.out.v.bl⟩
end Go.Proofs.Ytafgdknfhchnpaa

/-
  The walk of the law RopesScript.
-/
import Derived.Test.YtafgdknfhchnpaaRopLS2
import Derived.Test.YtafgdknfhchnpaaRopOpen2
namespace Go.Proofs.Ytafgdknfhchnpaa
open Go.RowKit
set_option linter.unusedVariables false
set_option linter.unusedSimpArgs false


set_option maxRecDepth 100000 in
set_option maxHeartbeats 6400000 in
theorem law_script (A : Option Addr) (n c : Nat) (l : Nat → Int) (g : Bool) (A2 : Option Addr) (n2 c2 : Nat) (F : Nat → Value) (w : World)
    (hs : Sees w w.heap.size A n (u8s l)) (hf : ∀ j, 0 ≤ l j ∧ l j ≤ 255) (hnc : n ≤ c) (hc : c ≤ maxLen) (hs2 : Sees w w.heap.size A2 (n2 * 5) F) (hf2 : ∀ i, i < n2 → StepAt w F i) (hnc2 : n2 ≤ c2) (hc2 : c2 ≤ maxLen) :
    Calls Try.prog 5 #[.agg #[.slice A n c, .bool g], .slice A2 n2 c2] w fun e w' => e = .returned (.bool true) ∧ Below w.heap.size w w' := by
  have HS2 := Lib.hid hs2
  have HF2 := Lib.hid hf2
  by_cases hbig : 20 < n2
  · clear hs hs2 hf hf2 hnc hc hnc2 hc2
    go_enter Try.func5, Try.ntmps5
    go_wp2_with fail
    refine (lives_yes _).mono ?_
    rintro e w2 ⟨rfl, hb2⟩
    have HB : Hid (Below w.heap.size w w2) := ((Below.refl _ w).alloc (Nat.le_refl _) _).trans (hb2.mono (by rw [World.size_alloc]; omega))
    clear hb2
    go_wp2_with fail
    go_ret
    exact ⟨rfl, HB.out⟩
  have B0 : Hid (Below w.heap.size w (w.alloc (.cells #[.slice A n c, .bool g] 35))) := (Below.refl _ w).alloc (Nat.le_refl _) _
  have K1 := Lib.hid (rOf_any (w.alloc (.cells #[.slice A n c, .bool g] 35)) A n c l g ((hs.below B0.out).more B0.out.size) (fun j _ => hf j) (by omega))
  have OL := Lib.hid (ROk.mk' l n g)
  obtain ⟨L, eL⟩ : ∃ L, L = rof l n g := ⟨_, rfl⟩
  rw [← eL] at K1 OL
  obtain ⟨nL, eN⟩ : ∃ n, n = L.length := ⟨_, rfl⟩
  have EL := Lib.hid eN
  rw [← eN] at K1
  clear hs hs2 hf hf2 hnc hc hnc2 hc2 eL eN
  go_enter Try.func5, Try.ntmps5
  go_wp2_with fail
  refine (K1.out).mono ?_
  rintro e w1 ⟨Al, cl, rfl, O1, hb1, hm1⟩
  have X1 : Hid (LS w w1 [] [(Al, L)]) := (LS.start (B0.out.trans (hb1.mono B0.out.size))).add (by rw [EL.out] at O1; exact O1.seesL)
  have hcl := O1.le
  have hsf := Lib.hid O1.sf
  have K2 := Lib.hid (of_R (X1.out.see (.head _)) OL.out (by rw [← EL.out]; exact hcl) hm1)
  rw [← EL.out] at K2
  have HM := Lib.hid hm1
  have HC := Lib.hid hcl
  clear O1 hb1 K1 B0 hm1 hcl
  go_wp2_with fail
  refine (K2.out).mono ?_
  rintro e w2 ⟨r0, rfl, p1, hb⟩
  have X2 := Lib.hid ((X1.out.below hb).cons p1)
  clear hb p1 K2 X1
  go_wp2_with fail
  go_loopw [5, 7, 8] (fun a e i wr => ∃ (k : Nat) (W : List Int) (Aw ra : Option Addr) (cw : Nat) (er : Int), k ≤ n2 ∧ a = .slice Aw W.length cw ∧ e = .int .i64 er ∧ i = .int .i64 k ∧ Hid (LOk W) ∧ Hid (W.length ≤ cw) ∧ Hid (cw ≤ maxLen) ∧ Hid (SF Aw cw) ∧ Hid (LS w wr [(w2.heap.size, ra, W)] [(Aw, W)])) (fun _ _ i _ => n2 - (intOf i).toNat)
  case atStart => exact ⟨0, L, Al, r0, cl, 0, Nat.zero_le _, by rw [EL.out], rfl, rfl, OL.out.ok, by rw [← EL.out]; exact HC.out, HM.out, hsf.out, X2.out⟩
  case round =>
    obtain ⟨k, W, Aw, ra, cw, er, hk, rfl, rfl, rfl, hOK, hwc, hcm, hsw, hX⟩ := hrel
    clear X2
    by_cases hlt : k < n2
    · obtain ⟨kd, a, m, x, As, ns, cs, ls, e0, e1, e2, e3, e4, fk, fa, fm, fx, ss, fs, hns, hcs⟩ := HF2.out k hlt
      obtain ⟨b2, o2, rfl, hb2, hcell⟩ := HS2.out (by omega)
      have d0 := (hX.out.v.bl.cell (p := ⟨b2, o2 + k * 5, none⟩) hb2).trans (hcell (k * 5) (by omega))
      have d1 := (hX.out.v.bl.cell (p := ⟨b2, o2 + k * 5 + 1, none⟩) hb2).trans (hcell (k * 5 + 1) (by omega))
      have d2 := (hX.out.v.bl.cell (p := ⟨b2, o2 + k * 5 + 2, none⟩) hb2).trans (hcell (k * 5 + 2) (by omega))
      have d3 := (hX.out.v.bl.cell (p := ⟨b2, o2 + k * 5 + 3, none⟩) hb2).trans (hcell (k * 5 + 3) (by omega))
      have d4 := (hX.out.v.bl.cell (p := ⟨b2, o2 + k * 5 + 4, none⟩) hb2).trans (hcell (k * 5 + 4) (by omega))
      rw [e0] at d0
      rw [e1] at d1
      rw [e2] at d2
      rw [e3] at d3
      rw [e4] at d4
      clear e0 e1 e2 e3 e4 hcell
      have hki : (k : Int) < (n2 : Int) := by omega
      have hk0 : (0 : Int) ≤ (k : Int) := by omega
      have SS := Lib.hid ss
      have FS := Lib.hid fs
      have FA := Lib.hid fa
      have FM := Lib.hid fm
      have FX := Lib.hid fx
      have HCS := Lib.hid hcs
      have HNS := Lib.hid hns
      clear ss fs fa fm fx hns hcs
      obtain ⟨fk0, fk1⟩ := fk
      obtain ⟨nW, enW⟩ : ∃ n, n = W.length := ⟨_, rfl⟩
      have EW := Lib.hid enW
      rw [← enW] at ⊢ hwc
      clear enW
      by_cases hb20 : 20 < ns
      · go_wp2_with fail
        refine (lives_yes _).mono ?_
        rintro e w5 ⟨rfl, hb⟩
        have Y1 := Lib.hid ((hX.out.alloc _).below hb)
        clear hb
        go_wp2_with fail
        go_ret
        exact ⟨rfl, Y1.out.v.bl⟩
      · obtain ⟨S, eS⟩ : ∃ S, S = toL ls ns := ⟨_, rfl⟩
        have hSl : S.length = ns := by rw [eS, toL_len]
        have HSS : Hid (SeesL w w.heap.size As S) := by rw [eS]; exact seesL_of SS.out
        have HFS : Hid (∀ x ∈ S, Fits x) := fun x hx => by
          obtain ⟨j, hj, rfl⟩ := List.mem_iff_getElem.1 hx
          rw [← lf_get S hj, eS, lf_toL _ _ _ (by rw [hSl] at hj; exact hj)]
          exact FS.out j
        have ESL := Lib.hid hSl
        obtain ⟨wn, ewn⟩ : ∃ wn, wn = (wr.alloc (.cells #[.int .u8 kd, .int .i64 a, .int .i64 m, .int .i64 x, .slice As ns cs] 48)).alloc (.cells #[.pointer none] 27) := ⟨_, rfl⟩
        have RB : Hid (wn.rowIs wr.heap.size 48 5 (box5 (.int .u8 kd) (.int .i64 a) (.int .i64 m) (.int .i64 x) (.slice As ns cs))) := by rw [ewn]; exact (box5_row wr _ _ _ _ _ _).alloc _
        have hne : w2.heap.size ≠ wr.heap.size + 1 := by have := (hX.out.get (.head _)).lt; omega
        have XN : Hid (LS w wn [(wr.heap.size + 1, none, []), (w2.heap.size, ra, W)] [(As, S), (Aw, W)]) := by
          have h1 := (hX.out.alloc (.cells #[.int .u8 kd, .int .i64 a, .int .i64 m, .int .i64 x, .slice As ns cs] 48)).cons (Rp.nil _)
          rw [← ewn, World.size_alloc] at h1
          exact h1.add ((HSS.out.below h1.v.bl).more h1.v.bl.size)
        obtain ⟨z0, z1, z2, z3, z4⟩ := b5_of RB.out
        have gz := XN.out.get (.tail _ (.head _))
        have z5 := gz.c
        have EWN := Lib.hid ewn
        have hwc' := hwc.out
        have HN1 := Lib.hid (XN.out.see (.tail _ (.head _)))
        have HN2 := Lib.hid (XN.out.see (.head _))
        clear SS FS eS ewn gz hSl hwc'
        by_cases k0 : kd % 4 = 0
        · have KR : Hid (Calls Try.prog 19 #[.slice Aw nW cw, .int .i64 a, .slice As ns cs] wn (LPost wn (insTo W a S) (insErr W a S))) := by
            have := refInsert_any wn Aw As cw cs _ _ W S HN1.out HN2.out (Nat.le_refl _) (Nat.le_refl _) (by rw [← EW.out]; exact hwc.out) hcm.out hsw.out hOK.out (by rw [ESL.out]; omega) HFS.out a FA.out
            rwa [← EW.out, ESL.out] at this
          have KQ : Hid (∀ W', Below wn.heap.size wn W' → Calls Try.prog 20 #[.agg #[.pointer ra], .int .i64 a, .slice As ns cs] W' (RPost W' (insTo W a S) (insErr W a S))) := fun W' hW => by
            have h := XN.out.below hW
            have := rinsert_any W' ra W (h.get (.tail _ (.head _))).r hOK.out a As cs _ S (h.see (.head _)) (Nat.le_refl _) (by rw [ESL.out]; exact HNS.out) HCS.out (by rw [ESL.out]; omega) HFS.out
            rwa [ESL.out] at this
          have OR := Lib.hid (insTo_ok hOK.out a (S := S))
          obtain ⟨R, eR⟩ : ∃ R, R = insTo W a S := ⟨_, rfl⟩
          obtain ⟨f, ef⟩ : ∃ f, f = insErr W a S := ⟨_, rfl⟩
          obtain ⟨nR, enR⟩ : ∃ n, n = R.length := ⟨_, rfl⟩
          have EN := Lib.hid enR
          rw [← eR, ← ef] at KR KQ
          rw [← eR] at OR
          unfold LPost at KR
          rw [← enR] at KR
          clear eR ef enR HN1 HN2
          go_wp2_with fail
          rw [← EWN.out]
          refine (KR.out).mono ?_
          rintro e w5 ⟨Ax, cx, rfl, q1, hb, q2, q3, q4⟩
          have X5 := Lib.hid ((XN.out.below hb).add q1)
          have RB5 := Lib.hid (rowIs_below RB.out hb (World.rowIs.lt RB.out))
          obtain ⟨y0, y1, y2, y3, y4⟩ := b5_of RB5.out
          have g1 := X5.out.get (.tail _ (.head _))
          have y5 := g1.c
          have KQ5 := Lib.hid (KQ.out w5 hb)
          have HQ2 := Lib.hid q2
          have HQ3 := Lib.hid q3
          have HQ4 := Lib.hid q4
          clear hb g1 KR KQ q1 q2 q3 q4 z0 z1 z2 z3 z4 z5 d0 d1 d2 d3 d4 XN RB
          go_wp2_with fail
          refine (KQ5.out).mono ?_
          rintro e w6 ⟨an, rfl, p1, hb⟩
          have X6 := Lib.hid (X5.out.below hb)
          have RB6 := Lib.hid (rowIs_below RB5.out hb (World.rowIs.lt RB5.out))
          have g1 := X6.out.get (.head _)
          have y6 := g1.c
          have y7 := g1.f
          obtain ⟨w7, e7⟩ : ∃ w7, w7 = w6.setCell ⟨wr.heap.size + 1, 0, none⟩ (.pointer an) := ⟨_, rfl⟩
          have X7 : Hid (LS w w7 [(wr.heap.size + 1, an, R), (w2.heap.size, ra, W)] [(Ax, R), (As, S), (Aw, W)]) := by
            rw [e7]
            exact X6.out.put (.head _) p1 [(w2.heap.size, ra, W)] (by intro v hv; simp only [List.mem_cons, List.not_mem_nil, or_false] at hv; subst hv; exact ⟨by simp, hne⟩)
          have g2 := X7.out.get (.head _)
          have g3 := X7.out.get (.tail _ (.head _))
          have y8 := g2.c
          have y9 := g3.c
          have E7 := Lib.hid e7
          clear hb g1 g2 g3 p1 KQ5 X5 X6 RB5 RB6 y0 y1 y2 y3 y4 y5 e7
          have K8 := Lib.hid (same_any w7 an Ax R cx _ f f rfl (X7.out.get (.head _)).r OR.out (X7.out.see (.head _)) (Nat.le_refl _))
          first | rw [← EN.out] at K8 | skip
          go_wp2_with fail
          rw [← E7.out]
          go_wp2_with fail
          refine (K8.out).mono ?_
          rintro e w8 ⟨rfl, hb⟩
          have X8 := Lib.hid (X7.out.below hb)
          have g1 := X8.out.get (.tail _ (.head _))
          have x1 := g1.c
          have K9 := Lib.hid (same_any _ ra Aw W cw _ 0 0 rfl g1.r hOK.out (X8.out.see (.tail _ (.tail _ (.head _)))) (Nat.le_refl _))
          rw [← EW.out] at K9
          clear hb g1 K8 X7 y6 y7 y8 y9
          go_wp2_with fail
          refine (K9.out).mono ?_
          rintro e w9 ⟨rfl, hb⟩
          have X9 := Lib.hid (X8.out.below hb)
          have g1 := X9.out.get (.head _)
          have g2 := X9.out.get (.tail _ (.head _))
          have x2 := g1.c
          have x3 := g2.c
          have x4 := g2.f
          have GR := Lib.hid g1.r
          clear hb g1 g2 K9 X8 x1
          by_cases f0 : f = 0
          · have X10 : Hid (LS w (w9.setCell ⟨w2.heap.size, 0, none⟩ (.pointer an)) [(w2.heap.size, an, R)] [(Ax, R), (As, S), (Aw, W)]) := X9.out.put (.tail _ (.head _)) GR.out [] (fun _ h => nomatch h)
            have X11 := Lib.hid (X10.out.sub (qs' := [(Ax, R)]) (fun _ h => h) (fun v hv => by rcases List.mem_cons.1 hv with rfl | h; exact .head _; cases h))
            clear X9 GR X10
            go_wp2_with fail
            go_roundw
            case rel => exact ⟨k + 1, R, Ax, an, cx, 0, by omega, by rw [EN.out], rfl, by go_num, OR.out, by rw [← EN.out]; exact HQ2.out, HQ3.out, HQ4.out, X11⟩
            case measure => simp [intOf]; omega
          · have X11 := Lib.hid (X9.out.sub (ps' := [(w2.heap.size, ra, W)]) (qs' := [(Aw, W)]) (fun v hv => by rcases List.mem_cons.1 hv with rfl | h; exact .tail _ (.head _); cases h) (fun v hv => by rcases List.mem_cons.1 hv with rfl | h; exact .tail _ (.tail _ (.head _)); cases h))
            clear X9 GR
            have f1 : (f == 0) = false := by rw [beq_eq_false_iff_ne]; exact f0
            go_wp2_with fail
            go_roundw
            case rel => exact ⟨k + 1, W, Aw, ra, cw, f, by omega, by rw [EW.out], rfl, by go_num, hOK.out, by rw [← EW.out]; exact hwc.out, hcm.out, hsw.out, X11⟩
            case measure => simp [intOf]; omega
        by_cases k1 : kd % 4 = 1
        · clear k0
          have KR : Hid (Calls Try.prog 21 #[.slice Aw nW cw, .int .i64 a, .int .i64 m] wn (LPost wn (remTo W a m) (cutErr W a m))) := by
            have := refRemove_any wn Aw cw _ W HN1.out (Nat.le_refl _) (by rw [← EW.out]; exact hwc.out) hcm.out hsw.out hOK.out a m FA.out FM.out
            rwa [← EW.out] at this
          have KQ : Hid (∀ W', Below wn.heap.size wn W' → Calls Try.prog 22 #[.agg #[.pointer ra], .int .i64 a, .int .i64 m] W' (RPost W' (remTo W a m) (cutErr W a m))) := fun W' hW => by
            have h := XN.out.below hW
            exact rremove_any W' ra W (h.get (.tail _ (.head _))).r hOK.out a m
          have OR := Lib.hid (remTo_ok hOK.out a m)
          obtain ⟨R, eR⟩ : ∃ R, R = remTo W a m := ⟨_, rfl⟩
          obtain ⟨f, ef⟩ : ∃ f, f = cutErr W a m := ⟨_, rfl⟩
          obtain ⟨nR, enR⟩ : ∃ n, n = R.length := ⟨_, rfl⟩
          have EN := Lib.hid enR
          rw [← eR, ← ef] at KR KQ
          rw [← eR] at OR
          unfold LPost at KR
          rw [← enR] at KR
          clear eR ef enR HN1 HN2
          go_wp2_with fail
          rw [← EWN.out]
          refine (KR.out).mono ?_
          rintro e w5 ⟨Ax, cx, rfl, q1, hb, q2, q3, q4⟩
          have X5 := Lib.hid ((XN.out.below hb).add q1)
          have RB5 := Lib.hid (rowIs_below RB.out hb (World.rowIs.lt RB.out))
          obtain ⟨y0, y1, y2, y3, y4⟩ := b5_of RB5.out
          have g1 := X5.out.get (.tail _ (.head _))
          have y5 := g1.c
          have KQ5 := Lib.hid (KQ.out w5 hb)
          have HQ2 := Lib.hid q2
          have HQ3 := Lib.hid q3
          have HQ4 := Lib.hid q4
          clear hb g1 KR KQ q1 q2 q3 q4 z0 z1 z2 z3 z4 z5 d0 d1 d2 d3 d4 XN RB
          go_wp2_with fail
          refine (KQ5.out).mono ?_
          rintro e w6 ⟨an, rfl, p1, hb⟩
          have X6 := Lib.hid (X5.out.below hb)
          have RB6 := Lib.hid (rowIs_below RB5.out hb (World.rowIs.lt RB5.out))
          have g1 := X6.out.get (.head _)
          have y6 := g1.c
          have y7 := g1.f
          obtain ⟨w7, e7⟩ : ∃ w7, w7 = w6.setCell ⟨wr.heap.size + 1, 0, none⟩ (.pointer an) := ⟨_, rfl⟩
          have X7 : Hid (LS w w7 [(wr.heap.size + 1, an, R), (w2.heap.size, ra, W)] [(Ax, R), (As, S), (Aw, W)]) := by
            rw [e7]
            exact X6.out.put (.head _) p1 [(w2.heap.size, ra, W)] (by intro v hv; simp only [List.mem_cons, List.not_mem_nil, or_false] at hv; subst hv; exact ⟨by simp, hne⟩)
          have g2 := X7.out.get (.head _)
          have g3 := X7.out.get (.tail _ (.head _))
          have y8 := g2.c
          have y9 := g3.c
          have E7 := Lib.hid e7
          clear hb g1 g2 g3 p1 KQ5 X5 X6 RB5 RB6 y0 y1 y2 y3 y4 y5 e7
          have K8 := Lib.hid (same_any w7 an Ax R cx _ f f rfl (X7.out.get (.head _)).r OR.out (X7.out.see (.head _)) (Nat.le_refl _))
          first | rw [← EN.out] at K8 | skip
          go_wp2_with fail
          rw [← E7.out]
          go_wp2_with fail
          refine (K8.out).mono ?_
          rintro e w8 ⟨rfl, hb⟩
          have X8 := Lib.hid (X7.out.below hb)
          have g1 := X8.out.get (.tail _ (.head _))
          have x1 := g1.c
          have K9 := Lib.hid (same_any _ ra Aw W cw _ 0 0 rfl g1.r hOK.out (X8.out.see (.tail _ (.tail _ (.head _)))) (Nat.le_refl _))
          rw [← EW.out] at K9
          clear hb g1 K8 X7 y6 y7 y8 y9
          go_wp2_with fail
          refine (K9.out).mono ?_
          rintro e w9 ⟨rfl, hb⟩
          have X9 := Lib.hid (X8.out.below hb)
          have g1 := X9.out.get (.head _)
          have g2 := X9.out.get (.tail _ (.head _))
          have x2 := g1.c
          have x3 := g2.c
          have x4 := g2.f
          have GR := Lib.hid g1.r
          clear hb g1 g2 K9 X8 x1
          by_cases f0 : f = 0
          · have X10 : Hid (LS w (w9.setCell ⟨w2.heap.size, 0, none⟩ (.pointer an)) [(w2.heap.size, an, R)] [(Ax, R), (As, S), (Aw, W)]) := X9.out.put (.tail _ (.head _)) GR.out [] (fun _ h => nomatch h)
            have X11 := Lib.hid (X10.out.sub (qs' := [(Ax, R)]) (fun _ h => h) (fun v hv => by rcases List.mem_cons.1 hv with rfl | h; exact .head _; cases h))
            clear X9 GR X10
            go_wp2_with fail
            go_roundw
            case rel => exact ⟨k + 1, R, Ax, an, cx, 0, by omega, by rw [EN.out], rfl, by go_num, OR.out, by rw [← EN.out]; exact HQ2.out, HQ3.out, HQ4.out, X11⟩
            case measure => simp [intOf]; omega
          · have X11 := Lib.hid (X9.out.sub (ps' := [(w2.heap.size, ra, W)]) (qs' := [(Aw, W)]) (fun v hv => by rcases List.mem_cons.1 hv with rfl | h; exact .tail _ (.head _); cases h) (fun v hv => by rcases List.mem_cons.1 hv with rfl | h; exact .tail _ (.tail _ (.head _)); cases h))
            clear X9 GR
            have f1 : (f == 0) = false := by rw [beq_eq_false_iff_ne]; exact f0
            go_wp2_with fail
            go_roundw
            case rel => exact ⟨k + 1, W, Aw, ra, cw, f, by omega, by rw [EW.out], rfl, by go_num, hOK.out, by rw [← EW.out]; exact hwc.out, hcm.out, hsw.out, X11⟩
            case measure => simp [intOf]; omega
        by_cases k2 : kd % 4 = 2
        · clear k0 k1
          have KR : Hid (Calls Try.prog 23 #[.slice Aw nW cw, .int .i64 a, .int .i64 m, .int .i64 x] wn (LPost wn (movTo W a m x) (movErr W a m x))) := by
            have := refMove_any wn Aw cw _ W HN1.out (Nat.le_refl _) (by rw [← EW.out]; exact hwc.out) hcm.out hsw.out hOK.out a m x FA.out FM.out FX.out
            rwa [← EW.out] at this
          have KQ : Hid (∀ W', Below wn.heap.size wn W' → Calls Try.prog 24 #[.agg #[.pointer ra], .int .i64 a, .int .i64 m, .int .i64 x] W' (RPost W' (movTo W a m x) (movErr W a m x))) := fun W' hW => by
            have h := XN.out.below hW
            exact rmove_any W' ra W (h.get (.tail _ (.head _))).r hOK.out a m x FX.out
          have OR := Lib.hid (movTo_ok hOK.out a m x)
          obtain ⟨R, eR⟩ : ∃ R, R = movTo W a m x := ⟨_, rfl⟩
          obtain ⟨f, ef⟩ : ∃ f, f = movErr W a m x := ⟨_, rfl⟩
          obtain ⟨nR, enR⟩ : ∃ n, n = R.length := ⟨_, rfl⟩
          have EN := Lib.hid enR
          rw [← eR, ← ef] at KR KQ
          rw [← eR] at OR
          unfold LPost at KR
          rw [← enR] at KR
          clear eR ef enR HN1 HN2
          go_wp2_with fail
          rw [← EWN.out]
          refine (KR.out).mono ?_
          rintro e w5 ⟨Ax, cx, rfl, q1, hb, q2, q3, q4⟩
          have X5 := Lib.hid ((XN.out.below hb).add q1)
          have RB5 := Lib.hid (rowIs_below RB.out hb (World.rowIs.lt RB.out))
          obtain ⟨y0, y1, y2, y3, y4⟩ := b5_of RB5.out
          have g1 := X5.out.get (.tail _ (.head _))
          have y5 := g1.c
          have KQ5 := Lib.hid (KQ.out w5 hb)
          have HQ2 := Lib.hid q2
          have HQ3 := Lib.hid q3
          have HQ4 := Lib.hid q4
          clear hb g1 KR KQ q1 q2 q3 q4 z0 z1 z2 z3 z4 z5 d0 d1 d2 d3 d4 XN RB
          go_wp2_with fail
          refine (KQ5.out).mono ?_
          rintro e w6 ⟨an, rfl, p1, hb⟩
          have X6 := Lib.hid (X5.out.below hb)
          have RB6 := Lib.hid (rowIs_below RB5.out hb (World.rowIs.lt RB5.out))
          have g1 := X6.out.get (.head _)
          have y6 := g1.c
          have y7 := g1.f
          obtain ⟨w7, e7⟩ : ∃ w7, w7 = w6.setCell ⟨wr.heap.size + 1, 0, none⟩ (.pointer an) := ⟨_, rfl⟩
          have X7 : Hid (LS w w7 [(wr.heap.size + 1, an, R), (w2.heap.size, ra, W)] [(Ax, R), (As, S), (Aw, W)]) := by
            rw [e7]
            exact X6.out.put (.head _) p1 [(w2.heap.size, ra, W)] (by intro v hv; simp only [List.mem_cons, List.not_mem_nil, or_false] at hv; subst hv; exact ⟨by simp, hne⟩)
          have g2 := X7.out.get (.head _)
          have g3 := X7.out.get (.tail _ (.head _))
          have y8 := g2.c
          have y9 := g3.c
          have E7 := Lib.hid e7
          clear hb g1 g2 g3 p1 KQ5 X5 X6 RB5 RB6 y0 y1 y2 y3 y4 y5 e7
          have K8 := Lib.hid (same_any w7 an Ax R cx _ f f rfl (X7.out.get (.head _)).r OR.out (X7.out.see (.head _)) (Nat.le_refl _))
          first | rw [← EN.out] at K8 | skip
          go_wp2_with fail
          rw [← E7.out]
          go_wp2_with fail
          refine (K8.out).mono ?_
          rintro e w8 ⟨rfl, hb⟩
          have X8 := Lib.hid (X7.out.below hb)
          have g1 := X8.out.get (.tail _ (.head _))
          have x1 := g1.c
          have K9 := Lib.hid (same_any _ ra Aw W cw _ 0 0 rfl g1.r hOK.out (X8.out.see (.tail _ (.tail _ (.head _)))) (Nat.le_refl _))
          rw [← EW.out] at K9
          clear hb g1 K8 X7 y6 y7 y8 y9
          go_wp2_with fail
          refine (K9.out).mono ?_
          rintro e w9 ⟨rfl, hb⟩
          have X9 := Lib.hid (X8.out.below hb)
          have g1 := X9.out.get (.head _)
          have g2 := X9.out.get (.tail _ (.head _))
          have x2 := g1.c
          have x3 := g2.c
          have x4 := g2.f
          have GR := Lib.hid g1.r
          clear hb g1 g2 K9 X8 x1
          by_cases f0 : f = 0
          · have X10 : Hid (LS w (w9.setCell ⟨w2.heap.size, 0, none⟩ (.pointer an)) [(w2.heap.size, an, R)] [(Ax, R), (As, S), (Aw, W)]) := X9.out.put (.tail _ (.head _)) GR.out [] (fun _ h => nomatch h)
            have X11 := Lib.hid (X10.out.sub (qs' := [(Ax, R)]) (fun _ h => h) (fun v hv => by rcases List.mem_cons.1 hv with rfl | h; exact .head _; cases h))
            clear X9 GR X10
            go_wp2_with fail
            go_roundw
            case rel => exact ⟨k + 1, R, Ax, an, cx, 0, by omega, by rw [EN.out], rfl, by go_num, OR.out, by rw [← EN.out]; exact HQ2.out, HQ3.out, HQ4.out, X11⟩
            case measure => simp [intOf]; omega
          · have X11 := Lib.hid (X9.out.sub (ps' := [(w2.heap.size, ra, W)]) (qs' := [(Aw, W)]) (fun v hv => by rcases List.mem_cons.1 hv with rfl | h; exact .tail _ (.head _); cases h) (fun v hv => by rcases List.mem_cons.1 hv with rfl | h; exact .tail _ (.tail _ (.head _)); cases h))
            clear X9 GR
            have f1 : (f == 0) = false := by rw [beq_eq_false_iff_ne]; exact f0
            go_wp2_with fail
            go_roundw
            case rel => exact ⟨k + 1, W, Aw, ra, cw, f, by omega, by rw [EW.out], rfl, by go_num, hOK.out, by rw [← EW.out]; exact hwc.out, hcm.out, hsw.out, X11⟩
            case measure => simp [intOf]; omega
        have k3 : kd % 4 = 3 := by omega
        clear k0 k1 k2
        by_cases hf : rsetErr W a x = 0
        · have KR : Hid (Calls Try.prog 25 #[.slice Aw nW cw, .int .i64 a, .int .i64 x] wn (LPost wn (rsetL W a.toNat x) 0)) := by
            have := refSetL_any wn Aw cw W HN1.out (by rw [← EW.out]; exact hwc.out) hcm.out hsw.out hOK.out a x
            rwa [if_pos hf, hf, ← EW.out] at this
          have KQ : Hid (∀ W', Below wn.heap.size wn W' → Calls Try.prog 26 #[.agg #[.pointer ra], .int .i64 a, .int .i64 x] W' (RPost W' (rsetL W a.toNat x) 0)) := fun W' hW => by
            have h := XN.out.below hW
            have := rset_any W' ra W (h.get (.tail _ (.head _))).r hOK.out a x FA.out FX.out
            unfold rsetTo at this
            rwa [if_pos hf, hf] at this
          have OR := rsetTo_ok hOK.out a x
          unfold rsetTo at OR
          rw [if_pos hf] at OR
          have OR := Lib.hid OR
          obtain ⟨R, eR⟩ : ∃ R, R = rsetL W a.toNat x := ⟨_, rfl⟩
          obtain ⟨nR, enR⟩ : ∃ n, n = R.length := ⟨_, rfl⟩
          have EN := Lib.hid enR
          rw [← eR] at KR KQ OR
          unfold LPost at KR
          rw [← enR] at KR
          clear eR enR HN1 HN2 hf
          go_wp2_with fail
          rw [← EWN.out]
          refine (KR.out).mono ?_
          rintro e w5 ⟨Ax, cx, rfl, q1, hb, q2, q3, q4⟩
          have X5 := Lib.hid ((XN.out.below hb).add q1)
          have RB5 := Lib.hid (rowIs_below RB.out hb (World.rowIs.lt RB.out))
          obtain ⟨y0, y1, y2, y3, y4⟩ := b5_of RB5.out
          have g1 := X5.out.get (.tail _ (.head _))
          have y5 := g1.c
          have KQ5 := Lib.hid (KQ.out w5 hb)
          have HQ2 := Lib.hid q2
          have HQ3 := Lib.hid q3
          have HQ4 := Lib.hid q4
          clear hb g1 KR KQ q1 q2 q3 q4 z0 z1 z2 z3 z4 z5 d0 d1 d2 d3 d4 XN RB
          go_wp2_with fail
          refine (KQ5.out).mono ?_
          rintro e w6 ⟨an, rfl, p1, hb⟩
          have X6 := Lib.hid (X5.out.below hb)
          have RB6 := Lib.hid (rowIs_below RB5.out hb (World.rowIs.lt RB5.out))
          have g1 := X6.out.get (.head _)
          have y6 := g1.c
          have y7 := g1.f
          obtain ⟨w7, e7⟩ : ∃ w7, w7 = w6.setCell ⟨wr.heap.size + 1, 0, none⟩ (.pointer an) := ⟨_, rfl⟩
          have X7 : Hid (LS w w7 [(wr.heap.size + 1, an, R), (w2.heap.size, ra, W)] [(Ax, R), (As, S), (Aw, W)]) := by
            rw [e7]
            exact X6.out.put (.head _) p1 [(w2.heap.size, ra, W)] (by intro v hv; simp only [List.mem_cons, List.not_mem_nil, or_false] at hv; subst hv; exact ⟨by simp, hne⟩)
          have g2 := X7.out.get (.head _)
          have g3 := X7.out.get (.tail _ (.head _))
          have y8 := g2.c
          have y9 := g3.c
          have E7 := Lib.hid e7
          clear hb g1 g2 g3 p1 KQ5 X5 X6 RB5 RB6 y0 y1 y2 y3 y4 y5 e7
          have K8 := Lib.hid (same_any w7 an Ax R cx _ 0 0 rfl (X7.out.get (.head _)).r OR.out (X7.out.see (.head _)) (Nat.le_refl _))
          first | rw [← EN.out] at K8 | skip
          go_wp2_with fail
          rw [← E7.out]
          go_wp2_with fail
          refine (K8.out).mono ?_
          rintro e w8 ⟨rfl, hb⟩
          have X8 := Lib.hid (X7.out.below hb)
          have g1 := X8.out.get (.tail _ (.head _))
          have x1 := g1.c
          have K9 := Lib.hid (same_any _ ra Aw W cw _ 0 0 rfl g1.r hOK.out (X8.out.see (.tail _ (.tail _ (.head _)))) (Nat.le_refl _))
          rw [← EW.out] at K9
          clear hb g1 K8 X7 y6 y7 y8 y9
          go_wp2_with fail
          refine (K9.out).mono ?_
          rintro e w9 ⟨rfl, hb⟩
          have X9 := Lib.hid (X8.out.below hb)
          have g1 := X9.out.get (.head _)
          have g2 := X9.out.get (.tail _ (.head _))
          have x2 := g1.c
          have x3 := g2.c
          have x4 := g2.f
          have GR := Lib.hid g1.r
          clear hb g1 g2 K9 X8 x1
          have X10 : Hid (LS w (w9.setCell ⟨w2.heap.size, 0, none⟩ (.pointer an)) [(w2.heap.size, an, R)] [(Ax, R), (As, S), (Aw, W)]) := X9.out.put (.tail _ (.head _)) GR.out [] (fun _ h => nomatch h)
          have X11 := Lib.hid (X10.out.sub (qs' := [(Ax, R)]) (fun _ h => h) (fun v hv => by rcases List.mem_cons.1 hv with rfl | h; exact .head _; cases h))
          clear X9 GR X10
          go_wp2_with fail
          go_roundw
          case rel => exact ⟨k + 1, R, Ax, an, cx, 0, by omega, by rw [EN.out], rfl, by go_num, OR.out, by rw [← EN.out]; exact HQ2.out, HQ3.out, HQ4.out, X11⟩
          case measure => simp [intOf]; omega
        · have KR : Hid (Calls Try.prog 25 #[.slice Aw nW cw, .int .i64 a, .int .i64 x] wn (LPost wn W (rsetErr W a x))) := by
            have := refSetL_any wn Aw cw W HN1.out (by rw [← EW.out]; exact hwc.out) hcm.out hsw.out hOK.out a x
            rwa [if_neg hf, ← EW.out] at this
          have KQ : Hid (∀ W', Below wn.heap.size wn W' → Calls Try.prog 26 #[.agg #[.pointer ra], .int .i64 a, .int .i64 x] W' (RPost W' [] (rsetErr W a x))) := fun W' hW => by
            have h := XN.out.below hW
            have := rset_any W' ra W (h.get (.tail _ (.head _))).r hOK.out a x FA.out FX.out
            unfold rsetTo at this
            rwa [if_neg hf] at this
          obtain ⟨R, eR⟩ : ∃ R, R = W := ⟨_, rfl⟩
          obtain ⟨f, ef⟩ : ∃ f, f = rsetErr W a x := ⟨_, rfl⟩
          obtain ⟨nR, enR⟩ : ∃ n, n = R.length := ⟨_, rfl⟩
          have EN := Lib.hid enR
          rw [← ef] at KR KQ hf
          unfold LPost at KR
          rw [← eR, ← enR] at KR
          have f0 : ¬ f = 0 := hf
          have f2 : (f != 0) = true := by rw [bne_iff_ne]; exact f0
          clear eR ef enR HN1 HN2 hf
          go_wp2_with fail
          rw [← EWN.out]
          refine (KR.out).mono ?_
          rintro e w5 ⟨Ax, cx, rfl, q1, hb, q2, q3, q4⟩
          have X5 := Lib.hid ((XN.out.below hb).add q1)
          have RB5 := Lib.hid (rowIs_below RB.out hb (World.rowIs.lt RB.out))
          obtain ⟨y0, y1, y2, y3, y4⟩ := b5_of RB5.out
          have g1 := X5.out.get (.tail _ (.head _))
          have y5 := g1.c
          have KQ5 := Lib.hid (KQ.out w5 hb)
          have HQ2 := Lib.hid q2
          have HQ3 := Lib.hid q3
          have HQ4 := Lib.hid q4
          clear hb g1 KR KQ q1 q2 q3 q4 z0 z1 z2 z3 z4 z5 d0 d1 d2 d3 d4 XN RB
          go_wp2_with fail
          refine (KQ5.out).mono ?_
          rintro e w6 ⟨an, rfl, p1, hb⟩
          have X6 := Lib.hid (X5.out.below hb)
          have RB6 := Lib.hid (rowIs_below RB5.out hb (World.rowIs.lt RB5.out))
          have g1 := X6.out.get (.head _)
          have y6 := g1.c
          have y7 := g1.f
          obtain ⟨w7, e7⟩ : ∃ w7, w7 = w6.setCell ⟨wr.heap.size + 1, 0, none⟩ (.pointer an) := ⟨_, rfl⟩
          have X7 : Hid (LS w w7 [(wr.heap.size + 1, an, []), (w2.heap.size, ra, W)] [(Ax, R), (As, S), (Aw, W)]) := by
            rw [e7]
            exact X6.out.put (.head _) p1 [(w2.heap.size, ra, W)] (by intro v hv; simp only [List.mem_cons, List.not_mem_nil, or_false] at hv; subst hv; exact ⟨by simp, hne⟩)
          have g2 := X7.out.get (.head _)
          have g3 := X7.out.get (.tail _ (.head _))
          have y8 := g2.c
          have y9 := g3.c
          have E7 := Lib.hid e7
          clear hb g1 g2 g3 p1 KQ5 X5 X6 RB5 RB6 y0 y1 y2 y3 y4 y5 e7
          have K8 := Lib.hid (same_any w7 an none [] 0 0 f f rfl (X7.out.get (.head _)).r LOk.nil (seesL_nil _ _) (Nat.zero_le _))
          first | rw [← EN.out] at K8 | skip
          go_wp2_with fail
          rw [← E7.out]
          go_wp2_with fail
          refine (K8.out).mono ?_
          rintro e w8 ⟨rfl, hb⟩
          have X8 := Lib.hid (X7.out.below hb)
          have g1 := X8.out.get (.tail _ (.head _))
          have x1 := g1.c
          have K9 := Lib.hid (same_any _ ra Aw W cw _ 0 0 rfl g1.r hOK.out (X8.out.see (.tail _ (.tail _ (.head _)))) (Nat.le_refl _))
          rw [← EW.out] at K9
          clear hb g1 K8 X7 y6 y7 y8 y9
          go_wp2_with fail
          refine (K9.out).mono ?_
          rintro e w9 ⟨rfl, hb⟩
          have X9 := Lib.hid (X8.out.below hb)
          have g1 := X9.out.get (.head _)
          have g2 := X9.out.get (.tail _ (.head _))
          have x2 := g1.c
          have x3 := g2.c
          have x4 := g2.f
          have GR := Lib.hid g1.r
          clear hb g1 g2 K9 X8 x1
          have X11 := Lib.hid (X9.out.sub (ps' := [(w2.heap.size, ra, W)]) (qs' := [(Aw, W)]) (fun v hv => by rcases List.mem_cons.1 hv with rfl | h; exact .tail _ (.head _); cases h) (fun v hv => by rcases List.mem_cons.1 hv with rfl | h; exact .tail _ (.tail _ (.head _)); cases h))
          clear X9 GR
          have f1 : (f == 0) = false := by rw [beq_eq_false_iff_ne]; exact f0
          go_wp2_with fail
          go_roundw
          case rel => exact ⟨k + 1, W, Aw, ra, cw, f, by omega, by rw [EW.out], rfl, by go_num, hOK.out, by rw [← EW.out]; exact hwc.out, hcm.out, hsw.out, X11⟩
          case measure => simp [intOf]; omega
    · obtain rfl : k = n2 := by omega
      go_wp2_with fail
      refine (lives_yes _).mono ?_
      rintro e w11 ⟨rfl, hb⟩
      have Y1 := Lib.hid (hX.out.below hb)
      clear hb
      go_wp2_with fail
      go_ret
      exact ⟨rfl, Y1.out.v.bl⟩
end Go.Proofs.Ytafgdknfhchnpaa

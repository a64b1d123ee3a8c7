/-
  Contracts of package spans, fourth: merged.
-/
import Derived.Test.YtngbaiijdgmpoaaSpaC
namespace Go.Proofs.Ytngbaiijdgmpoaa
open Go.RowKit
set_option linter.unusedVariables false
set_option linter.unusedSimpArgs false

theorem merged_bad (w : World) (A A2 : Option Addr) (c c2 B B2 : Nat) (L M : Sp) (f : Nat) (h : SeesP w B A L) (h2 : SeesP w B2 A2 M) (hB : B ≤ w.heap.size) (hB2 : B2 ≤ w.heap.size) (hf : FitsS L) (hf2 : FitsS M) (hn : L.length ≤ 1000000000000000) (hn2 : M.length ≤ 1000000000000000) (x : Int) (hx : x = if chkS L = 0 then chkS M else chkS L) (hx0 : x ≠ 0) :
    Calls Try.prog 69 #[.slice A L.length c, .slice A2 M.length c2, .func (.func f) #[] #[]] w (SPost w [] x) := by
  have K1 := Lib.hid (both_any w A A2 c c2 B B2 L M h h2 hB hB2 hf hf2 hn hn2)
  rw [← hx] at K1
  have xb : (x != 0) = true := by rw [bne_iff_ne]; exact hx0
  obtain ⟨n, en⟩ : ∃ n, n = L.length := ⟨_, rfl⟩
  obtain ⟨m, em⟩ : ∃ n, n = M.length := ⟨_, rfl⟩
  rw [← en, ← em] at K1
  rw [← en, ← em]
  clear h h2 hf hf2 en em hx hn hn2
  go_enter Try.func69, Try.ntmps69
  go_wp2_with fail
  go_step3
  go_wp2_with fail
  refine (K1.out).mono ?_
  rintro e w1 ⟨rfl, hb⟩
  have H := Lib.hid (SPost.none hb x)
  clear hb K1
  go_wp2_with fail
  rw [Exit.noGoto_ret]
  go_ret2
  exact H.out


set_option maxRecDepth 100000 in
set_option maxHeartbeats 12800000 in
theorem union_ok (w : World) (A A2 : Option Addr) (c c2 B B2 : Nat) (L M : Sp) (h : SeesP w B A L) (h2 : SeesP w B2 A2 M) (hB : B ≤ w.heap.size) (hB2 : B2 ≤ w.heap.size) (hL : chkS L = 0) (hM : chkS M = 0) :
    Calls Try.prog 69 #[.slice A L.length c, .slice A2 M.length c2, .func (.func 71) #[] #[]] w fun e w' => ∃ R, Merged (fun x y => x || y) L M R ∧ SPost w (dS R) (dE R) e w' := by
  have hk0 : (fun x y => x || y) false false = false := rfl
  obtain ⟨kp, ekp⟩ : ∃ kp : Bool → Bool → Bool, kp = (fun x y => x || y) := ⟨_, rfl⟩
  have K0 : ∀ W x y, Calls Try.prog 71 #[.bool x, .bool y] W fun e w' => e = .returned (.bool (kp x y)) ∧ W = w' := by rw [ekp]; exact or_any
  rw [← ekp] at hk0 ⊢
  clear ekp
  have K := Lib.hid K0
  have HK0 := Lib.hid hk0
  obtain ⟨nfL, lL⟩ := chkS_zero.1 hL
  obtain ⟨nfM, lM⟩ := chkS_zero.1 hM
  have K1 := Lib.hid (both_any w A A2 c c2 B B2 L M h h2 hB hB2 (NF.fits nfL) (NF.fits nfM) (by omega) (by omega))
  rw [if_pos hL, hM] at K1
  have HS := Lib.hid (h.more hB)
  have HS2 := Lib.hid (h2.more hB2)
  have NL := Lib.hid nfL
  have NM := Lib.hid nfM
  have G0 : Hid (Mg kp L M [] 0) := Mg.start nfL nfM hk0
  obtain ⟨n, en⟩ : ∃ n, n = L.length := ⟨_, rfl⟩
  obtain ⟨m, em⟩ : ∃ n, n = M.length := ⟨_, rfl⟩
  have EN := Lib.hid en
  have EM := Lib.hid em
  rw [← en] at K1 lL
  rw [← em] at K1 lM
  rw [← en, ← em]
  clear h h2 hL hM nfL nfM K0 en em hk0
  go_enter Try.func69, Try.ntmps69
  go_wp2_with fail
  go_step3
  go_wp2_with fail
  refine (K1.out).mono ?_
  rintro e w1 ⟨rfl, hb⟩
  have D1 := Lib.hid hb
  clear hb K1
  go_wp2_with fail
  go_step3
  go_wp2_with fail
  go_loopw [9, 10, 11, 12] (fun o a i j wr => ∃ (I J : Nat) (O : Sp) (at_ : Int) (Ao : Option Addr) (co : Nat), I ≤ n ∧ J ≤ m ∧ o = .slice Ao O.length co ∧ a = .int .i64 at_ ∧ i = .int .i64 I ∧ j = .int .i64 J ∧ Hid (OwnP wr w.heap.size Ao co O) ∧ Hid (Mg kp L M O at_) ∧ Hid (∀ s ∈ L.take I, s.2 ≤ at_) ∧ Hid (∀ s ∈ M.take J, s.2 ≤ at_) ∧ Hid (Below w.heap.size w wr)) (fun _ a _ _ _ => (1073741824 - (intOf a)).toNat)
  case atStart => exact ⟨0, 0, [], 0, none, 0, Nat.zero_le _, Nat.zero_le _, rfl, rfl, rfl, rfl, Own.nil _ _ _ _ _, G0, (fun s hs => absurd hs (by simp)), (fun s hs => absurd hs (by simp)), D1⟩
  case round =>
    obtain ⟨I, J, O, at_, Ao, co, hI, hJ, rfl, rfl, rfl, rfl, hO, hG, hp0, hq0, hD⟩ := hrel
    clear D1 G0
    have b0 := hG.out.a0
    have b1 := hG.out.a1
    obtain ⟨nO, enO⟩ : ∃ nO, nO = O.length := ⟨_, rfl⟩
    have ENO := Lib.hid enO
    rw [← enO]
    clear enO
    go_wp2_with fail
    go_loopw [11] (fun i wr => ∃ I2 : Nat, I2 ≤ n ∧ i = .int .i64 I2 ∧ Hid (∀ s ∈ L.take I2, s.2 ≤ at_) ∧ Hid (OwnP wr w.heap.size Ao co O) ∧ Hid (Below w.heap.size w wr)) (fun i _ => n - (intOf i).toNat)
    case atStart => exact ⟨I, hI, rfl, hp0, hO, hD⟩
    case round =>
      obtain ⟨I2, hI2, rfl, hp, hO2, hD2⟩ := hrel
      clear hO hD hp0
      by_cases hlt : I2 < n
      · obtain ⟨b, o, rfl, hb0, c0, c1⟩ := SeesP.cells (HS.out.below hD2.out) (k := I2) (by rw [← EN.out]; exact hlt)
        obtain ⟨_, nf1, _, nf2⟩ := NFfrom.mem NL.out _ (sg_mem L (show I2 < L.length by rw [← EN.out]; exact hlt))
        by_cases hle : (sg L I2).2 ≤ at_
        · have hp' := Lib.hid (take_past (show I2 < L.length by rw [← EN.out]; exact hlt) hp.out hle)
          obtain ⟨y, hy⟩ : ∃ y, y = (sg L I2).2 := ⟨_, rfl⟩
          rw [← hy] at c1 hle
          clear c0 nf1 nf2 hy
          go_wp2_with fail
          go_roundw
          case rel => exact ⟨I2 + 1, by omega, by go_num, hp', hO2, hD2⟩
          case measure => simp [intOf]; omega
        · have HA : Hid (∀ j, at_ ≤ j → j < edgeS (sg L I2).1 (sg L I2).2 at_ → anyS L j = decide ((sg L I2).1 ≤ at_)) := fun j h1 h2 => anyS_next NL.out (show I2 < L.length by rw [← EN.out]; exact hlt) hp.out (by omega) h1 h2
          obtain ⟨x, hx⟩ : ∃ x, x = (sg L I2).1 := ⟨_, rfl⟩
          obtain ⟨y, hy⟩ : ∃ y, y = (sg L I2).2 := ⟨_, rfl⟩
          rw [← hx, ← hy] at HA
          rw [← hx] at c0
          rw [← hy] at c1 hle
          rw [← hx, ← hy] at nf1
          rw [← hy] at nf2
          have HX := Lib.hid hx
          have HY := Lib.hid hy
          clear hx hy
          go_wp2_with fail
          clear c0 c1
          go_loopw [12] (fun i wr => ∃ J2 : Nat, J2 ≤ m ∧ i = .int .i64 J2 ∧ Hid (∀ s ∈ M.take J2, s.2 ≤ at_) ∧ Hid (OwnP wr w.heap.size Ao co O) ∧ Hid (Below w.heap.size w wr)) (fun i _ => m - (intOf i).toNat)
          case atStart => exact ⟨J, hJ, rfl, hq0, hO2, hD2⟩
          case round =>
            obtain ⟨J2, hJ2, rfl, hq, hO3, hD3⟩ := hrel
            clear hO2 hD2 hq0
            by_cases hlt2 : J2 < m
            · obtain ⟨b', o', rfl, hb1, e0, e1⟩ := SeesP.cells (HS2.out.below hD3.out) (k := J2) (by rw [← EM.out]; exact hlt2)
              obtain ⟨_, mf1, _, mf2⟩ := NFfrom.mem NM.out _ (sg_mem M (show J2 < M.length by rw [← EM.out]; exact hlt2))
              by_cases hle2 : (sg M J2).2 ≤ at_
              · have hq' := Lib.hid (take_past (show J2 < M.length by rw [← EM.out]; exact hlt2) hq.out hle2)
                obtain ⟨y2, hy2⟩ : ∃ y, y = (sg M J2).2 := ⟨_, rfl⟩
                rw [← hy2] at e1 hle2
                clear e0 mf1 mf2 hy2
                go_wp2_with fail
                go_roundw
                case rel => exact ⟨J2 + 1, by omega, by go_num, hq', hO3, hD3⟩
                case measure => simp [intOf]; omega
              · have HB2 : Hid (∀ j, at_ ≤ j → j < edgeS (sg M J2).1 (sg M J2).2 at_ → anyS M j = decide ((sg M J2).1 ≤ at_)) := fun j h1 h2 => anyS_next NM.out (show J2 < M.length by rw [← EM.out]; exact hlt2) hq.out (by omega) h1 h2
                obtain ⟨x2, hx2⟩ : ∃ x, x = (sg M J2).1 := ⟨_, rfl⟩
                obtain ⟨y2, hy2⟩ : ∃ y, y = (sg M J2).2 := ⟨_, rfl⟩
                rw [← hx2, ← hy2] at HB2
                rw [← hx2] at e0
                rw [← hy2] at e1 hle2 mf2
                rw [← hx2, ← hy2] at mf1
                have HX2 := Lib.hid hx2
                have HY2 := Lib.hid hy2
                clear hx2 hy2
                have jb : ((J2 : Int) == (m : Int)) = false := by rw [beq_eq_false_iff_ne]; omega
                obtain ⟨b3, o3, h3, _, c0, c1⟩ := SeesP.cells (HS.out.below hD3.out) (k := I2) (by rw [← EN.out]; exact hlt)
                cases h3
                rw [← HX.out] at c0
                rw [← HY.out] at c1
                go_wp2_with fail
                obtain ⟨v1, hv1⟩ : ∃ v, v = edgeS x y at_ := ⟨_, rfl⟩
                have g1 : at_ < v1 := by rw [hv1]; exact edgeS_gt (by omega)
                have g2 : v1 ≤ 1073741824 := by rw [hv1]; exact edgeS_le nf1 nf2
                have KE := Lib.hid (edge_any wr x y at_)
                rw [← hv1] at KE HA
                clear hv1
                refine (KE.out).mono ?_
                rintro e wa ⟨rfl, hb⟩
                have hDa := Lib.hid (hD3.out.trans (hb.mono hD3.out.size))
                have hOa := Lib.hid (hO3.out.below hb)
                clear hb KE
                obtain ⟨b4, o4, h4, _, e0, e1⟩ := SeesP.cells (HS2.out.below hDa.out) (k := J2) (by rw [← EM.out]; exact hlt2)
                cases h4
                rw [← HX2.out] at e0
                rw [← HY2.out] at e1
                go_wp2_with fail
                obtain ⟨v2, hv2⟩ : ∃ v, v = edgeS x2 y2 at_ := ⟨_, rfl⟩
                have g3 : at_ < v2 := by rw [hv2]; exact edgeS_gt (by omega)
                have g4 : v2 ≤ 1073741824 := by rw [hv2]; exact edgeS_le mf1 mf2
                have KE := Lib.hid (edge_any wa x2 y2 at_)
                rw [← hv2] at KE HB2
                clear hv2
                refine (KE.out).mono ?_
                rintro e wz ⟨rfl, hb⟩
                have hDz := Lib.hid (hDa.out.trans (hb.mono hDa.out.size))
                have hOz := Lib.hid (hOa.out.below hb)
                have hcon : Hid (∀ j, at_ ≤ j → j < min 1073741824 (min v1 v2) → kp (anyS L j) (anyS M j) = kp (decide (x ≤ at_)) (decide (x2 ≤ at_))) := fun j h1 h2 => by rw [HA.out j h1 (by omega), HB2.out j h1 (by omega)]
                have ib0 : ((I2 : Int) == (n : Int)) = false := by rw [beq_eq_false_iff_ne]; omega
                clear hb KE hOa hDa
                go_wp2_with fail
                have KK := Lib.hid (K.out wz (decide (x ≤ at_)) (decide (x2 ≤ at_)))
                have KA := Lib.hid (add_any wz w.heap.size Ao co O at_ (min 1073741824 (min v1 v2)) hOz.out hDz.out.size (by have := hG.out.len; omega) ⟨by omega, by omega⟩ ⟨by omega, by omega⟩ (NF.fits hG.out.nf))
                by_cases hv : kp (decide (x ≤ at_)) (decide (x2 ≤ at_)) = true
                · have G2 := Lib.hid (hG.out.take (b := min 1073741824 (min v1 v2)) (by omega) (by omega) (fun j h1 h2 => by rw [hcon.out j h1 h2]; exact hv))
                  rw [hv] at KK
                  obtain ⟨O2, eO2⟩ : ∃ O2, O2 = addS O at_ (min 1073741824 (min v1 v2)) := ⟨_, rfl⟩
                  rw [← eO2] at G2 KA
                  rw [← ENO.out] at KA
                  clear eO2 hG hv hcon
                  refine (KK.out).mono ?_
                  rintro e w' ⟨rfl, rfl⟩
                  go_wp2_with fail
                  refine (KA.out).mono ?_
                  rintro e w5 ⟨A5, c5, rfl, O5, hb, _⟩
                  have D5 := Lib.hid (hDz.out.trans hb)
                  have P5 := Lib.hid O5
                  clear hb O5 KA KK
                  go_wp2_with fail
                  go_roundw
                  case rel => exact ⟨I2, J2, O2, min 1073741824 (min v1 v2), A5, c5, hI2, hJ2, rfl, rfl, rfl, rfl, P5, G2, (fun s hs => by have := hp.out s hs; omega), (fun s hs => by have := hq.out s hs; omega), D5⟩
                  case measure => simp [intOf]; omega
                · have hv' : kp (decide (x ≤ at_)) (decide (x2 ≤ at_)) = false := (by cases e : kp (decide (x ≤ at_)) (decide (x2 ≤ at_)) with | true => exact absurd e hv | false => rfl)
                  have G2 := Lib.hid (hG.out.skip (b := min 1073741824 (min v1 v2)) (by omega) (by omega) (fun j h1 h2 => by rw [hcon.out j h1 h2]; exact hv'))
                  rw [hv'] at KK
                  clear hG hv hv' hcon KA
                  refine (KK.out).mono ?_
                  rintro e w' ⟨rfl, rfl⟩
                  go_wp2_with fail
                  go_roundw
                  case rel => exact ⟨I2, J2, O, min 1073741824 (min v1 v2), Ao, co, hI2, hJ2, by rw [ENO.out], rfl, rfl, rfl, hOz, G2, (fun s hs => by have := hp.out s hs; omega), (fun s hs => by have := hq.out s hs; omega), hDz⟩
                  case measure => simp [intOf]; omega
            · obtain rfl : J2 = m := by omega
              obtain ⟨b3, o3, h3, _, c0, c1⟩ := SeesP.cells (HS.out.below hD3.out) (k := I2) (by rw [← EN.out]; exact hlt)
              cases h3
              rw [← HX.out] at c0
              rw [← HY.out] at c1
              go_wp2_with fail
              obtain ⟨v1, hv1⟩ : ∃ v, v = edgeS x y at_ := ⟨_, rfl⟩
              have g1 : at_ < v1 := by rw [hv1]; exact edgeS_gt (by omega)
              have g2 : v1 ≤ 1073741824 := by rw [hv1]; exact edgeS_le nf1 nf2
              have KE := Lib.hid (edge_any wr x y at_)
              rw [← hv1] at KE HA
              clear hv1
              refine (KE.out).mono ?_
              rintro e wa ⟨rfl, hb⟩
              have hDa := Lib.hid (hD3.out.trans (hb.mono hD3.out.size))
              have hOa := Lib.hid (hO3.out.below hb)
              clear hb KE
              have ib0 : ((I2 : Int) == (n : Int)) = false := by rw [beq_eq_false_iff_ne]; omega
              have HM0 : Hid (∀ j, at_ ≤ j → anyS M j = false) := fun j h1 => anyS_past (fun s hs => hq.out s (by rw [List.take_of_length_le (by rw [← EM.out]; exact Nat.le_refl _)]; exact hs)) h1
              have hcon : Hid (∀ j, at_ ≤ j → j < min 1073741824 v1 → kp (anyS L j) (anyS M j) = kp (decide (x ≤ at_)) false) := fun j h1 h2 => by rw [HA.out j h1 (by omega), HM0.out j h1]
              obtain ⟨wz, ewz⟩ : ∃ wz, wz = wa := ⟨_, rfl⟩
              have hDz : Hid (Below w.heap.size w wz) := by rw [ewz]; exact hDa.out
              have hOz : Hid (OwnP wz w.heap.size Ao co O) := by rw [ewz]; exact hOa.out
              clear hDa hOa
              subst ewz
              go_wp2_with fail
              have KK := Lib.hid (K.out wz (decide (x ≤ at_)) (false))
              have KA := Lib.hid (add_any wz w.heap.size Ao co O at_ (min 1073741824 v1) hOz.out hDz.out.size (by have := hG.out.len; omega) ⟨by omega, by omega⟩ ⟨by omega, by omega⟩ (NF.fits hG.out.nf))
              by_cases hv : kp (decide (x ≤ at_)) (false) = true
              · have G2 := Lib.hid (hG.out.take (b := min 1073741824 v1) (by omega) (by omega) (fun j h1 h2 => by rw [hcon.out j h1 h2]; exact hv))
                rw [hv] at KK
                obtain ⟨O2, eO2⟩ : ∃ O2, O2 = addS O at_ (min 1073741824 v1) := ⟨_, rfl⟩
                rw [← eO2] at G2 KA
                rw [← ENO.out] at KA
                clear eO2 hG hv hcon
                refine (KK.out).mono ?_
                rintro e w' ⟨rfl, rfl⟩
                go_wp2_with fail
                refine (KA.out).mono ?_
                rintro e w5 ⟨A5, c5, rfl, O5, hb, _⟩
                have D5 := Lib.hid (hDz.out.trans hb)
                have P5 := Lib.hid O5
                clear hb O5 KA KK
                go_wp2_with fail
                go_roundw
                case rel => exact ⟨I2, J2, O2, min 1073741824 v1, A5, c5, hI2, hJ2, rfl, rfl, rfl, rfl, P5, G2, (fun s hs => by have := hp.out s hs; omega), (fun s hs => by have := hq.out s hs; omega), D5⟩
                case measure => simp [intOf]; omega
              · have hv' : kp (decide (x ≤ at_)) (false) = false := (by cases e : kp (decide (x ≤ at_)) (false) with | true => exact absurd e hv | false => rfl)
                have G2 := Lib.hid (hG.out.skip (b := min 1073741824 v1) (by omega) (by omega) (fun j h1 h2 => by rw [hcon.out j h1 h2]; exact hv'))
                rw [hv'] at KK
                clear hG hv hv' hcon KA
                refine (KK.out).mono ?_
                rintro e w' ⟨rfl, rfl⟩
                go_wp2_with fail
                go_roundw
                case rel => exact ⟨I2, J2, O, min 1073741824 v1, Ao, co, hI2, hJ2, by rw [ENO.out], rfl, rfl, rfl, hOz, G2, (fun s hs => by have := hp.out s hs; omega), (fun s hs => by have := hq.out s hs; omega), hDz⟩
                case measure => simp [intOf]; omega
      · obtain rfl : I2 = n := by omega
        go_wp2_with fail
        go_loopw [12] (fun i wr => ∃ J2 : Nat, J2 ≤ m ∧ i = .int .i64 J2 ∧ Hid (∀ s ∈ M.take J2, s.2 ≤ at_) ∧ Hid (OwnP wr w.heap.size Ao co O) ∧ Hid (Below w.heap.size w wr)) (fun i _ => m - (intOf i).toNat)
        case atStart => exact ⟨J, hJ, rfl, hq0, hO2, hD2⟩
        case round =>
          obtain ⟨J2, hJ2, rfl, hq, hO3, hD3⟩ := hrel
          clear hO2 hD2 hq0
          by_cases hlt2 : J2 < m
          · obtain ⟨b', o', rfl, hb1, e0, e1⟩ := SeesP.cells (HS2.out.below hD3.out) (k := J2) (by rw [← EM.out]; exact hlt2)
            obtain ⟨_, mf1, _, mf2⟩ := NFfrom.mem NM.out _ (sg_mem M (show J2 < M.length by rw [← EM.out]; exact hlt2))
            by_cases hle2 : (sg M J2).2 ≤ at_
            · have hq' := Lib.hid (take_past (show J2 < M.length by rw [← EM.out]; exact hlt2) hq.out hle2)
              obtain ⟨y2, hy2⟩ : ∃ y, y = (sg M J2).2 := ⟨_, rfl⟩
              rw [← hy2] at e1 hle2
              clear e0 mf1 mf2 hy2
              go_wp2_with fail
              go_roundw
              case rel => exact ⟨J2 + 1, by omega, by go_num, hq', hO3, hD3⟩
              case measure => simp [intOf]; omega
            · have HB2 : Hid (∀ j, at_ ≤ j → j < edgeS (sg M J2).1 (sg M J2).2 at_ → anyS M j = decide ((sg M J2).1 ≤ at_)) := fun j h1 h2 => anyS_next NM.out (show J2 < M.length by rw [← EM.out]; exact hlt2) hq.out (by omega) h1 h2
              obtain ⟨x2, hx2⟩ : ∃ x, x = (sg M J2).1 := ⟨_, rfl⟩
              obtain ⟨y2, hy2⟩ : ∃ y, y = (sg M J2).2 := ⟨_, rfl⟩
              rw [← hx2, ← hy2] at HB2
              rw [← hx2] at e0
              rw [← hy2] at e1 hle2 mf2
              rw [← hx2, ← hy2] at mf1
              have HX2 := Lib.hid hx2
              have HY2 := Lib.hid hy2
              clear hx2 hy2
              have jb : ((J2 : Int) == (m : Int)) = false := by rw [beq_eq_false_iff_ne]; omega
              skip
              go_wp2_with fail
              obtain ⟨v2, hv2⟩ : ∃ v, v = edgeS x2 y2 at_ := ⟨_, rfl⟩
              have g3 : at_ < v2 := by rw [hv2]; exact edgeS_gt (by omega)
              have g4 : v2 ≤ 1073741824 := by rw [hv2]; exact edgeS_le mf1 mf2
              have KE := Lib.hid (edge_any wr x2 y2 at_)
              rw [← hv2] at KE HB2
              clear hv2
              refine (KE.out).mono ?_
              rintro e wz ⟨rfl, hb⟩
              have hDz := Lib.hid (hD3.out.trans (hb.mono hD3.out.size))
              have hOz := Lib.hid (hO3.out.below hb)
              have HL0 : Hid (∀ j, at_ ≤ j → anyS L j = false) := fun j h1 => anyS_past (fun s hs => hp.out s (by rw [List.take_of_length_le (by rw [← EN.out]; exact Nat.le_refl _)]; exact hs)) h1
              have hcon : Hid (∀ j, at_ ≤ j → j < min 1073741824 v2 → kp (anyS L j) (anyS M j) = kp false (decide (x2 ≤ at_))) := fun j h1 h2 => by rw [HL0.out j h1, HB2.out j h1 (by omega)]
              clear hb KE hO3 hD3
              go_wp2_with fail
              have KK := Lib.hid (K.out wz (false) (decide (x2 ≤ at_)))
              have KA := Lib.hid (add_any wz w.heap.size Ao co O at_ (min 1073741824 v2) hOz.out hDz.out.size (by have := hG.out.len; omega) ⟨by omega, by omega⟩ ⟨by omega, by omega⟩ (NF.fits hG.out.nf))
              by_cases hv : kp (false) (decide (x2 ≤ at_)) = true
              · have G2 := Lib.hid (hG.out.take (b := min 1073741824 v2) (by omega) (by omega) (fun j h1 h2 => by rw [hcon.out j h1 h2]; exact hv))
                rw [hv] at KK
                obtain ⟨O2, eO2⟩ : ∃ O2, O2 = addS O at_ (min 1073741824 v2) := ⟨_, rfl⟩
                rw [← eO2] at G2 KA
                rw [← ENO.out] at KA
                clear eO2 hG hv hcon
                refine (KK.out).mono ?_
                rintro e w' ⟨rfl, rfl⟩
                go_wp2_with fail
                refine (KA.out).mono ?_
                rintro e w5 ⟨A5, c5, rfl, O5, hb, _⟩
                have D5 := Lib.hid (hDz.out.trans hb)
                have P5 := Lib.hid O5
                clear hb O5 KA KK
                go_wp2_with fail
                go_roundw
                case rel => exact ⟨I2, J2, O2, min 1073741824 v2, A5, c5, hI2, hJ2, rfl, rfl, rfl, rfl, P5, G2, (fun s hs => by have := hp.out s hs; omega), (fun s hs => by have := hq.out s hs; omega), D5⟩
                case measure => simp [intOf]; omega
              · have hv' : kp (false) (decide (x2 ≤ at_)) = false := (by cases e : kp (false) (decide (x2 ≤ at_)) with | true => exact absurd e hv | false => rfl)
                have G2 := Lib.hid (hG.out.skip (b := min 1073741824 v2) (by omega) (by omega) (fun j h1 h2 => by rw [hcon.out j h1 h2]; exact hv'))
                rw [hv'] at KK
                clear hG hv hv' hcon KA
                refine (KK.out).mono ?_
                rintro e w' ⟨rfl, rfl⟩
                go_wp2_with fail
                go_roundw
                case rel => exact ⟨I2, J2, O, min 1073741824 v2, Ao, co, hI2, hJ2, by rw [ENO.out], rfl, rfl, rfl, hOz, G2, (fun s hs => by have := hp.out s hs; omega), (fun s hs => by have := hq.out s hs; omega), hDz⟩
                case measure => simp [intOf]; omega
          · obtain rfl : J2 = m := by omega
            skip
            have hst := Lib.hid (hG.out.stop (fun s hs => hp.out s (by rw [List.take_of_length_le (by rw [← EN.out]; exact Nat.le_refl _)]; exact hs)) (fun s hs => hq.out s (by rw [List.take_of_length_le (by rw [← EM.out]; exact Nat.le_refl _)]; exact hs)) HK0.out)
            have KD := Lib.hid (done_any w wr Ao co O (hO3.out.sees) hO3.out.le (by have := hG.out.len; omega) hD3.out)
            rw [← ENO.out] at KD
            go_wp2_with fail
            refine (KD.out).mono ?_
            rintro e w5 ⟨A5, rfl, q1, hb⟩
            have H : Hid (∃ R, Merged kp L M R ∧ SPost w (dS R) (dE R) (.returned (.tuple #[.slice A5 (dS O).length (dS O).length, .int .i64 (dE O)])) w5) := ⟨O, hst.out, A5, rfl, q1, hb⟩
            clear q1 hb KD
            go_wp2_with fail
            rw [Exit.noGoto_ret]
            go_ret2
            exact H.out
set_option maxRecDepth 100000 in
set_option maxHeartbeats 12800000 in
theorem without_ok (w : World) (A A2 : Option Addr) (c c2 B B2 : Nat) (L M : Sp) (h : SeesP w B A L) (h2 : SeesP w B2 A2 M) (hB : B ≤ w.heap.size) (hB2 : B2 ≤ w.heap.size) (hL : chkS L = 0) (hM : chkS M = 0) :
    Calls Try.prog 69 #[.slice A L.length c, .slice A2 M.length c2, .func (.func 70) #[] #[]] w fun e w' => ∃ R, Merged (fun x y => x && !y) L M R ∧ SPost w (dS R) (dE R) e w' := by
  have hk0 : (fun x y => x && !y) false false = false := rfl
  obtain ⟨kp, ekp⟩ : ∃ kp : Bool → Bool → Bool, kp = (fun x y => x && !y) := ⟨_, rfl⟩
  have K0 : ∀ W x y, Calls Try.prog 70 #[.bool x, .bool y] W fun e w' => e = .returned (.bool (kp x y)) ∧ W = w' := by rw [ekp]; exact not_any
  rw [← ekp] at hk0 ⊢
  clear ekp
  have K := Lib.hid K0
  have HK0 := Lib.hid hk0
  obtain ⟨nfL, lL⟩ := chkS_zero.1 hL
  obtain ⟨nfM, lM⟩ := chkS_zero.1 hM
  have K1 := Lib.hid (both_any w A A2 c c2 B B2 L M h h2 hB hB2 (NF.fits nfL) (NF.fits nfM) (by omega) (by omega))
  rw [if_pos hL, hM] at K1
  have HS := Lib.hid (h.more hB)
  have HS2 := Lib.hid (h2.more hB2)
  have NL := Lib.hid nfL
  have NM := Lib.hid nfM
  have G0 : Hid (Mg kp L M [] 0) := Mg.start nfL nfM hk0
  obtain ⟨n, en⟩ : ∃ n, n = L.length := ⟨_, rfl⟩
  obtain ⟨m, em⟩ : ∃ n, n = M.length := ⟨_, rfl⟩
  have EN := Lib.hid en
  have EM := Lib.hid em
  rw [← en] at K1 lL
  rw [← em] at K1 lM
  rw [← en, ← em]
  clear h h2 hL hM nfL nfM K0 en em hk0
  go_enter Try.func69, Try.ntmps69
  go_wp2_with fail
  go_step3
  go_wp2_with fail
  refine (K1.out).mono ?_
  rintro e w1 ⟨rfl, hb⟩
  have D1 := Lib.hid hb
  clear hb K1
  go_wp2_with fail
  go_step3
  go_wp2_with fail
  go_loopw [9, 10, 11, 12] (fun o a i j wr => ∃ (I J : Nat) (O : Sp) (at_ : Int) (Ao : Option Addr) (co : Nat), I ≤ n ∧ J ≤ m ∧ o = .slice Ao O.length co ∧ a = .int .i64 at_ ∧ i = .int .i64 I ∧ j = .int .i64 J ∧ Hid (OwnP wr w.heap.size Ao co O) ∧ Hid (Mg kp L M O at_) ∧ Hid (∀ s ∈ L.take I, s.2 ≤ at_) ∧ Hid (∀ s ∈ M.take J, s.2 ≤ at_) ∧ Hid (Below w.heap.size w wr)) (fun _ a _ _ _ => (1073741824 - (intOf a)).toNat)
  case atStart => exact ⟨0, 0, [], 0, none, 0, Nat.zero_le _, Nat.zero_le _, rfl, rfl, rfl, rfl, Own.nil _ _ _ _ _, G0, (fun s hs => absurd hs (by simp)), (fun s hs => absurd hs (by simp)), D1⟩
  case round =>
    obtain ⟨I, J, O, at_, Ao, co, hI, hJ, rfl, rfl, rfl, rfl, hO, hG, hp0, hq0, hD⟩ := hrel
    clear D1 G0
    have b0 := hG.out.a0
    have b1 := hG.out.a1
    obtain ⟨nO, enO⟩ : ∃ nO, nO = O.length := ⟨_, rfl⟩
    have ENO := Lib.hid enO
    rw [← enO]
    clear enO
    go_wp2_with fail
    go_loopw [11] (fun i wr => ∃ I2 : Nat, I2 ≤ n ∧ i = .int .i64 I2 ∧ Hid (∀ s ∈ L.take I2, s.2 ≤ at_) ∧ Hid (OwnP wr w.heap.size Ao co O) ∧ Hid (Below w.heap.size w wr)) (fun i _ => n - (intOf i).toNat)
    case atStart => exact ⟨I, hI, rfl, hp0, hO, hD⟩
    case round =>
      obtain ⟨I2, hI2, rfl, hp, hO2, hD2⟩ := hrel
      clear hO hD hp0
      by_cases hlt : I2 < n
      · obtain ⟨b, o, rfl, hb0, c0, c1⟩ := SeesP.cells (HS.out.below hD2.out) (k := I2) (by rw [← EN.out]; exact hlt)
        obtain ⟨_, nf1, _, nf2⟩ := NFfrom.mem NL.out _ (sg_mem L (show I2 < L.length by rw [← EN.out]; exact hlt))
        by_cases hle : (sg L I2).2 ≤ at_
        · have hp' := Lib.hid (take_past (show I2 < L.length by rw [← EN.out]; exact hlt) hp.out hle)
          obtain ⟨y, hy⟩ : ∃ y, y = (sg L I2).2 := ⟨_, rfl⟩
          rw [← hy] at c1 hle
          clear c0 nf1 nf2 hy
          go_wp2_with fail
          go_roundw
          case rel => exact ⟨I2 + 1, by omega, by go_num, hp', hO2, hD2⟩
          case measure => simp [intOf]; omega
        · have HA : Hid (∀ j, at_ ≤ j → j < edgeS (sg L I2).1 (sg L I2).2 at_ → anyS L j = decide ((sg L I2).1 ≤ at_)) := fun j h1 h2 => anyS_next NL.out (show I2 < L.length by rw [← EN.out]; exact hlt) hp.out (by omega) h1 h2
          obtain ⟨x, hx⟩ : ∃ x, x = (sg L I2).1 := ⟨_, rfl⟩
          obtain ⟨y, hy⟩ : ∃ y, y = (sg L I2).2 := ⟨_, rfl⟩
          rw [← hx, ← hy] at HA
          rw [← hx] at c0
          rw [← hy] at c1 hle
          rw [← hx, ← hy] at nf1
          rw [← hy] at nf2
          have HX := Lib.hid hx
          have HY := Lib.hid hy
          clear hx hy
          go_wp2_with fail
          clear c0 c1
          go_loopw [12] (fun i wr => ∃ J2 : Nat, J2 ≤ m ∧ i = .int .i64 J2 ∧ Hid (∀ s ∈ M.take J2, s.2 ≤ at_) ∧ Hid (OwnP wr w.heap.size Ao co O) ∧ Hid (Below w.heap.size w wr)) (fun i _ => m - (intOf i).toNat)
          case atStart => exact ⟨J, hJ, rfl, hq0, hO2, hD2⟩
          case round =>
            obtain ⟨J2, hJ2, rfl, hq, hO3, hD3⟩ := hrel
            clear hO2 hD2 hq0
            by_cases hlt2 : J2 < m
            · obtain ⟨b', o', rfl, hb1, e0, e1⟩ := SeesP.cells (HS2.out.below hD3.out) (k := J2) (by rw [← EM.out]; exact hlt2)
              obtain ⟨_, mf1, _, mf2⟩ := NFfrom.mem NM.out _ (sg_mem M (show J2 < M.length by rw [← EM.out]; exact hlt2))
              by_cases hle2 : (sg M J2).2 ≤ at_
              · have hq' := Lib.hid (take_past (show J2 < M.length by rw [← EM.out]; exact hlt2) hq.out hle2)
                obtain ⟨y2, hy2⟩ : ∃ y, y = (sg M J2).2 := ⟨_, rfl⟩
                rw [← hy2] at e1 hle2
                clear e0 mf1 mf2 hy2
                go_wp2_with fail
                go_roundw
                case rel => exact ⟨J2 + 1, by omega, by go_num, hq', hO3, hD3⟩
                case measure => simp [intOf]; omega
              · have HB2 : Hid (∀ j, at_ ≤ j → j < edgeS (sg M J2).1 (sg M J2).2 at_ → anyS M j = decide ((sg M J2).1 ≤ at_)) := fun j h1 h2 => anyS_next NM.out (show J2 < M.length by rw [← EM.out]; exact hlt2) hq.out (by omega) h1 h2
                obtain ⟨x2, hx2⟩ : ∃ x, x = (sg M J2).1 := ⟨_, rfl⟩
                obtain ⟨y2, hy2⟩ : ∃ y, y = (sg M J2).2 := ⟨_, rfl⟩
                rw [← hx2, ← hy2] at HB2
                rw [← hx2] at e0
                rw [← hy2] at e1 hle2 mf2
                rw [← hx2, ← hy2] at mf1
                have HX2 := Lib.hid hx2
                have HY2 := Lib.hid hy2
                clear hx2 hy2
                have jb : ((J2 : Int) == (m : Int)) = false := by rw [beq_eq_false_iff_ne]; omega
                obtain ⟨b3, o3, h3, _, c0, c1⟩ := SeesP.cells (HS.out.below hD3.out) (k := I2) (by rw [← EN.out]; exact hlt)
                cases h3
                rw [← HX.out] at c0
                rw [← HY.out] at c1
                go_wp2_with fail
                obtain ⟨v1, hv1⟩ : ∃ v, v = edgeS x y at_ := ⟨_, rfl⟩
                have g1 : at_ < v1 := by rw [hv1]; exact edgeS_gt (by omega)
                have g2 : v1 ≤ 1073741824 := by rw [hv1]; exact edgeS_le nf1 nf2
                have KE := Lib.hid (edge_any wr x y at_)
                rw [← hv1] at KE HA
                clear hv1
                refine (KE.out).mono ?_
                rintro e wa ⟨rfl, hb⟩
                have hDa := Lib.hid (hD3.out.trans (hb.mono hD3.out.size))
                have hOa := Lib.hid (hO3.out.below hb)
                clear hb KE
                obtain ⟨b4, o4, h4, _, e0, e1⟩ := SeesP.cells (HS2.out.below hDa.out) (k := J2) (by rw [← EM.out]; exact hlt2)
                cases h4
                rw [← HX2.out] at e0
                rw [← HY2.out] at e1
                go_wp2_with fail
                obtain ⟨v2, hv2⟩ : ∃ v, v = edgeS x2 y2 at_ := ⟨_, rfl⟩
                have g3 : at_ < v2 := by rw [hv2]; exact edgeS_gt (by omega)
                have g4 : v2 ≤ 1073741824 := by rw [hv2]; exact edgeS_le mf1 mf2
                have KE := Lib.hid (edge_any wa x2 y2 at_)
                rw [← hv2] at KE HB2
                clear hv2
                refine (KE.out).mono ?_
                rintro e wz ⟨rfl, hb⟩
                have hDz := Lib.hid (hDa.out.trans (hb.mono hDa.out.size))
                have hOz := Lib.hid (hOa.out.below hb)
                have hcon : Hid (∀ j, at_ ≤ j → j < min 1073741824 (min v1 v2) → kp (anyS L j) (anyS M j) = kp (decide (x ≤ at_)) (decide (x2 ≤ at_))) := fun j h1 h2 => by rw [HA.out j h1 (by omega), HB2.out j h1 (by omega)]
                have ib0 : ((I2 : Int) == (n : Int)) = false := by rw [beq_eq_false_iff_ne]; omega
                clear hb KE hOa hDa
                go_wp2_with fail
                have KK := Lib.hid (K.out wz (decide (x ≤ at_)) (decide (x2 ≤ at_)))
                have KA := Lib.hid (add_any wz w.heap.size Ao co O at_ (min 1073741824 (min v1 v2)) hOz.out hDz.out.size (by have := hG.out.len; omega) ⟨by omega, by omega⟩ ⟨by omega, by omega⟩ (NF.fits hG.out.nf))
                by_cases hv : kp (decide (x ≤ at_)) (decide (x2 ≤ at_)) = true
                · have G2 := Lib.hid (hG.out.take (b := min 1073741824 (min v1 v2)) (by omega) (by omega) (fun j h1 h2 => by rw [hcon.out j h1 h2]; exact hv))
                  rw [hv] at KK
                  obtain ⟨O2, eO2⟩ : ∃ O2, O2 = addS O at_ (min 1073741824 (min v1 v2)) := ⟨_, rfl⟩
                  rw [← eO2] at G2 KA
                  rw [← ENO.out] at KA
                  clear eO2 hG hv hcon
                  refine (KK.out).mono ?_
                  rintro e w' ⟨rfl, rfl⟩
                  go_wp2_with fail
                  refine (KA.out).mono ?_
                  rintro e w5 ⟨A5, c5, rfl, O5, hb, _⟩
                  have D5 := Lib.hid (hDz.out.trans hb)
                  have P5 := Lib.hid O5
                  clear hb O5 KA KK
                  go_wp2_with fail
                  go_roundw
                  case rel => exact ⟨I2, J2, O2, min 1073741824 (min v1 v2), A5, c5, hI2, hJ2, rfl, rfl, rfl, rfl, P5, G2, (fun s hs => by have := hp.out s hs; omega), (fun s hs => by have := hq.out s hs; omega), D5⟩
                  case measure => simp [intOf]; omega
                · have hv' : kp (decide (x ≤ at_)) (decide (x2 ≤ at_)) = false := (by cases e : kp (decide (x ≤ at_)) (decide (x2 ≤ at_)) with | true => exact absurd e hv | false => rfl)
                  have G2 := Lib.hid (hG.out.skip (b := min 1073741824 (min v1 v2)) (by omega) (by omega) (fun j h1 h2 => by rw [hcon.out j h1 h2]; exact hv'))
                  rw [hv'] at KK
                  clear hG hv hv' hcon KA
                  refine (KK.out).mono ?_
                  rintro e w' ⟨rfl, rfl⟩
                  go_wp2_with fail
                  go_roundw
                  case rel => exact ⟨I2, J2, O, min 1073741824 (min v1 v2), Ao, co, hI2, hJ2, by rw [ENO.out], rfl, rfl, rfl, hOz, G2, (fun s hs => by have := hp.out s hs; omega), (fun s hs => by have := hq.out s hs; omega), hDz⟩
                  case measure => simp [intOf]; omega
            · obtain rfl : J2 = m := by omega
              obtain ⟨b3, o3, h3, _, c0, c1⟩ := SeesP.cells (HS.out.below hD3.out) (k := I2) (by rw [← EN.out]; exact hlt)
              cases h3
              rw [← HX.out] at c0
              rw [← HY.out] at c1
              go_wp2_with fail
              obtain ⟨v1, hv1⟩ : ∃ v, v = edgeS x y at_ := ⟨_, rfl⟩
              have g1 : at_ < v1 := by rw [hv1]; exact edgeS_gt (by omega)
              have g2 : v1 ≤ 1073741824 := by rw [hv1]; exact edgeS_le nf1 nf2
              have KE := Lib.hid (edge_any wr x y at_)
              rw [← hv1] at KE HA
              clear hv1
              refine (KE.out).mono ?_
              rintro e wa ⟨rfl, hb⟩
              have hDa := Lib.hid (hD3.out.trans (hb.mono hD3.out.size))
              have hOa := Lib.hid (hO3.out.below hb)
              clear hb KE
              have ib0 : ((I2 : Int) == (n : Int)) = false := by rw [beq_eq_false_iff_ne]; omega
              have HM0 : Hid (∀ j, at_ ≤ j → anyS M j = false) := fun j h1 => anyS_past (fun s hs => hq.out s (by rw [List.take_of_length_le (by rw [← EM.out]; exact Nat.le_refl _)]; exact hs)) h1
              have hcon : Hid (∀ j, at_ ≤ j → j < min 1073741824 v1 → kp (anyS L j) (anyS M j) = kp (decide (x ≤ at_)) false) := fun j h1 h2 => by rw [HA.out j h1 (by omega), HM0.out j h1]
              obtain ⟨wz, ewz⟩ : ∃ wz, wz = wa := ⟨_, rfl⟩
              have hDz : Hid (Below w.heap.size w wz) := by rw [ewz]; exact hDa.out
              have hOz : Hid (OwnP wz w.heap.size Ao co O) := by rw [ewz]; exact hOa.out
              clear hDa hOa
              subst ewz
              go_wp2_with fail
              have KK := Lib.hid (K.out wz (decide (x ≤ at_)) (false))
              have KA := Lib.hid (add_any wz w.heap.size Ao co O at_ (min 1073741824 v1) hOz.out hDz.out.size (by have := hG.out.len; omega) ⟨by omega, by omega⟩ ⟨by omega, by omega⟩ (NF.fits hG.out.nf))
              by_cases hv : kp (decide (x ≤ at_)) (false) = true
              · have G2 := Lib.hid (hG.out.take (b := min 1073741824 v1) (by omega) (by omega) (fun j h1 h2 => by rw [hcon.out j h1 h2]; exact hv))
                rw [hv] at KK
                obtain ⟨O2, eO2⟩ : ∃ O2, O2 = addS O at_ (min 1073741824 v1) := ⟨_, rfl⟩
                rw [← eO2] at G2 KA
                rw [← ENO.out] at KA
                clear eO2 hG hv hcon
                refine (KK.out).mono ?_
                rintro e w' ⟨rfl, rfl⟩
                go_wp2_with fail
                refine (KA.out).mono ?_
                rintro e w5 ⟨A5, c5, rfl, O5, hb, _⟩
                have D5 := Lib.hid (hDz.out.trans hb)
                have P5 := Lib.hid O5
                clear hb O5 KA KK
                go_wp2_with fail
                go_roundw
                case rel => exact ⟨I2, J2, O2, min 1073741824 v1, A5, c5, hI2, hJ2, rfl, rfl, rfl, rfl, P5, G2, (fun s hs => by have := hp.out s hs; omega), (fun s hs => by have := hq.out s hs; omega), D5⟩
                case measure => simp [intOf]; omega
              · have hv' : kp (decide (x ≤ at_)) (false) = false := (by cases e : kp (decide (x ≤ at_)) (false) with | true => exact absurd e hv | false => rfl)
                have G2 := Lib.hid (hG.out.skip (b := min 1073741824 v1) (by omega) (by omega) (fun j h1 h2 => by rw [hcon.out j h1 h2]; exact hv'))
                rw [hv'] at KK
                clear hG hv hv' hcon KA
                refine (KK.out).mono ?_
                rintro e w' ⟨rfl, rfl⟩
                go_wp2_with fail
                go_roundw
                case rel => exact ⟨I2, J2, O, min 1073741824 v1, Ao, co, hI2, hJ2, by rw [ENO.out], rfl, rfl, rfl, hOz, G2, (fun s hs => by have := hp.out s hs; omega), (fun s hs => by have := hq.out s hs; omega), hDz⟩
                case measure => simp [intOf]; omega
      · obtain rfl : I2 = n := by omega
        go_wp2_with fail
        go_loopw [12] (fun i wr => ∃ J2 : Nat, J2 ≤ m ∧ i = .int .i64 J2 ∧ Hid (∀ s ∈ M.take J2, s.2 ≤ at_) ∧ Hid (OwnP wr w.heap.size Ao co O) ∧ Hid (Below w.heap.size w wr)) (fun i _ => m - (intOf i).toNat)
        case atStart => exact ⟨J, hJ, rfl, hq0, hO2, hD2⟩
        case round =>
          obtain ⟨J2, hJ2, rfl, hq, hO3, hD3⟩ := hrel
          clear hO2 hD2 hq0
          by_cases hlt2 : J2 < m
          · obtain ⟨b', o', rfl, hb1, e0, e1⟩ := SeesP.cells (HS2.out.below hD3.out) (k := J2) (by rw [← EM.out]; exact hlt2)
            obtain ⟨_, mf1, _, mf2⟩ := NFfrom.mem NM.out _ (sg_mem M (show J2 < M.length by rw [← EM.out]; exact hlt2))
            by_cases hle2 : (sg M J2).2 ≤ at_
            · have hq' := Lib.hid (take_past (show J2 < M.length by rw [← EM.out]; exact hlt2) hq.out hle2)
              obtain ⟨y2, hy2⟩ : ∃ y, y = (sg M J2).2 := ⟨_, rfl⟩
              rw [← hy2] at e1 hle2
              clear e0 mf1 mf2 hy2
              go_wp2_with fail
              go_roundw
              case rel => exact ⟨J2 + 1, by omega, by go_num, hq', hO3, hD3⟩
              case measure => simp [intOf]; omega
            · have HB2 : Hid (∀ j, at_ ≤ j → j < edgeS (sg M J2).1 (sg M J2).2 at_ → anyS M j = decide ((sg M J2).1 ≤ at_)) := fun j h1 h2 => anyS_next NM.out (show J2 < M.length by rw [← EM.out]; exact hlt2) hq.out (by omega) h1 h2
              obtain ⟨x2, hx2⟩ : ∃ x, x = (sg M J2).1 := ⟨_, rfl⟩
              obtain ⟨y2, hy2⟩ : ∃ y, y = (sg M J2).2 := ⟨_, rfl⟩
              rw [← hx2, ← hy2] at HB2
              rw [← hx2] at e0
              rw [← hy2] at e1 hle2 mf2
              rw [← hx2, ← hy2] at mf1
              have HX2 := Lib.hid hx2
              have HY2 := Lib.hid hy2
              clear hx2 hy2
              have jb : ((J2 : Int) == (m : Int)) = false := by rw [beq_eq_false_iff_ne]; omega
              skip
              go_wp2_with fail
              obtain ⟨v2, hv2⟩ : ∃ v, v = edgeS x2 y2 at_ := ⟨_, rfl⟩
              have g3 : at_ < v2 := by rw [hv2]; exact edgeS_gt (by omega)
              have g4 : v2 ≤ 1073741824 := by rw [hv2]; exact edgeS_le mf1 mf2
              have KE := Lib.hid (edge_any wr x2 y2 at_)
              rw [← hv2] at KE HB2
              clear hv2
              refine (KE.out).mono ?_
              rintro e wz ⟨rfl, hb⟩
              have hDz := Lib.hid (hD3.out.trans (hb.mono hD3.out.size))
              have hOz := Lib.hid (hO3.out.below hb)
              have HL0 : Hid (∀ j, at_ ≤ j → anyS L j = false) := fun j h1 => anyS_past (fun s hs => hp.out s (by rw [List.take_of_length_le (by rw [← EN.out]; exact Nat.le_refl _)]; exact hs)) h1
              have hcon : Hid (∀ j, at_ ≤ j → j < min 1073741824 v2 → kp (anyS L j) (anyS M j) = kp false (decide (x2 ≤ at_))) := fun j h1 h2 => by rw [HL0.out j h1, HB2.out j h1 (by omega)]
              clear hb KE hO3 hD3
              go_wp2_with fail
              have KK := Lib.hid (K.out wz (false) (decide (x2 ≤ at_)))
              have KA := Lib.hid (add_any wz w.heap.size Ao co O at_ (min 1073741824 v2) hOz.out hDz.out.size (by have := hG.out.len; omega) ⟨by omega, by omega⟩ ⟨by omega, by omega⟩ (NF.fits hG.out.nf))
              by_cases hv : kp (false) (decide (x2 ≤ at_)) = true
              · have G2 := Lib.hid (hG.out.take (b := min 1073741824 v2) (by omega) (by omega) (fun j h1 h2 => by rw [hcon.out j h1 h2]; exact hv))
                rw [hv] at KK
                obtain ⟨O2, eO2⟩ : ∃ O2, O2 = addS O at_ (min 1073741824 v2) := ⟨_, rfl⟩
                rw [← eO2] at G2 KA
                rw [← ENO.out] at KA
                clear eO2 hG hv hcon
                refine (KK.out).mono ?_
                rintro e w' ⟨rfl, rfl⟩
                go_wp2_with fail
                refine (KA.out).mono ?_
                rintro e w5 ⟨A5, c5, rfl, O5, hb, _⟩
                have D5 := Lib.hid (hDz.out.trans hb)
                have P5 := Lib.hid O5
                clear hb O5 KA KK
                go_wp2_with fail
                go_roundw
                case rel => exact ⟨I2, J2, O2, min 1073741824 v2, A5, c5, hI2, hJ2, rfl, rfl, rfl, rfl, P5, G2, (fun s hs => by have := hp.out s hs; omega), (fun s hs => by have := hq.out s hs; omega), D5⟩
                case measure => simp [intOf]; omega
              · have hv' : kp (false) (decide (x2 ≤ at_)) = false := (by cases e : kp (false) (decide (x2 ≤ at_)) with | true => exact absurd e hv | false => rfl)
                have G2 := Lib.hid (hG.out.skip (b := min 1073741824 v2) (by omega) (by omega) (fun j h1 h2 => by rw [hcon.out j h1 h2]; exact hv'))
                rw [hv'] at KK
                clear hG hv hv' hcon KA
                refine (KK.out).mono ?_
                rintro e w' ⟨rfl, rfl⟩
                go_wp2_with fail
                go_roundw
                case rel => exact ⟨I2, J2, O, min 1073741824 v2, Ao, co, hI2, hJ2, by rw [ENO.out], rfl, rfl, rfl, hOz, G2, (fun s hs => by have := hp.out s hs; omega), (fun s hs => by have := hq.out s hs; omega), hDz⟩
                case measure => simp [intOf]; omega
          · obtain rfl : J2 = m := by omega
            skip
            have hst := Lib.hid (hG.out.stop (fun s hs => hp.out s (by rw [List.take_of_length_le (by rw [← EN.out]; exact Nat.le_refl _)]; exact hs)) (fun s hs => hq.out s (by rw [List.take_of_length_le (by rw [← EM.out]; exact Nat.le_refl _)]; exact hs)) HK0.out)
            have KD := Lib.hid (done_any w wr Ao co O (hO3.out.sees) hO3.out.le (by have := hG.out.len; omega) hD3.out)
            rw [← ENO.out] at KD
            go_wp2_with fail
            refine (KD.out).mono ?_
            rintro e w5 ⟨A5, rfl, q1, hb⟩
            have H : Hid (∃ R, Merged kp L M R ∧ SPost w (dS R) (dE R) (.returned (.tuple #[.slice A5 (dS O).length (dS O).length, .int .i64 (dE O)])) w5) := ⟨O, hst.out, A5, rfl, q1, hb⟩
            clear q1 hb KD
            go_wp2_with fail
            rw [Exit.noGoto_ret]
            go_ret2
            exact H.out
end Go.Proofs.Ytngbaiijdgmpoaa

/-
  The law SpansErrors.
-/
import Derived.Test.YtglgkbocmnkokaaSpaQ
import Derived.Test.YtglgkbocmnkokaaSpaLaw1
import Derived.Test.YtglgkbocmnkokaaOpen
import Derived.BigQuiet
namespace Go.Proofs.Ytglgkbocmnkokaa
open Go.RowKit
set_option linter.unusedVariables false
set_option linter.unusedSimpArgs false

theorem agg2_of {k : IntKind} {cs : Array Value} (h : cs.size = 2) (f : ∀ i, i < 2 → ∃ x, cs[i]? = some (.int k x) ∧ (Lit.int k x).wf = true) : ∃ x y, cs = #[.int k x, .int k y] ∧ (Lit.int k x).wf = true ∧ (Lit.int k y).wf = true := by
  obtain ⟨x, hx, wx⟩ := f 0 (by omega)
  obtain ⟨y, hy, wy⟩ := f 1 (by omega)
  refine ⟨x, y, ?_, wx, wy⟩
  apply Array.ext_getElem?
  intro i
  match i with
  | 0 => exact hx
  | 1 => exact hy
  | i + 2 => rw [Array.getElem?_eq_none (by omega), Array.getElem?_eq_none (by simp)]
theorem InsPost.bad {w w' : World} {L : Sp} {a n x : Int} {e : Ending} (h : InsPost w L a n e w') (hx : rngS L a n = x) (x0 : x ≠ 0) : SPost w [] x e w' := by
  subst hx
  rcases h with ⟨_, h⟩ | ⟨h, _⟩ | ⟨h, _⟩
  · exact h
  · exact absurd h x0
  · exact absurd h x0
theorem RemPost.bad {w w' : World} {L : Sp} {a n x : Int} {e : Ending} (h : RemPost w L a n e w') (hx : rngS L a n = x) (x0 : x ≠ 0) : SPost w [] x e w' := by
  subst hx
  rcases h with ⟨_, h⟩ | ⟨h, _⟩
  · exact h
  · exact absurd h x0
/-- An insertion that is allowed. -/
theorem InsPost.small {w w' : World} {L : Sp} {a n : Int} {e : Ending} (h : InsPost w L a n e w') (hx : rngS L a n = 0) (hl : 2 * L.length + 1 ≤ 4096) : ∃ R x, SPost w R x e w' ∧ ((a < endS (-1) L ∧ 1073741824 < endS (-1) L + n) → R = [] ∧ x = 4) ∧ (¬ (a < endS (-1) L ∧ 1073741824 < endS (-1) L + n) → x = 0 ∧ chkS R = 0 ∧ R.length ≤ 2 * L.length + 1 ∧ cntS R = cntS L ∧ ∀ i, memS R i ↔ (i < a ∧ memS L i) ∨ (a + n ≤ i ∧ memS L (i - n))) := by
  obtain ⟨nf, _, a0, a1, n0, n1⟩ := rngS_zero hx
  rcases h with ⟨h, _⟩ | ⟨_, hf, h⟩ | ⟨_, hf, R, hR, hS⟩
  · exact absurd hx h
  · exact ⟨[], 4, h, fun _ => ⟨rfl, rfl⟩, fun q => absurd hf q⟩
  · have hme := hR.me
    rw [List.take_length] at hme
    have hln := ins_len hR.nf n0 hme
    rw [(dS_le (by omega)).1, (dS_le (by omega)).2] at hS
    refine ⟨R, 0, hS, fun q => absurd q hf, fun _ => ⟨rfl, chkS_zero.2 ⟨hR.nf, by omega⟩, hln, ?_, hme⟩⟩
    have := ins_cnt (a := a.toNat) (n := n.toNat) nf hR.nf (by omega) (by
      rw [Int.toNat_of_nonneg a0, Int.toNat_of_nonneg n0]; exact hme)
    exact this
theorem RemPost.small {w w' : World} {L : Sp} {a n : Int} {e : Ending} (h : RemPost w L a n e w') (hx : rngS L a n = 0) (hl : 2 * L.length + 1 ≤ 4096) : ∃ R, SPost w R 0 e w' ∧ chkS R = 0 ∧ R.length ≤ 2 * L.length + 1 ∧ cntS R = cntS L - goneS a n L ∧ ∀ i, memS R i ↔ (i < a ∧ memS L i) ∨ (a ≤ i ∧ memS L (i + n)) := by
  obtain ⟨nf, _, a0, a1, n0, n1⟩ := rngS_zero hx
  rcases h with ⟨h, _⟩ | ⟨_, R, hR, hS⟩
  · exact absurd hx h
  · have hme := hR.me
    rw [List.take_length] at hme
    have hln := rem_len hR.nf n0 hme
    rw [(dS_le (by omega)).1, (dS_le (by omega)).2] at hS
    refine ⟨R, hS, chkS_zero.2 ⟨hR.nf, by omega⟩, hln, ?_, hme⟩
    have := rem_cnt (a := a.toNat) (n := n.toNat) nf hR.nf (by omega) (by
      rw [Int.toNat_of_nonneg a0, Int.toNat_of_nonneg n0]; exact hme)
    rwa [Int.toNat_of_nonneg a0, Int.toNat_of_nonneg n0] at this
theorem goneS_rng {L : Sp} (h : NF L) {a n : Int} (hn : 0 ≤ n) : 0 ≤ goneS a n L ∧ goneS a n L ≤ n := by
  have e := NFfrom.cI h a n.toNat
  have := cI_le (anyS L) a n.toNat
  rw [Int.toNat_of_nonneg hn] at e
  omega
theorem goneS_nn (a n : Int) : ∀ L, 0 ≤ goneS a n L
  | [] => Int.le_refl _
  | s :: r => by
    have := goneS_nn a n r
    show 0 ≤ max 0 (min s.2 (a + n) - max s.1 a) + goneS a n r
    omega
theorem cntS_rng {L : Sp} (h : NF L) : 0 ≤ cntS L ∧ cntS L ≤ 1073741825 := by
  have h1 := NFfrom.cnt h
  have h2 := NFfrom.end_le h (by omega)
  omega


set_option maxRecDepth 100000 in
set_option maxHeartbeats 12800000 in
theorem law_errors (A : Option Addr) (n1 c : Nat) (L : Sp) (A2 : Option Addr) (n2 c2 : Nat) (M : Sp) (zz : Array Value) (w : World) (s : SeesP w w.heap.size A L ∧ n1 = L.length) (hf : FitsS L) (hc : n1 ≤ c) (hM : c ≤ maxLen) (s2 : SeesP w w.heap.size A2 M ∧ n2 = M.length) (hf2 : FitsS M) (hc2 : n2 ≤ c2) (hM2 : c2 ≤ maxLen)
    (hz : zz.size = 2) (fz : ∀ i, i < 2 → ∃ x, zz[i]? = some (.int .i64 x) ∧ (Lit.int .i64 x).wf = true) :
    Calls Try.prog 7 #[.slice A n1 c, .slice A2 n2 c2, .agg zz] w fun e w' => e = .returned (.bool true) ∧ Below w.heap.size w w' := by
  obtain ⟨hs, en1⟩ := s
  obtain ⟨hs2, en2⟩ := s2
  obtain ⟨a, d, rfl, wa, wd⟩ := agg2_of hz fz
  have EN1 := Lib.hid en1
  have EN2 := Lib.hid en2
  have HF := Lib.hid hf
  have HF2 := Lib.hid hf2
  obtain ⟨fa1, fa2⟩ : Fits a := by first | exact bounds_i64 wa | (have := wa; simp [Lit.wf] at this; unfold Fits; omega)
  obtain ⟨fd1, fd2⟩ : Fits d := by first | exact bounds_i64 wd | (have := wd; simp [Lit.wf] at this; unfold Fits; omega)
  have hm1 : n1 ≤ 9223372036854775807 := Nat.le_trans hc hM
  have hm2 : n2 ≤ 9223372036854775807 := Nat.le_trans hc2 hM2
  have BOX : Hid (Below w.heap.size w (w.alloc (.cells #[.int .i64 a, .int .i64 d] 51))) := (Below.refl _ w).alloc (Nat.le_refl _) _
  have X0 : Hid (PS (w.alloc (.cells #[.int .i64 a, .int .i64 d] 51)) (w.alloc (.cells #[.int .i64 a, .int .i64 d] 51)) [(A2, M), (A, L), (some ⟨w.heap.size, 0, none⟩, [(a, d)])]) :=
    (((PS.start (Below.refl _ _)).add (by have := litP w [(a, d)] 51; rw [World.size_alloc]; exact this)).add ((hs.below BOX.out).more (by rw [World.size_alloc]; omega))).add ((hs2.below BOX.out).more (by rw [World.size_alloc]; omega))
  clear hs hs2 hf hf2 hz fz wa wd hc hM hc2 hM2
  by_cases hbig : 40 < n1
  · clear X0 en1 en2
    go_enter Try.func7, Try.ntmps7
    go_wp2_with fail
    refine (lives_yes _).mono ?_
    rintro e w2 ⟨rfl, hb⟩
    have D := Lib.hid hb
    clear hb
    go_wp2_with fail
    go_ret
    exact ⟨rfl, BOX.out.trans (D.out.mono BOX.out.size)⟩
  by_cases hbig2 : 40 < n2
  · clear X0 en1 en2
    go_enter Try.func7, Try.ntmps7
    go_wp2_with fail
    refine (lives_yes _).mono ?_
    rintro e w2 ⟨rfl, hb⟩
    have D := Lib.hid hb
    clear hb
    go_wp2_with fail
    go_ret
    exact ⟨rfl, BOX.out.trans (D.out.mono BOX.out.size)⟩
  have K1 := Lib.hid (pairs_sees _ _ A c L (X0.out.see (.tail _ (.head _))) (Nat.le_refl _) (by omega))
  rw [← EN1.out] at K1
  obtain ⟨x, ex⟩ : ∃ x, x = chkS L := ⟨_, rfl⟩
  obtain ⟨y, ey⟩ : ∃ x, x = chkS M := ⟨_, rfl⟩
  have EX := Lib.hid ex
  have EY := Lib.hid ey
  obtain ⟨hx0, hx1⟩ : 0 ≤ x ∧ x ≤ 16 := by rw [ex]; exact chkS_rng L
  obtain ⟨hy0, hy1⟩ : 0 ≤ y ∧ y ≤ 16 := by rw [ey]; exact chkS_rng M
  clear en1 en2 ex ey
  go_enter Try.func7, Try.ntmps7
  go_wp2_with fail
  refine (K1.out).mono ?_
  rintro e w2 ⟨A1, c1, rfl, q1, hb⟩
  have X2 := Lib.hid (X0.out.below hb)
  have K2 := Lib.hid (refCheck_any w2 w2.heap.size A1 c1 L q1 (Nat.le_refl _) HF.out (by rw [← EN1.out]; omega))
  rw [← EN1.out, ← EX.out] at K2
  clear q1 hb K1 X0
  go_wp2_with fail
  refine (K2.out).mono ?_
  rintro e w3 ⟨rfl, hb⟩
  have X3 := Lib.hid (X2.out.below hb)
  clear hb K2 X2
  have K3 := Lib.hid (pairs_sees _ _ A2 c2 M (X3.out.see (.head _)) (Nat.le_refl _) (by rw [← EN2.out]; omega))
  rw [← EN2.out] at K3
  go_wp2_with fail
  refine (K3.out).mono ?_
  rintro e w4 ⟨A4, c4, rfl, q1, hb⟩
  have X4 := Lib.hid (X3.out.below hb)
  have K4 := Lib.hid (refCheck_any w4 w4.heap.size A4 c4 M q1 (Nat.le_refl _) HF2.out (by rw [← EN2.out]; omega))
  rw [← EN2.out, ← EY.out] at K4
  clear q1 hb K3 X3
  go_wp2_with fail
  refine (K4.out).mono ?_
  rintro e w5 ⟨rfl, hb⟩
  have X5 := Lib.hid (X4.out.below hb)
  clear hb K4 X4
  by_cases x0 : x = 0
  case neg =>
    have EW : Hid (wantS L M = x) := by show wantS L M = x; unfold wantS; rw [← EX.out, if_neg x0]
    have xe : (x == 0) = false := by rw [beq_eq_false_iff_ne]; exact x0
    have xn : (x != 0) = true := by rw [bne_iff_ne]; exact x0
    have xd : decide (x = 0) = false := decide_eq_false x0
    have hx2 : 0 < x := by omega
    have HR : Hid (rngS L a d = x) := by show rngS L a d = x; unfold rngS; rw [← EX.out, if_pos x0]
    have K4 := Lib.hid (union_any w5 A A2 c c2 _ _ L M (X5.out.see (.tail _ (.head _))) (X5.out.see (.head _)) (Nat.le_refl _) (Nat.le_refl _) HF.out HF2.out (by rw [← EN1.out]; omega) (by rw [← EN2.out]; omega))
    rw [← EN1.out, ← EN2.out] at K4
    go_wp2_with fail
    refine (K4.out).mono ?_
    rintro e w6 hp
    obtain ⟨R1, hs, z1, -⟩ := hp.small (by rw [← EN1.out, ← EN2.out]; omega)
    rw [EW.out] at hs z1
    obtain ⟨B1, rfl, q1, hb⟩ := hs
    have X6 := Lib.hid (X5.out.below hb)
    clear hb q1 K4 X5
    have K5 := Lib.hid (common_any w6 A A2 c c2 _ _ L M (X6.out.see (.tail _ (.head _))) (X6.out.see (.head _)) (Nat.le_refl _) (Nat.le_refl _) HF.out HF2.out (by rw [← EN1.out]; omega) (by rw [← EN2.out]; omega))
    rw [← EN1.out, ← EN2.out] at K5
    go_wp2_with fail
    refine (K5.out).mono ?_
    rintro e w7 hp
    obtain ⟨R2, hs, z2, -⟩ := hp.small (by rw [← EN1.out, ← EN2.out]; omega)
    rw [EW.out] at hs z2
    obtain ⟨B2, rfl, q1, hb⟩ := hs
    have X7 := Lib.hid (X6.out.below hb)
    clear hb q1 K5 X6
    have K6 := Lib.hid (without_any w7 A A2 c c2 _ _ L M (X7.out.see (.tail _ (.head _))) (X7.out.see (.head _)) (Nat.le_refl _) (Nat.le_refl _) HF.out HF2.out (by rw [← EN1.out]; omega) (by rw [← EN2.out]; omega))
    rw [← EN1.out, ← EN2.out] at K6
    go_wp2_with fail
    refine (K6.out).mono ?_
    rintro e w8 hp
    obtain ⟨R3, hs, z3, -⟩ := hp.small (by rw [← EN1.out, ← EN2.out]; omega)
    rw [EW.out] at hs z3
    obtain ⟨B3, rfl, q1, hb⟩ := hs
    have X8 := Lib.hid ((X7.out.below hb).drawn (.refl _))
    clear hb q1 K6 X7 EW
    obtain rfl := z1 x0
    obtain rfl := z2 x0
    obtain rfl := z3 x0
    clear z1 z2 z3
    obtain ⟨b9, o9, h9, _, zc0, zc1⟩ := SeesP.cells (L := [(a, d)]) (k := 0) (X8.out.see (.tail _ (.tail _ (.head _)))) (Nat.lt_succ_self 0)
    cases h9
    rw [show sg [(a, d)] 0 = (a, d) from rfl] at zc0 zc1
    rw [show 0 + 0 * 2 = 0 from rfl] at zc0 zc1
    have zc2 : ∀ q, (w8.drewN q).cell? ⟨w.heap.size, 0 + 1, none⟩ = some (.int .i64 d) := fun _ => zc1
    go_wp2_with fail
    go_quiet (fail)
    clear zc0 zc1 zc2
    have K9 := Lib.hid (insert_any _ _ A c L a d ((X8.out.drawn ((Drawn.refl _).drewN nq)).see (.tail _ (.head _))) (Nat.le_refl _) HF.out (by rw [← EN1.out]; omega) ⟨fa1, fa2⟩ ⟨fd1, fd2⟩)
    rw [← EN1.out] at K9
    go_wp2_with fail
    refine (K9.out).mono ?_
    rintro e w10 hp
    obtain ⟨B1', rfl, q1, hb⟩ := hp.bad HR.out x0
    have X10 := Lib.hid (((X8.out.drawn ((Drawn.refl _).drewN nq)).below hb).add q1)
    clear hb q1 K9
    have K10 := Lib.hid (remove_any w10 _ A c L a d (X10.out.see (.tail _ (.tail _ (.head _)))) (Nat.le_refl _) HF.out (by rw [← EN1.out]; omega) ⟨fa1, fa2⟩ ⟨fd1, fd2⟩)
    rw [← EN1.out] at K10
    go_wp2_with fail
    refine (K10.out).mono ?_
    rintro e w11 hp
    obtain ⟨B2', rfl, q1, hb⟩ := hp.bad HR.out x0
    have X11 := Lib.hid ((X10.out.below hb).add q1)
    clear hb q1 K10 X10
    have K11 := Lib.hid (same_yes w11 B1' none 0 _ 0 [] x (X11.out.see (.tail _ (.head _))) (seesP_nil _ _) (Nat.le_refl _) (Nat.zero_le _) (by decide))
    go_wp2_with fail
    refine (K11.out).mono ?_
    rintro e w12 ⟨rfl, hb⟩
    have X12 := Lib.hid (X11.out.below hb)
    clear hb K11 X11
    have K12 := Lib.hid (same_yes w12 B2' none 0 _ 0 [] x (X12.out.see (.head _)) (seesP_nil _ _) (Nat.le_refl _) (Nat.zero_le _) (by decide))
    go_wp2_with fail
    refine (K12.out).mono ?_
    rintro e w13 ⟨rfl, hb⟩
    have X13 := Lib.hid (X12.out.below hb)
    clear hb K12 X12
    go_wp2_with fail
    refine (lives_yes w13).mono ?_
    rintro e w14 ⟨rfl, hb⟩
    have X14 := Lib.hid (X13.out.below hb)
    clear hb X13
    go_wp2_with fail
    go_ret
    exact ⟨rfl, BOX.out.trans (X14.out.bl.mono BOX.out.size)⟩
  subst x0
  have EW : Hid (wantS L M = y) := by show wantS L M = y; unfold wantS; rw [← EX.out, if_pos rfl, EY.out]
  have K4 := Lib.hid (union_any w5 A A2 c c2 _ _ L M (X5.out.see (.tail _ (.head _))) (X5.out.see (.head _)) (Nat.le_refl _) (Nat.le_refl _) HF.out HF2.out (by rw [← EN1.out]; omega) (by rw [← EN2.out]; omega))
  rw [← EN1.out, ← EN2.out] at K4
  go_wp2_with fail
  refine (K4.out).mono ?_
  rintro e w6 hp
  obtain ⟨R1, hs, z1, -⟩ := hp.small (by rw [← EN1.out, ← EN2.out]; omega)
  rw [EW.out] at hs z1
  obtain ⟨B1, rfl, q1, hb⟩ := hs
  have X6 := Lib.hid (X5.out.below hb)
  clear hb q1 K4 X5
  have K5 := Lib.hid (common_any w6 A A2 c c2 _ _ L M (X6.out.see (.tail _ (.head _))) (X6.out.see (.head _)) (Nat.le_refl _) (Nat.le_refl _) HF.out HF2.out (by rw [← EN1.out]; omega) (by rw [← EN2.out]; omega))
  rw [← EN1.out, ← EN2.out] at K5
  go_wp2_with fail
  refine (K5.out).mono ?_
  rintro e w7 hp
  obtain ⟨R2, hs, z2, -⟩ := hp.small (by rw [← EN1.out, ← EN2.out]; omega)
  rw [EW.out] at hs z2
  obtain ⟨B2, rfl, q1, hb⟩ := hs
  have X7 := Lib.hid (X6.out.below hb)
  clear hb q1 K5 X6
  have K6 := Lib.hid (without_any w7 A A2 c c2 _ _ L M (X7.out.see (.tail _ (.head _))) (X7.out.see (.head _)) (Nat.le_refl _) (Nat.le_refl _) HF.out HF2.out (by rw [← EN1.out]; omega) (by rw [← EN2.out]; omega))
  rw [← EN1.out, ← EN2.out] at K6
  go_wp2_with fail
  refine (K6.out).mono ?_
  rintro e w8 hp
  obtain ⟨R3, hs, z3, -⟩ := hp.small (by rw [← EN1.out, ← EN2.out]; omega)
  rw [EW.out] at hs z3
  obtain ⟨B3, rfl, q1, hb⟩ := hs
  have X8 := Lib.hid ((X7.out.below hb).drawn (.refl _))
  clear hb q1 K6 X7 EW
  have hy : y = 0 ∨ (0 < y ∧ (y != 0) = true ∧ R1 = [] ∧ R2 = [] ∧ R3 = []) := by
    by_cases c : y = 0
    · exact .inl c
    · exact .inr ⟨by omega, by rw [bne_iff_ne]; exact c, z1 c, z2 c, z3 c⟩
  clear z1 z2 z3
  rcases hy with rfl | ⟨hyp, hyn, rfl, rfl, rfl⟩
  all_goals
    obtain ⟨b9, o9, h9, _, zc0, zc1⟩ := SeesP.cells (L := [(a, d)]) (k := 0) (X8.out.see (.tail _ (.tail _ (.head _)))) (Nat.lt_succ_self 0)
    cases h9
    rw [show sg [(a, d)] 0 = (a, d) from rfl] at zc0 zc1
    rw [show 0 + 0 * 2 = 0 from rfl] at zc0 zc1
    have zc2 : ∀ q, (w8.drewN q).cell? ⟨w.heap.size, 0 + 1, none⟩ = some (.int .i64 d) := fun _ => zc1
    go_wp2_with fail
    go_quiet (fail)
    clear zc0 zc1 zc2
    have four : (4 : Int) ≠ 0 := by decide
    by_cases t1 : a < 0
    · have HR : Hid (rngS L a d = 4) := by show rngS L a d = 4; unfold rngS; rw [← EX.out, if_neg (by decide), if_pos (by omega)]
      have K9 := Lib.hid (insert_any _ _ A c L a d ((X8.out.drawn ((Drawn.refl _).drewN nq)).see (.tail _ (.head _))) (Nat.le_refl _) HF.out (by rw [← EN1.out]; omega) ⟨fa1, fa2⟩ ⟨fd1, fd2⟩)
      rw [← EN1.out] at K9
      go_wp2_with fail
      refine (K9.out).mono ?_
      rintro e w10 hp
      obtain ⟨B1', rfl, q1, hb⟩ := hp.bad HR.out four
      have X10 := Lib.hid (((X8.out.drawn ((Drawn.refl _).drewN nq)).below hb).add q1)
      clear hb q1 K9
      have K10 := Lib.hid (remove_any w10 _ A c L a d (X10.out.see (.tail _ (.tail _ (.head _)))) (Nat.le_refl _) HF.out (by rw [← EN1.out]; omega) ⟨fa1, fa2⟩ ⟨fd1, fd2⟩)
      rw [← EN1.out] at K10
      go_wp2_with fail
      refine (K10.out).mono ?_
      rintro e w11 hp
      obtain ⟨B2', rfl, q1, hb⟩ := hp.bad HR.out four
      have X11 := Lib.hid ((X10.out.below hb).add q1)
      clear hb q1 K10 X10
      have K11 := Lib.hid (same_yes w11 B1' none 0 _ 0 [] 4 (X11.out.see (.tail _ (.head _))) (seesP_nil _ _) (Nat.le_refl _) (Nat.zero_le _) (by decide))
      go_wp2_with fail
      refine (K11.out).mono ?_
      rintro e w12 ⟨rfl, hb⟩
      have X12 := Lib.hid (X11.out.below hb)
      clear hb K11 X11
      have K12 := Lib.hid (same_yes w12 B2' none 0 _ 0 [] 4 (X12.out.see (.head _)) (seesP_nil _ _) (Nat.le_refl _) (Nat.zero_le _) (by decide))
      go_wp2_with fail
      refine (K12.out).mono ?_
      rintro e w13 ⟨rfl, hb⟩
      have X13 := Lib.hid (X12.out.below hb)
      clear hb K12 X12
      go_wp2_with fail
      refine (lives_yes w13).mono ?_
      rintro e w14 ⟨rfl, hb⟩
      have X14 := Lib.hid (X13.out.below hb)
      clear hb X13
      go_wp2_with fail
      go_ret
      exact ⟨rfl, BOX.out.trans (X14.out.bl.mono BOX.out.size)⟩
    by_cases t2 : 1073741824 < a
    · have HR : Hid (rngS L a d = 4) := by show rngS L a d = 4; unfold rngS; rw [← EX.out, if_neg (by decide), if_pos (by omega)]
      have K9 := Lib.hid (insert_any _ _ A c L a d ((X8.out.drawn ((Drawn.refl _).drewN nq)).see (.tail _ (.head _))) (Nat.le_refl _) HF.out (by rw [← EN1.out]; omega) ⟨fa1, fa2⟩ ⟨fd1, fd2⟩)
      rw [← EN1.out] at K9
      go_wp2_with fail
      refine (K9.out).mono ?_
      rintro e w10 hp
      obtain ⟨B1', rfl, q1, hb⟩ := hp.bad HR.out four
      have X10 := Lib.hid (((X8.out.drawn ((Drawn.refl _).drewN nq)).below hb).add q1)
      clear hb q1 K9
      have K10 := Lib.hid (remove_any w10 _ A c L a d (X10.out.see (.tail _ (.tail _ (.head _)))) (Nat.le_refl _) HF.out (by rw [← EN1.out]; omega) ⟨fa1, fa2⟩ ⟨fd1, fd2⟩)
      rw [← EN1.out] at K10
      go_wp2_with fail
      refine (K10.out).mono ?_
      rintro e w11 hp
      obtain ⟨B2', rfl, q1, hb⟩ := hp.bad HR.out four
      have X11 := Lib.hid ((X10.out.below hb).add q1)
      clear hb q1 K10 X10
      have K11 := Lib.hid (same_yes w11 B1' none 0 _ 0 [] 4 (X11.out.see (.tail _ (.head _))) (seesP_nil _ _) (Nat.le_refl _) (Nat.zero_le _) (by decide))
      go_wp2_with fail
      refine (K11.out).mono ?_
      rintro e w12 ⟨rfl, hb⟩
      have X12 := Lib.hid (X11.out.below hb)
      clear hb K11 X11
      have K12 := Lib.hid (same_yes w12 B2' none 0 _ 0 [] 4 (X12.out.see (.head _)) (seesP_nil _ _) (Nat.le_refl _) (Nat.zero_le _) (by decide))
      go_wp2_with fail
      refine (K12.out).mono ?_
      rintro e w13 ⟨rfl, hb⟩
      have X13 := Lib.hid (X12.out.below hb)
      clear hb K12 X12
      go_wp2_with fail
      refine (lives_yes w13).mono ?_
      rintro e w14 ⟨rfl, hb⟩
      have X14 := Lib.hid (X13.out.below hb)
      clear hb X13
      go_wp2_with fail
      go_ret
      exact ⟨rfl, BOX.out.trans (X14.out.bl.mono BOX.out.size)⟩
    by_cases t3 : d < 0
    · have HR : Hid (rngS L a d = 4) := by show rngS L a d = 4; unfold rngS; rw [← EX.out, if_neg (by decide), if_pos (by omega)]
      have K9 := Lib.hid (insert_any _ _ A c L a d ((X8.out.drawn ((Drawn.refl _).drewN nq)).see (.tail _ (.head _))) (Nat.le_refl _) HF.out (by rw [← EN1.out]; omega) ⟨fa1, fa2⟩ ⟨fd1, fd2⟩)
      rw [← EN1.out] at K9
      go_wp2_with fail
      refine (K9.out).mono ?_
      rintro e w10 hp
      obtain ⟨B1', rfl, q1, hb⟩ := hp.bad HR.out four
      have X10 := Lib.hid (((X8.out.drawn ((Drawn.refl _).drewN nq)).below hb).add q1)
      clear hb q1 K9
      have K10 := Lib.hid (remove_any w10 _ A c L a d (X10.out.see (.tail _ (.tail _ (.head _)))) (Nat.le_refl _) HF.out (by rw [← EN1.out]; omega) ⟨fa1, fa2⟩ ⟨fd1, fd2⟩)
      rw [← EN1.out] at K10
      go_wp2_with fail
      refine (K10.out).mono ?_
      rintro e w11 hp
      obtain ⟨B2', rfl, q1, hb⟩ := hp.bad HR.out four
      have X11 := Lib.hid ((X10.out.below hb).add q1)
      clear hb q1 K10 X10
      have K11 := Lib.hid (same_yes w11 B1' none 0 _ 0 [] 4 (X11.out.see (.tail _ (.head _))) (seesP_nil _ _) (Nat.le_refl _) (Nat.zero_le _) (by decide))
      go_wp2_with fail
      refine (K11.out).mono ?_
      rintro e w12 ⟨rfl, hb⟩
      have X12 := Lib.hid (X11.out.below hb)
      clear hb K11 X11
      have K12 := Lib.hid (same_yes w12 B2' none 0 _ 0 [] 4 (X12.out.see (.head _)) (seesP_nil _ _) (Nat.le_refl _) (Nat.zero_le _) (by decide))
      go_wp2_with fail
      refine (K12.out).mono ?_
      rintro e w13 ⟨rfl, hb⟩
      have X13 := Lib.hid (X12.out.below hb)
      clear hb K12 X12
      go_wp2_with fail
      refine (lives_yes w13).mono ?_
      rintro e w14 ⟨rfl, hb⟩
      have X14 := Lib.hid (X13.out.below hb)
      clear hb X13
      go_wp2_with fail
      go_ret
      exact ⟨rfl, BOX.out.trans (X14.out.bl.mono BOX.out.size)⟩
    by_cases t4 : 1073741824 < d
    · have HR : Hid (rngS L a d = 4) := by show rngS L a d = 4; unfold rngS; rw [← EX.out, if_neg (by decide), if_pos (by omega)]
      have K9 := Lib.hid (insert_any _ _ A c L a d ((X8.out.drawn ((Drawn.refl _).drewN nq)).see (.tail _ (.head _))) (Nat.le_refl _) HF.out (by rw [← EN1.out]; omega) ⟨fa1, fa2⟩ ⟨fd1, fd2⟩)
      rw [← EN1.out] at K9
      go_wp2_with fail
      refine (K9.out).mono ?_
      rintro e w10 hp
      obtain ⟨B1', rfl, q1, hb⟩ := hp.bad HR.out four
      have X10 := Lib.hid (((X8.out.drawn ((Drawn.refl _).drewN nq)).below hb).add q1)
      clear hb q1 K9
      have K10 := Lib.hid (remove_any w10 _ A c L a d (X10.out.see (.tail _ (.tail _ (.head _)))) (Nat.le_refl _) HF.out (by rw [← EN1.out]; omega) ⟨fa1, fa2⟩ ⟨fd1, fd2⟩)
      rw [← EN1.out] at K10
      go_wp2_with fail
      refine (K10.out).mono ?_
      rintro e w11 hp
      obtain ⟨B2', rfl, q1, hb⟩ := hp.bad HR.out four
      have X11 := Lib.hid ((X10.out.below hb).add q1)
      clear hb q1 K10 X10
      have K11 := Lib.hid (same_yes w11 B1' none 0 _ 0 [] 4 (X11.out.see (.tail _ (.head _))) (seesP_nil _ _) (Nat.le_refl _) (Nat.zero_le _) (by decide))
      go_wp2_with fail
      refine (K11.out).mono ?_
      rintro e w12 ⟨rfl, hb⟩
      have X12 := Lib.hid (X11.out.below hb)
      clear hb K11 X11
      have K12 := Lib.hid (same_yes w12 B2' none 0 _ 0 [] 4 (X12.out.see (.head _)) (seesP_nil _ _) (Nat.le_refl _) (Nat.zero_le _) (by decide))
      go_wp2_with fail
      refine (K12.out).mono ?_
      rintro e w13 ⟨rfl, hb⟩
      have X13 := Lib.hid (X12.out.below hb)
      clear hb K12 X12
      go_wp2_with fail
      refine (lives_yes w13).mono ?_
      rintro e w14 ⟨rfl, hb⟩
      have X14 := Lib.hid (X13.out.below hb)
      clear hb X13
      go_wp2_with fail
      go_ret
      exact ⟨rfl, BOX.out.trans (X14.out.bl.mono BOX.out.size)⟩
    have HR : Hid (rngS L a d = 0) := by show rngS L a d = 0; unfold rngS; rw [← EX.out, if_neg (by decide), if_neg (by omega)]
    have HNF : Hid (NF L) := (chkS_zero.1 EX.out.symm).1
    have X9 := Lib.hid (X8.out.drawn ((Drawn.refl _).drewN nq))
    have K9 := Lib.hid (insert_any _ _ A c L a d (X9.out.see (.tail _ (.head _))) (Nat.le_refl _) HF.out (by rw [← EN1.out]; omega) ⟨fa1, fa2⟩ ⟨fd1, fd2⟩)
    rw [← EN1.out] at K9
    clear X8
    go_wp2_with fail
    refine (K9.out).mono ?_
    rintro e w10 hp
    obtain ⟨R1', x1, ⟨B1', rfl, q1, hb⟩, hbad, hgood⟩ := hp.small HR.out (by rw [← EN1.out]; omega)
    have X10 := Lib.hid ((X9.out.below hb).add q1)
    have HBAD := Lib.hid hbad
    have HGOOD := Lib.hid hgood
    clear hb q1 K9 X9 hbad hgood
    have K10 := Lib.hid (remove_any w10 _ A c L a d (X10.out.see (.tail _ (.tail _ (.head _)))) (Nat.le_refl _) HF.out (by rw [← EN1.out]; omega) ⟨fa1, fa2⟩ ⟨fd1, fd2⟩)
    rw [← EN1.out] at K10
    go_wp2_with fail
    refine (K10.out).mono ?_
    rintro e w11 hp
    obtain ⟨R2', ⟨B2', rfl, q1, hb⟩, z0, zl, zc, -⟩ := hp.small HR.out (by rw [← EN1.out]; omega)
    rw [← EN1.out] at zl
    have X11 := Lib.hid ((X10.out.below hb).add q1)
    have HC2 := Lib.hid z0
    have zl' : R2'.length ≤ 81 := by omega
    obtain ⟨g, eg⟩ : ∃ g, g = goneS a d L := ⟨_, rfl⟩
    rw [← eg] at zc
    have HCN2 := Lib.hid zc
    have EG : Hid (0 + goneS a d (L.drop 0) = g) := by show 0 + goneS a d L = g; rw [eg]; omega
    obtain ⟨g0, g1⟩ : 0 ≤ g ∧ g ≤ d := by rw [eg]; exact goneS_rng HNF.out (by omega)
    obtain ⟨tb0, tb1⟩ := cntS_rng HNF.out
    clear hb q1 K10 X10 z0 zc zl eg
    go_wp2_with fail
    go_loopw [22, 23] (fun o i wr => ∃ (k : Nat) (m : Int), k ≤ n1 ∧ i = .int .i64 k ∧ o = .int .i64 m ∧ Hid (m + goneS a d (L.drop k) = g) ∧ 0 ≤ m ∧ Hid (Below w11.heap.size w11 wr)) (fun _ i _ => n1 - (intOf i).toNat)
    case atStart => exact ⟨0, 0, Nat.zero_le _, rfl, rfl, EG, Int.le_refl _, Below.refl _ _⟩
    case round =>
      obtain ⟨k, m, hk, rfl, rfl, hC, hm0, hD⟩ := hrel
      clear EG
      by_cases hlt : k < n1
      · obtain ⟨b3, o, rfl, _, c0, c1⟩ := SeesP.cells ((X11.out.below hD.out).see (.tail _ (.tail _ (.tail _ (.head _))))) (k := k) (by rw [← EN1.out]; exact hlt)
        have hkL : k < L.length := by rw [← EN1.out]; exact hlt
        obtain ⟨m1, m2, m3, m4⟩ := NFfrom.mem HNF.out _ (sg_mem L hkL)
        have hd : L.drop k = sg L k :: L.drop (k + 1) := by rw [sg_get L hkL]; exact List.drop_eq_getElem_cons hkL
        have hC' := hC.out
        rw [hd] at hC'
        have hpos := goneS_nn a d (L.drop (k + 1))
        have HC : Hid (m + (max 0 (min (sg L k).2 (a + d) - max (sg L k).1 a) + goneS a d (L.drop (k + 1))) = g) := hC'
        obtain ⟨x, hx⟩ : ∃ x, x = (sg L k).1 := ⟨_, rfl⟩
        obtain ⟨y, hy⟩ : ∃ y, y = (sg L k).2 := ⟨_, rfl⟩
        rw [← hx] at c0 HC m1 m2
        rw [← hy] at c1 HC m2 m4
        have hsum : m + max 0 (min y (a + d) - max x a) ≤ 1073741824 := by have := HC.out; omega
        have HC2' : Hid (m + max 0 (min y (a + d) - max x a) + goneS a d (L.drop (k + 1)) = g) := by show _ = _; have := HC.out; omega
        have hki : (k : Int) < (n1 : Int) := by omega
        have hmp : 0 ≤ m + max 0 (min y (a + d) - max x a) := by omega
        have S0 : Hid (Below w11.heap.size w11 wr.drew) := hD.out.drew
        clear hx hy hd hC hC' hkL m3 hpos HC
        have d1 : ∀ q, (wr.drewN q).cell? ⟨b3, o + k * 2 + 1, none⟩ = some (.int .i64 y) := fun _ => c1
        go_wp2_with fail
        go_quiet (fail)
        go_wp2_with fail
        go_roundw
        case rel => exact ⟨k + 1, m + max 0 (min y (a + d) - max x a), by omega, by go_num, rfl, HC2', hmp, hD.out.trans (((Drawn.refl _).drewN _).below _)⟩
        case measure => simp [intOf]; omega
      · obtain rfl : k = n1 := by omega
        have e : m = g := by
          have := hC.out
          rw [List.drop_of_length_le (by rw [← EN1.out]; exact Nat.le_refl _)] at this
          rw [← this]; show m = m + 0; omega
        subst e
        have X12 := Lib.hid (X11.out.below hD.out)
        have K12 := Lib.hid (check_any wr _ B2' R2'.length R2' (X12.out.see (.head _)) (Nat.le_refl _) (NF.fits (chkS_zero.1 HC2.out).1) (by omega))
        rw [HC2.out] at K12
        clear hD X11 hC
        go_wp2_with fail
        refine (K12.out).mono ?_
        rintro e w13 ⟨rfl, hb⟩
        have X13 := Lib.hid (X12.out.below hb)
        clear hb K12 X12
        have K13 := Lib.hid (count_any w13 _ B2' R2'.length R2' (X13.out.see (.head _)) (Nat.le_refl _) (NF.fits (chkS_zero.1 HC2.out).1) (by omega))
        unfold countS at K13
        rw [HC2.out, if_pos rfl, HCN2.out] at K13
        go_wp2_with fail
        refine (K13.out).mono ?_
        rintro e w14 ⟨rfl, hb⟩
        have X14 := Lib.hid (X13.out.below hb)
        clear hb K13 X13
        have K14 := Lib.hid (count_any w14 _ A c L (X14.out.see (.tail _ (.tail _ (.tail _ (.head _))))) (Nat.le_refl _) HF.out (by rw [← EN1.out]; omega))
        unfold countS at K14
        rw [if_pos EX.out.symm, ← EN1.out] at K14
        go_wp2_with fail
        refine (K14.out).mono ?_
        rintro e w19 ⟨rfl, hb⟩
        have X19 := Lib.hid (X14.out.below hb)
        clear hb K14 X14
        obtain ⟨z, ez⟩ : ∃ z, z = endS (-1) L := ⟨_, rfl⟩
        have hz1 : z ≤ 1073741824 := by rw [ez]; exact NFfrom.end_le HNF.out (by omega)
        have hz0 : k = 0 → z = -1 := fun h => by
          have : L = [] := List.length_eq_zero_iff.1 (by rw [← EN1.out]; exact h)
          rw [ez, this]; rfl
        have HLAST : Hid (∀ q, k = q + 1 → (sg L q).2 = z) := fun q hq => by rw [ez]; exact end_last (by rw [← EN1.out]; exact hq)
        rw [← ez] at HBAD HGOOD
        clear ez
        cases k with
        | zero =>
          have hz := hz0 rfl
          obtain ⟨rfl, h1, h2, h3, h4⟩ := HGOOD.out (by omega)
          have HC1 := Lib.hid h1
          have HCN := Lib.hid h3
          have HME := Lib.hid h4
          rw [← EN1.out] at h2
          clear h1 h3 h4 HGOOD HBAD
          go_wp2_with fail
          have K20 := Lib.hid (remove_any w19 _ B1' R1'.length R1' a d (X19.out.see (.tail _ (.head _))) (Nat.le_refl _) (NF.fits (chkS_zero.1 HC1.out).1) (by omega) ⟨fa1, fa2⟩ ⟨fd1, fd2⟩)
          go_wp2_with fail
          refine (K20.out).mono ?_
          rintro e w20 hp
          obtain ⟨B3', rfl, q1, hb⟩ := hp.eq (by unfold rngS; rw [if_neg (by rw [HC1.out]; decide), if_neg (by omega)]) HNF.out (by rw [← EN1.out]; omega) (back_me (by omega) HME.out)
          rw [← EN1.out]
          have X20 := Lib.hid ((X19.out.below hb).add q1)
          clear hb q1 K20 X19
          have K21 := Lib.hid (check_any w20 _ B1' R1'.length R1' (X20.out.see (.tail _ (.tail _ (.head _)))) (Nat.le_refl _) (NF.fits (chkS_zero.1 HC1.out).1) (by omega))
          rw [HC1.out] at K21
          go_wp2_with fail
          refine (K21.out).mono ?_
          rintro e w21 ⟨rfl, hb⟩
          have X21 := Lib.hid (X20.out.below hb)
          clear hb K21 X20
          have K22 := Lib.hid (count_any w21 _ B1' R1'.length R1' (X21.out.see (.tail _ (.tail _ (.head _)))) (Nat.le_refl _) (NF.fits (chkS_zero.1 HC1.out).1) (by omega))
          unfold countS at K22
          rw [HC1.out, if_pos rfl, HCN.out] at K22
          go_wp2_with fail
          refine (K22.out).mono ?_
          rintro e w22 ⟨rfl, hb⟩
          have X22 := Lib.hid (X21.out.below hb)
          clear hb K22 X21
          have K23 := Lib.hid (count_any w22 _ _ c L (X22.out.see (.tail _ (.tail _ (.tail _ (.tail _ (.head _)))))) (Nat.le_refl _) HF.out (by rw [← EN1.out]; omega))
          unfold countS at K23
          rw [if_pos EX.out.symm, ← EN1.out] at K23
          go_wp2_with fail
          refine (K23.out).mono ?_
          rintro e w23 ⟨rfl, hb⟩
          have X23 := Lib.hid (X22.out.below hb)
          clear hb K23 X22
          have K24 := Lib.hid (pairs_sees w23 _ _ c L (X23.out.see (.tail _ (.tail _ (.tail _ (.tail _ (.head _)))))) (Nat.le_refl _) (by rw [← EN1.out]; omega))
          rw [← EN1.out] at K24
          go_wp2_with fail
          refine (K24.out).mono ?_
          rintro e w24 ⟨A24, c24, rfl, q1, hb⟩
          have X24 := Lib.hid ((X23.out.below hb).add q1)
          clear hb q1 K24 X23
          have K25 := Lib.hid (same_yes w24 B3' A24 c24 _ _ L 0 (X24.out.see (.tail _ (.head _))) (X24.out.see (.head _)) (Nat.le_refl _) (Nat.le_refl _) (by rw [← EN1.out]; omega))
          rw [← EN1.out] at K25
          go_wp2_with fail
          refine (K25.out).mono ?_
          rintro e w25 ⟨rfl, hb⟩
          have X25 := Lib.hid (X24.out.below hb)
          clear hb K25 X24
          go_wp2_with fail
          refine (lives_yes w25).mono ?_
          rintro e w26 ⟨rfl, hb⟩
          have X26 := Lib.hid (X25.out.below hb)
          clear hb X25
          go_wp2_with fail
          go_ret
          exact ⟨rfl, BOX.out.trans (X26.out.bl.mono BOX.out.size)⟩
        | succ q =>
          obtain ⟨b3, o, rfl, _, _, c1⟩ := SeesP.cells (X19.out.see (.tail _ (.tail _ (.tail _ (.head _))))) (k := q) (by rw [← EN1.out]; omega)
          rw [HLAST.out q rfl] at c1
          clear hz0 HLAST
          by_cases f1 : a < z
          · by_cases f2 : 1073741824 < z + d
            · obtain ⟨rfl, rfl⟩ := HBAD.out ⟨f1, f2⟩
              clear HBAD HGOOD
              have K11 := Lib.hid (same_yes w19 B1' none 0 _ 0 [] 4 (X19.out.see (.tail _ (.head _))) (seesP_nil _ _) (Nat.le_refl _) (Nat.zero_le _) (by decide))
              go_wp2_with fail
              refine (K11.out).mono ?_
              rintro e w12 ⟨rfl, hb⟩
              have X12 := Lib.hid (X19.out.below hb)
              clear hb K11 X19
              go_wp2_with fail
              refine (lives_yes w12).mono ?_
              rintro e w14 ⟨rfl, hb⟩
              have X14 := Lib.hid (X12.out.below hb)
              clear hb X12
              go_wp2_with fail
              go_ret
              exact ⟨rfl, BOX.out.trans (X14.out.bl.mono BOX.out.size)⟩
            · obtain ⟨rfl, h1, h2, h3, h4⟩ := HGOOD.out (by omega)
              have HC1 := Lib.hid h1
              have HCN := Lib.hid h3
              have HME := Lib.hid h4
              rw [← EN1.out] at h2
              clear h1 h3 h4 HGOOD HBAD
              go_wp2_with fail
              have K20 := Lib.hid (remove_any w19 _ B1' R1'.length R1' a d (X19.out.see (.tail _ (.head _))) (Nat.le_refl _) (NF.fits (chkS_zero.1 HC1.out).1) (by omega) ⟨fa1, fa2⟩ ⟨fd1, fd2⟩)
              go_wp2_with fail
              refine (K20.out).mono ?_
              rintro e w20 hp
              obtain ⟨B3', rfl, q1, hb⟩ := hp.eq (by unfold rngS; rw [if_neg (by rw [HC1.out]; decide), if_neg (by omega)]) HNF.out (by rw [← EN1.out]; omega) (back_me (by omega) HME.out)
              rw [← EN1.out]
              have X20 := Lib.hid ((X19.out.below hb).add q1)
              clear hb q1 K20 X19
              have K21 := Lib.hid (check_any w20 _ B1' R1'.length R1' (X20.out.see (.tail _ (.tail _ (.head _)))) (Nat.le_refl _) (NF.fits (chkS_zero.1 HC1.out).1) (by omega))
              rw [HC1.out] at K21
              go_wp2_with fail
              refine (K21.out).mono ?_
              rintro e w21 ⟨rfl, hb⟩
              have X21 := Lib.hid (X20.out.below hb)
              clear hb K21 X20
              have K22 := Lib.hid (count_any w21 _ B1' R1'.length R1' (X21.out.see (.tail _ (.tail _ (.head _)))) (Nat.le_refl _) (NF.fits (chkS_zero.1 HC1.out).1) (by omega))
              unfold countS at K22
              rw [HC1.out, if_pos rfl, HCN.out] at K22
              go_wp2_with fail
              refine (K22.out).mono ?_
              rintro e w22 ⟨rfl, hb⟩
              have X22 := Lib.hid (X21.out.below hb)
              clear hb K22 X21
              have K23 := Lib.hid (count_any w22 _ _ c L (X22.out.see (.tail _ (.tail _ (.tail _ (.tail _ (.head _)))))) (Nat.le_refl _) HF.out (by rw [← EN1.out]; omega))
              unfold countS at K23
              rw [if_pos EX.out.symm, ← EN1.out] at K23
              go_wp2_with fail
              refine (K23.out).mono ?_
              rintro e w23 ⟨rfl, hb⟩
              have X23 := Lib.hid (X22.out.below hb)
              clear hb K23 X22
              have K24 := Lib.hid (pairs_sees w23 _ _ c L (X23.out.see (.tail _ (.tail _ (.tail _ (.tail _ (.head _)))))) (Nat.le_refl _) (by rw [← EN1.out]; omega))
              rw [← EN1.out] at K24
              go_wp2_with fail
              refine (K24.out).mono ?_
              rintro e w24 ⟨A24, c24, rfl, q1, hb⟩
              have X24 := Lib.hid ((X23.out.below hb).add q1)
              clear hb q1 K24 X23
              have K25 := Lib.hid (same_yes w24 B3' A24 c24 _ _ L 0 (X24.out.see (.tail _ (.head _))) (X24.out.see (.head _)) (Nat.le_refl _) (Nat.le_refl _) (by rw [← EN1.out]; omega))
              rw [← EN1.out] at K25
              go_wp2_with fail
              refine (K25.out).mono ?_
              rintro e w25 ⟨rfl, hb⟩
              have X25 := Lib.hid (X24.out.below hb)
              clear hb K25 X24
              go_wp2_with fail
              refine (lives_yes w25).mono ?_
              rintro e w26 ⟨rfl, hb⟩
              have X26 := Lib.hid (X25.out.below hb)
              clear hb X25
              go_wp2_with fail
              go_ret
              exact ⟨rfl, BOX.out.trans (X26.out.bl.mono BOX.out.size)⟩
          · obtain ⟨rfl, h1, h2, h3, h4⟩ := HGOOD.out (by omega)
            have HC1 := Lib.hid h1
            have HCN := Lib.hid h3
            have HME := Lib.hid h4
            rw [← EN1.out] at h2
            clear h1 h3 h4 HGOOD HBAD
            go_wp2_with fail
            have K20 := Lib.hid (remove_any w19 _ B1' R1'.length R1' a d (X19.out.see (.tail _ (.head _))) (Nat.le_refl _) (NF.fits (chkS_zero.1 HC1.out).1) (by omega) ⟨fa1, fa2⟩ ⟨fd1, fd2⟩)
            go_wp2_with fail
            refine (K20.out).mono ?_
            rintro e w20 hp
            obtain ⟨B3', rfl, q1, hb⟩ := hp.eq (by unfold rngS; rw [if_neg (by rw [HC1.out]; decide), if_neg (by omega)]) HNF.out (by rw [← EN1.out]; omega) (back_me (by omega) HME.out)
            rw [← EN1.out]
            have X20 := Lib.hid ((X19.out.below hb).add q1)
            clear hb q1 K20 X19
            have K21 := Lib.hid (check_any w20 _ B1' R1'.length R1' (X20.out.see (.tail _ (.tail _ (.head _)))) (Nat.le_refl _) (NF.fits (chkS_zero.1 HC1.out).1) (by omega))
            rw [HC1.out] at K21
            go_wp2_with fail
            refine (K21.out).mono ?_
            rintro e w21 ⟨rfl, hb⟩
            have X21 := Lib.hid (X20.out.below hb)
            clear hb K21 X20
            have K22 := Lib.hid (count_any w21 _ B1' R1'.length R1' (X21.out.see (.tail _ (.tail _ (.head _)))) (Nat.le_refl _) (NF.fits (chkS_zero.1 HC1.out).1) (by omega))
            unfold countS at K22
            rw [HC1.out, if_pos rfl, HCN.out] at K22
            go_wp2_with fail
            refine (K22.out).mono ?_
            rintro e w22 ⟨rfl, hb⟩
            have X22 := Lib.hid (X21.out.below hb)
            clear hb K22 X21
            have K23 := Lib.hid (count_any w22 _ _ c L (X22.out.see (.tail _ (.tail _ (.tail _ (.tail _ (.head _)))))) (Nat.le_refl _) HF.out (by rw [← EN1.out]; omega))
            unfold countS at K23
            rw [if_pos EX.out.symm, ← EN1.out] at K23
            go_wp2_with fail
            refine (K23.out).mono ?_
            rintro e w23 ⟨rfl, hb⟩
            have X23 := Lib.hid (X22.out.below hb)
            clear hb K23 X22
            have K24 := Lib.hid (pairs_sees w23 _ _ c L (X23.out.see (.tail _ (.tail _ (.tail _ (.tail _ (.head _)))))) (Nat.le_refl _) (by rw [← EN1.out]; omega))
            rw [← EN1.out] at K24
            go_wp2_with fail
            refine (K24.out).mono ?_
            rintro e w24 ⟨A24, c24, rfl, q1, hb⟩
            have X24 := Lib.hid ((X23.out.below hb).add q1)
            clear hb q1 K24 X23
            have K25 := Lib.hid (same_yes w24 B3' A24 c24 _ _ L 0 (X24.out.see (.tail _ (.head _))) (X24.out.see (.head _)) (Nat.le_refl _) (Nat.le_refl _) (by rw [← EN1.out]; omega))
            rw [← EN1.out] at K25
            go_wp2_with fail
            refine (K25.out).mono ?_
            rintro e w25 ⟨rfl, hb⟩
            have X25 := Lib.hid (X24.out.below hb)
            clear hb K25 X24
            go_wp2_with fail
            refine (lives_yes w25).mono ?_
            rintro e w26 ⟨rfl, hb⟩
            have X26 := Lib.hid (X25.out.below hb)
            clear hb X25
            go_wp2_with fail
            go_ret
            exact ⟨rfl, BOX.out.trans (X26.out.bl.mono BOX.out.size)⟩
end Go.Proofs.Ytglgkbocmnkokaa

/-
  The walk of the law TopMoves.
-/
import Derived.Test.YtfmfmeiaekknbaaGreatPe
namespace Go.Proofs.YtfmfmeiaekknbaaGreat
open Go.RowKit
set_option linter.unusedVariables false
set_option linter.unusedSimpArgs false
set_option maxRecDepth 100000 in
set_option maxHeartbeats 12800000 in
theorem law_moving (A : Option Addr) (n c : Nat) (f : Nat → Int) (g : Bool) (z : Array Value) (w : World) (hs : Sees w w.heap.size A n (u8r f)) (hf : ∀ j, 0 ≤ f j ∧ f j ≤ 255) (hnc : n ≤ c) (hc : c ≤ maxLen) (hz : z.size = 3) (hzz : ∀ i, i < 3 → ∃ x, z[i]? = some (.int .u8 x) ∧ (Lit.int .u8 x).wf = true) :
    Calls Tryz.prog 6 #[.agg #[.slice A n c, .bool g], .agg z] w fun e w' => e = .returned (.bool true) ∧ Below w.heap.size w w' := by
  obtain ⟨x0, x1, x2, rfl, y0, y1, y2⟩ := tagg3_of hz hzz
  obtain ⟨z0, rfl, g0⟩ := tu8_wf y0
  obtain ⟨z1, rfl, g1⟩ := tu8_wf y1
  obtain ⟨z2, rfl, g2⟩ := tu8_wf y2
  clear hz hzz y0 y1 y2
  have OK := Lib.hid (irows_ok f n g)
  have hm : n ≤ maxLen := Nat.le_trans hnc hc
  have ba : Below w.heap.size w (w.alloc (.cells #[.slice A n c, .bool g] 24)) := (Below.refl _ w).alloc (Nat.le_refl _) _
  have bz : Below (w.alloc (.cells #[.slice A n c, .bool g] 24)).heap.size (w.alloc (.cells #[.slice A n c, .bool g] 24)) ((w.alloc (.cells #[.slice A n c, .bool g] 24)).alloc (.cells #[.int .u8 z0, .int .u8 z1, .int .u8 z2] 86)) := (Below.refl _ _).alloc (Nat.le_refl _) _
  have b0 := ba.trans (bz.mono ba.size)
  have X0 := Lib.hid ((XI.mk' (c := c) (g := g) hs).below bz)
  have VZ := World.rowIs_alloc (w.alloc (.cells #[.slice A n c, .bool g] 24)) #[.int .u8 z0, .int .u8 z1, .int .u8 z2] 86 (fun j => if j = 0 then .int .u8 z0 else if j = 1 then .int .u8 z1 else .int .u8 z2) (fun j hj => by
    have : j = 0 ∨ j = 1 ∨ j = 2 := by simp at hj; omega
    rcases this with rfl | rfl | rfl <;> rfl)
  rw [World.size_alloc] at VZ
  have VZ := Lib.hid VZ
  have KO : Hid (∀ W, Sees W W.heap.size A n (u8r f) → _) := fun W (h : Sees W W.heap.size A n (u8r f)) => Of_any W A n c f g h (fun j _ => hf j) hm
  have KR : Hid (∀ W, Sees W W.heap.size A n (u8r f) → _) := fun W (h : Sees W W.heap.size A n (u8r f)) => Rows_any W A n c f g h (fun j _ => hf j) hm
  have L0 := Lib.hid (LX.start b0)
  generalize irows f n g = R at KO KR OK
  clear hs hf hnc hm b0 ba bz
  go_enter Tryz.func6, Tryz.ntmps6
  go_wp2_with fail
  change Calls Tryz.prog _ _ ((w.alloc (.cells #[.slice A n c, .bool g] 24)).alloc (.cells #[.int .u8 z0, .int .u8 z1, .int .u8 z2] 86)) _
  generalize (w.alloc (.cells #[.slice A n c, .bool g] 24)).alloc (.cells #[.int .u8 z0, .int .u8 z1, .int .u8 z2] 86) = wq at L0 X0 VZ ⊢
  refine (KO.out _ X0.out.s).mono ?_
  rintro e w2 ⟨a, A', S, rfl, p1, p2⟩
  obtain ⟨W2, eW2⟩ : ∃ W, W = ixw w2 a A' S.length := ⟨_, rfl⟩
  obtain ⟨qa, eqa⟩ : ∃ q, q = w2.heap.size := ⟨_, rfl⟩
  have L2 : Hid (LX w W2 [(qa, a, A', S, R)] []) := by rw [eW2, eqa]; exact (L0.out.below p2).cons p1
  have X2 : Hid (XI W2 w.heap.size A n c f g) := by rw [eW2]; exact (X0.out.below p2).below (ixw_b _ _ _ _)
  have V2 : Hid (W2.rowIs (w.heap.size + 1) 86 3 (fun j => if j = 0 then .int .u8 z0 else if j = 1 then .int .u8 z1 else .int .u8 z2)) := by
    have h := VZ.out.of_block (p2.block _ VZ.out.lt)
    rw [eW2]
    exact h.of_block ((ixw_b w2 a A' S.length).block _ h.lt)
  have HQ : Hid (qa < W2.heap.size) := (L2.out.get (.head _)).lt
  have EW := Lib.hid eW2
  have EQ := Lib.hid eqa
  have hlen := OK.out.len
  obtain ⟨m, em⟩ : ∃ m, m = R.length := ⟨_, rfl⟩
  have EM := Lib.hid em
  rw [← em] at hlen
  clear p1 p2 KO X0 L0 eW2 eqa em VZ
  go_wp2_with fail
  have KL := ilen_any W2 a A' S.length R (L2.out.get (.head _)).ix.rp
  rw [← EM.out, EW.out] at KL
  refine (KL).mono ?_
  rintro e wa ⟨rfl, hb⟩
  have hb' : Below W2.heap.size W2 wa := by rw [EW.out]; exact hb
  have La := Lib.hid (L2.out.below hb')
  have Xa := Lib.hid (X2.out.below hb')
  have Va := V2.out.of_block (hb'.block _ V2.out.lt)
  have BA := Lib.hid hb'
  rw [← EQ.out]
  obtain ⟨i, hi, ei⟩ := ktmod z0 m
  obtain ⟨k, hk, ek⟩ := ktmod z1 (m - i)
  rw [show ((m - i : Nat) : Int) = (m : Int) - (i : Int) from by omega] at ek
  obtain ⟨t, ht, et⟩ := ktmod z2 (m - k)
  rw [show ((m - k : Nat) : Int) = (m : Int) - (k : Int) from by omega] at et
  have kik : i + k ≤ R.length := by rw [← EM.out]; omega
  have ktm : t + k ≤ R.length := by rw [← EM.out]; omega
  have u0 := Va.cell (i := 0) (by simp)
  have u1 := Va.cell (i := 1) (by simp)
  have u2 := Va.cell (i := 2) (by simp)
  rw [if_pos rfl] at u0
  rw [if_neg (by decide), if_pos rfl] at u1
  rw [if_neg (by decide), if_neg (by decide)] at u2
  have hz1 := Va.lt
  have KN := Lib.hid (fnew_any wa (fun i hi => absurd hi (by omega)) (by omega) m (by omega))
  have L2X := X2
  clear hb hb' KL Va X2 V2
  go_wp2_with fail
  refine (KN.out).mono ?_
  rintro e wb ⟨pf, rfl, fl, hp, hb⟩
  have O0 : Hid (O1 W2 wb pf 0 0 0 none 0 none 0 R) := ⟨Own.nil _ _ _ _ _, Own.nil _ _ _ _ _, by rw [klTo_zero, ← EM.out]; exact fl, Nat.le_trans BA.out.size hp, BA.out.trans (hb.mono BA.out.size), fun _ => rfl, Nat.zero_le _, Nat.zero_le _⟩
  have HT : Hid (t ≤ m - k) := ht
  clear hb fl hp KN La Xa BA u0 u1 u2 hz1 ei ek et
  go_wp2_with fail
  go_loopw [14, 10, 11] (fun iv av lv wr => ∃ (j ci cl : Nat) (Ai Al : Option Addr), j ≤ m ∧ iv = .int .i64 j ∧ av = .slice Ai j ci ∧ lv = .slice Al j cl ∧ Hid (O1 W2 wr pf j j j Ai ci Al cl R)) (fun iv _ _ _ => m - (intOf iv).toNat)
  case atStart => exact ⟨0, 0, 0, none, none, Nat.zero_le _, rfl, rfl, rfl, O0⟩
  case round =>
    obtain ⟨j, ci, cl, Ai, Al, hj, rfl, rfl, rfl, hO⟩ := hrel
    clear O0
    by_cases hlt : j < m
    · have hji : (j : Int) < (m : Int) := by omega
      have hjR : j < R.length := by rw [← EM.out]; exact hlt
      have wr1 : IntKind.i64.wrap (5 * (j : Int)) = 5 * (j : Int) := IntWalk.i64_in _ (by omega)
      obtain ⟨A2, c2, wc, run, O2⟩ := hO.out.pushI (by omega)
      have RUN := Lib.hid run
      have OB := Lib.hid O2
      have HJR := Lib.hid hjR
      have Lc := Lib.hid (L2.out.below OB.out.bl)
      obtain ⟨x1, x2, x3, x4, _, lx⟩ := Lc.out.get (.head _)
      have KZ := isize_any wc a A' S.length R (Lc.out.get (.head _)).ix.rp (by rw [← EM.out]; omega) j ⟨by omega, by omega⟩
      obtain ⟨e1, e2⟩ := size_ok (R := R) (k := j) hjR
      rw [e1, e2] at KZ
      have KZH := Lib.hid KZ
      clear run O2 e1 e2 KZ hjR
      go_wp2_with (at_builtin; refine Hid.out ?_)
      refine Lib.hid (Lib.wpList_append_run _ rfl _ _ _ _ rfl _ _ rfl rfl _ _ (RUN.out _) ?_)
      go_wp2_with fail
      refine (KZH.out).mono ?_
      rintro e wd ⟨rfl, hb⟩
      have OC := Lib.hid (OB.out.below hb)
      have Ld := Lib.hid (L2.out.below OC.out.bl)
      clear hb OB KZH Lc x1 x2 x3 x4 lx RUN hO
      obtain ⟨x1, x2, x3, x4, _, lx⟩ := Ld.out.get (.head _)
      have KK := iknown_any wd a A' S R (Ld.out.get (.head _)).ix j ⟨by omega, by omega⟩
      obtain ⟨e1, e2⟩ := known_ok HJR.out
      rw [e1, e2] at KK
      have KKH := Lib.hid KK
      clear KK e1 e2
      go_wp2_with fail
      refine (KKH.out).mono ?_
      rintro e we ⟨rfl, hb⟩
      have OD := Lib.hid (OC.out.below hb)
      clear hb OC KKH Ld x1 x2 x3 x4 lx
      obtain ⟨A3, c3, wg, run, O2⟩ := OD.out.pushL (by omega)
      have RUN := Lib.hid run
      have OE := Lib.hid O2
      have KS := Lib.hid (fSet_ok wg pf (klTo R j) OE.out.fl j (by rw [klTo_len R (by have := HJR.out; omega)]; exact HJR.out) (kn R j))
      rw [klTo_step R HJR.out] at KS
      clear run O2
      go_wp2_with (at_builtin; refine Hid.out ?_)
      refine Lib.hid (Lib.wpList_append_run _ rfl _ _ _ _ rfl _ _ rfl rfl _ _ (RUN.out _) ?_)
      go_wp2_with fail
      refine (KS.out).mono ?_
      rintro e wh ⟨rfl, f1, f2⟩
      have OF := Lib.hid (OE.out.put f1 f2)
      clear f1 f2 KS OE RUN OD
      go_wp2_with fail
      go_roundw
      case rel => exact ⟨j + 1, c2, c3, A2, A3, by omega, by go_num, rfl, rfl, OF⟩
      case measure => simp [intOf]; omega
    · obtain rfl : m = j := by omega
      have wO := Lib.hid hO.out
      have KG := Lib.hid (gb_new wr m ci Ai (fun q => 5 * (q : Int)) (by have h := hO.out.ids.sees; rwa [Nat.mul_one] at h) (by omega))
      go_wp2_with fail
      refine (KG.out).mono ?_
      rintro e w3 ⟨p, gg, rfl, hgb, hp, hg, hb⟩
      have GB3 := Lib.hid hgb
      have B3 := Lib.hid hb
      have HPG : Hid (wr.heap.size ≤ p ∧ wr.heap.size ≤ gg) := ⟨hp, hg⟩
      have O3 := Lib.hid (hO.out.below hb)
      have hck := irows_chk OK.out
      have hle := O3.out.l.le
      have KF := of_any w3 Al cl w3.heap.size (szs R) (own_seesL (L := szs R) (by rw [szs_len, ← EM.out]; exact O3.out.l)) (Nat.le_refl _) (by rw [szs_len, ← EM.out]; exact hle) O3.out.lc (by rw [szs_len, ← EM.out]; omega) (irows_fit OK.out)
      rw [if_pos hck, hck, szs_len, ← EM.out] at KF
      have KFH := Lib.hid KF
      clear hgb hp hg hb KG O3 hck hle KF
      go_wp2_with fail
      refine (KFH.out).mono ?_
      rintro e w4 ⟨r, rfl, p1, hb⟩
      have B4 : Hid (Below wr.heap.size wr w4) := B3.out.trans (hb.mono B3.out.size)
      have GB4 := Lib.hid (GB3.out.below hb)
      have H34 : Hid (w3.heap.size ≤ w4.heap.size ∧ gg < w3.heap.size ∧ p < w3.heap.size) := ⟨hb.size, GB3.out.2.2, GB3.out.2.1⟩
      obtain ⟨sq, esq⟩ : ∃ q, q = w4.heap.size := ⟨_, rfl⟩
      obtain ⟨w5, e5⟩ : ∃ W, W = w4.alloc (.cells #[.pointer r] 27) := ⟨_, rfl⟩
      have b5 : Below w4.heap.size w4 w5 := by rw [e5]; exact (Below.refl _ w4).alloc (Nat.le_refl _) _
      have RV5 : Hid (Var w5 sq 27 (.pointer r)) := by rw [e5, esq]; exact Var.mk w4 _ _
      have RP5 := Lib.hid (p1.below b5)
      have GB5 := Lib.hid (GB4.out.below b5)
      have B5 : Hid (Below wr.heap.size wr w5) := B4.out.trans (b5.mono B4.out.size)
      have E5 := Lib.hid e5
      have ESQ := Lib.hid esq
      have KM := Lib.hid (moved_fr w5 m i k t (by omega) (by omega) (by omega))
      clear p1 hb b5 e5 esq KFH GB3 B3 GB4 
      go_wp2_with fail
      rw [← E5.out, ← ESQ.out]
      refine (KM.out).mono ?_
      rintro e w6 ⟨Am, rfl, sm, fm, hb⟩
      obtain ⟨qm, eqm⟩ : ∃ q, q = w6.heap.size := ⟨_, rfl⟩
      obtain ⟨w7, e7⟩ : ∃ W, W = w6.alloc (.cells #[.int .i64 m, .slice Am m m] 64) := ⟨_, rfl⟩
      have b7 : Below w6.heap.size w6 w7 := by rw [e7]; exact (Below.refl _ w6).alloc (Nat.le_refl _) _
      have B7 : Hid (Below wr.heap.size wr w7) := (B5.out.trans (hb.mono B5.out.size)).trans (b7.mono (by have := B5.out.size; have := hb.size; omega))
      have BW7 : Hid (Below W2.heap.size W2 w7) := hO.out.bl.trans (B7.out.mono hO.out.bl.size)
      have L7 := Lib.hid (L2.out.below BW7.out)
      have OM7 : Hid (OM W2.heap.size w7 qa pf p gg sq qm m Ai Al Am (kl R) (fun q => 5 * (q : Int)) r (szs R) (szs R) (movF i k t)) := by
        have s1 := hO.out.bl.size
        have s2 := hO.out.fl.lt
        have s3 := B4.out.size
        have s4 := HPG.out
        have s5 := H34.out
        have s6 := HQ.out
        have s7 := hO.out.pn
        have s8 : w4.heap.size ≤ w5.heap.size := by rw [E5.out, World.size_alloc]; omega
        have s9 := hb.size
        have s10 := ESQ.out
        have hfl := hO.out.fl
        have s11 := RV5.out.lt
        rw [show klTo R m = kl R by rw [EM.out, klTo_all]] at hfl
        refine ⟨(own_tb hO.out.ids hfl (by decide) s6 s4.1 s4.2 (by omega)).fr (Fr.of_below B7.out), (own_tb hO.out.l hfl (by decide) s6 s4.1 s4.2 (by omega)).fr (Fr.of_below B7.out), (seesO_new (N := w5.heap.size) sm fm (fun y hy => ?_)).fr (Fr.of_below b7), by rw [e7, eqm]; exact rm_new w6 m Am m, hfl.below B7.out, (GB5.out.below hb).below b7, (RV5.out.below hb).below b7, (RP5.out.below hb).below b7, by rw [szs_len, ← EM.out], ⟨_, (L7.out.vs _ (.head _)).2.1⟩, ⟨by omega, by omega, by omega, by omega⟩, ⟨s7, by omega, by omega, by omega⟩⟩
        rcases hy with hy | hy | hy | hy | hy <;> omega
      have X7 := Lib.hid (XI.below (L2X.out) BW7.out)
      have E7 := Lib.hid e7
      have EQM := Lib.hid eqm
      have KR7 := Lib.hid (KR.out w7 X7.out.s)
      rw [← EM.out] at KR7
      obtain ⟨q1, q2, q3⟩ := X7.out.cells
      rw [e7] at q1 q2 q3
      clear sm fm hb b7 e7 eqm KM RV5 RP5 GB5 B4 H34 HPG
      go_wp2_with fail
      rw [← E7.out, ← EQM.out]
      refine (KR7.out).mono ?_
      rintro e w8 ⟨A1, c1, rfl, p1, hb, p3, p4⟩
      have OM8 := Lib.hid (OM7.out.below hb)
      have BW8 : Hid (Below W2.heap.size W2 w8) := BW7.out.trans (hb.mono BW7.out.size)
      have KMV := Lib.hid (gb_any w8 p gg m _ OM8.out.gb i k t (by omega) (by omega))
      clear hb p1 p3 p4 KR7 OM7 BW7 X7 q1 q2 q3 L7 B7 B5
      go_wp2_with fail
      refine (KMV.out).mono ?_
      rintro e w9 ⟨rfl, g', gb', hg', fr⟩
      have OM9 := Lib.hid (OM8.out.m1 fr gb' hg')
      have BW9 : Hid (Below W2.heap.size W2 w9) := BW8.out.trans (fr.below BW8.out.size fun b hb => by
        have := OM8.out.lo
        rcases hb with hb | hb <;> omega)
      have KFM := Lib.hid (fmov_ok w9 pf (kl R) OM9.out.fl i k t (by rw [kl_len]; exact kik) (by rw [kl_len]; omega))
      rw [kl_movR] at KFM
      clear gb' hg' fr OM8 BW8 KMV
      go_wp2_with fail
      refine (KFM.out).mono ?_
      rintro e w10 ⟨rfl, f1, f2⟩
      have OM10 := Lib.hid (OM9.out.m2 f2 f1)
      have BW10 : Hid (Below W2.heap.size W2 w10) := BW9.out.trans (f2.below BW9.out.size fun b hb => by
        have := OM9.out.lo
        omega)
      have hmE : movErr (szs R) (i : Int) (k : Int) (t : Int) = 0 := by
        unfold movErr
        rw [szs_len, if_neg (by omega)]
      have KRM := rmove_any w10 r (szs R) OM10.out.rp OK.out.ok (i : Int) (k : Int) (t : Int) ⟨by omega, by omega⟩
      unfold movTo at KRM
      rw [hmE, if_pos rfl, Int.toNat_natCast, Int.toNat_natCast, Int.toNat_natCast, ← szs_movR] at KRM
      have KRMH := Lib.hid KRM
      have d1 := OM10.out.rv.c
      have d2 := OM10.out.rv.f
      clear f1 f2 OM9 BW9 KFM hmE KRM
      go_wp2_with fail
      refine (KRMH.out).mono ?_
      rintro e w11 ⟨r', rfl, p1, hb⟩
      obtain ⟨Rm, eRm⟩ : ∃ X, X = movR R i k t := ⟨_, rfl⟩
      have ERM := Lib.hid eRm
      have lenM : Rm.length = m := by rw [eRm, tlen_movR R kik ktm, EM.out]
      have LNM := Lib.hid lenM
      have RP11 : Hid (Rp w11 r' (szs Rm)) := by rw [eRm]; exact p1
      have OM11 := Lib.hid (OM10.out.below hb)
      obtain ⟨w12, e12⟩ : ∃ W, W = w11.setCell ⟨sq, 0, none⟩ (.pointer r') := ⟨_, rfl⟩
      have OM12 := Lib.hid (OM11.out.m3 RP11.out (by rw [szs_len]; exact lenM))
      rw [← e12] at OM12
      have BW12 : Hid (Below W2.heap.size W2 w12) := by
        rw [e12]
        exact below_set (BW10.out.trans (hb.mono BW10.out.size)) OM10.out.lo.2.2.2 _
      have L12 := Lib.hid (L2.out.below BW12.out)
      have E12 := Lib.hid e12
      have KAM := Lib.hid (imove_ok w12 a A' S R (L12.out.get (.head _)).ix i k t kik (by omega))
      rw [← ERM.out] at KAM
      obtain ⟨x1, x2, x3, x4, _, lx⟩ := L12.out.get (.head _)
      have d3 := OM11.out.rv.c
      have d4 := OM11.out.rv.f
      clear p1 hb e12 eRm OM10 BW10 KRMH d1 d2 OM11 lenM
      rw [E12.out] at x1 x2 x3 x4 lx
      go_wp2_with fail
      rw [← E12.out]
      refine (KAM.out).mono ?_
      rintro e w13 ⟨a2, A2, S2, rfl, p1, hb⟩
      have L13 := Lib.hid (L12.out.below hb)
      have OM13 := Lib.hid (OM12.out.below hb)
      obtain ⟨w14, e14⟩ : ∃ W, W = (w13.setCell ⟨qa, 0, none⟩ (.pointer a2)).setCell ⟨qa, 1, none⟩ (.slice A2 S2.length S2.length) := ⟨_, rfl⟩
      have L14 := Lib.hid (L13.out.put1 (.head _) p1)
      have OM14 := Lib.hid (OM13.out.m4 (.pointer a2) (.slice A2 S2.length S2.length))
      rw [← e14] at L14 OM14
      have E14 := Lib.hid e14
      have hmi : i + k ≤ m := by rw [EM.out]; exact kik
      have hmt : t + k ≤ m := by rw [EM.out]; exact ktm
      have KCA := Lib.hid (carry_ok w14 Am Ai m ci (movF i k t) (fun q => 5 * (q : Int)) OM14.out.ms.sees OM14.out.ids.sees (by omega) (once_movs hmi hmt))
      clear x1 x2 x3 x4 lx d3 d4
      obtain ⟨x1, x2, x3, x4, _, lx⟩ := L13.out.get (.head _)
      obtain ⟨c0, c1', cf, cl'⟩ := rm_cells OM14.out.mp
      rw [E14.out] at c0 c1' cf cl'
      clear p1 hb e14 L12 OM12 KAM BW12
      go_wp2_with fail
      rw [← E14.out]
      refine (KCA.out).mono ?_
      rintro e w15 ⟨A5, rfl, s5, hb⟩
      have L15 := Lib.hid (L14.out.below hb)
      have OM15 := Lib.hid (OM14.out.below hb)
      have S5 := Lib.hid s5
      have KLI := Lib.hid (gb_list w15 p g' m _ OM15.out.gb)
      clear s5 hb KCA x1 x2 x3 x4 lx c0 c1' cf cl' L13 OM13 L14 OM14
      go_wp2_with fail
      refine (KLI.out).mono ?_
      rintro e w16 ⟨A6, rfl, s6, hb⟩
      have L16 := Lib.hid (L15.out.below hb)
      have OM16 := Lib.hid (OM15.out.below hb)
      have S5' := Lib.hid ((S5.out.below hb).more hb.size)
      have S6 := Lib.hid s6
      have KRL := Lib.hid (rlist_any w16 r' (szs Rm) OM16.out.rp (L16.out.get (.head _)).ix.ok)
      rw [szs_len, LNM.out] at KRL
      have d1 := OM16.out.rv.c
      have d2 := OM16.out.rv.f
      clear s6 hb KLI L15 OM15 S5
      go_wp2_with fail
      refine (KRL.out).mono ?_
      rintro e w17 ⟨A7, rfl, s7, hb⟩
      have L17 := Lib.hid (L16.out.below hb)
      have OM17 := Lib.hid (OM16.out.below hb)
      have S5 := Lib.hid ((S5'.out.below hb).more hb.size)
      have S6' := Lib.hid ((S6.out.below hb).more hb.size)
      have S7 : Hid (Sees w17 w17.heap.size A7 m (i64s (lf (szs Rm)))) := by
        have h := s7.sees
        rwa [Nat.mul_one] at h
      have TW := Lib.hid (five_two (m := m) (by omega) hmi hmt)
      have KMS := Lib.hid (moves_ok w17 Ai A6 m ci m (fun q => 5 * (q : Int)) (fun q => 5 * (movF i k t q : Int)) (movF i k t) OM17.out.ids.sees S6'.out (by omega) TW.out)
      clear s7 hb KRL d1 d2 L16 OM16 S5' S6
      go_wp2_with fail
      refine (KMS.out).mono ?_
      rintro e w18 ⟨q, r0, O, As, cs, rfl, hl, hO', sO, hb⟩
      obtain ⟨I, hI1, hI2, hI3, hI4⟩ := moves_idx TW.out hl hO'
      obtain ⟨f1, f2⟩ := few_steps hmi hmt hl
      subst hI1
      rw [List.length_map]
      have L18 := Lib.hid (L17.out.below hb)
      have OM18 := Lib.hid (OM17.out.below hb)
      have S5' := Lib.hid ((S5.out.below hb).more hb.size)
      have S6 := Lib.hid ((S6'.out.below hb).more hb.size)
      have S7' := Lib.hid ((S7.out.below hb).more hb.size)
      have KRC := Lib.hid (rcarry_ok w18 Ai m ci (fun q => 5 * (q : Int)) OM18.out.ids.sees hO.out.z (by omega) TW.out.ol (movF i k t) (fun u hu => movF_lt hmi hmt hu) (fun u u' hu hu' e => movF_inj hmi hmt hu hu' e) I hI2 As cs sO (by omega))
      have HI3 := Lib.hid hI3
      obtain ⟨N, eN⟩ : ∃ N, N = I.length := ⟨_, rfl⟩
      rw [← eN] at hI4 KRC ⊢
      have hN1 : N ≤ k := by omega
      have hN2 : N ≤ m - k := by omega
      clear hb hl hO' hI2 hI3 hI4 sO f1 f2 eN KMS L17 OM17 S5 S6' S7
      go_wp2_with fail
      refine (KRC.out).mono ?_
      rintro e w19 ⟨A8, rfl, s8, hb⟩
      have Q0 : Hid (O2 w w19 qa a2 A2 S2 Rm pf m (movF i k t) A5 A6 A7 A8 Al (szs R)) :=
        ⟨L18.out.below hb, by rw [ERM.out]; exact OM18.out.fl.below hb, (S5'.out.below hb).more hb.size, (S6.out.below hb).more hb.size, (S7'.out.below hb).more hb.size, s8.congr fun u hu => by
          show Value.int .i64 (5 * (((runF m (movF i k t) I).1 u : Nat) : Int)) = .int .i64 (5 * (movF i k t u : Int))
          rw [HI3.out u hu], ((OM18.out.l.sees).below hb).more hb.size⟩
      have LFM : Hid (∀ u, u < m → lf (szs Rm) u = lf (szs R) (movF i k t u)) := fun u hu => by
        rw [ERM.out]
        exact lf_movR R kik ktm (by rw [← EM.out]; exact hu)
      have MLT : Hid (∀ u, u < m → movF i k t u < m) := fun u hu => movF_lt hmi hmt hu
      generalize movF i k t = μ at Q0 LFM MLT
      clear hb s8 KRC HI3 L18 OM18 S5' S6 S7' TW L2 L2X EW EQ kik ktm hmi hmt
      obtain ⟨x1, x2, x3, x4, _, lx⟩ := Q0.out.lx.get (.head _)
      go_wp2_with fail
      have KLn := ilen_any w19 a2 A2 S2.length Rm (Q0.out.lx.get (.head _)).ix.rp
      rw [LNM.out] at KLn
      refine (KLn).mono ?_
      rintro e w20 ⟨rfl, hb⟩
      have Q1 := Lib.hid (Q0.out.below hb)
      have KFn := flen_any w20 pf (kl Rm) Q1.out.fl
      rw [kl_len, LNM.out] at KFn
      have KFH := Lib.hid KFn
      have hN3 : (N : Int) ≤ (k : Int) := by omega
      have hN4 : (N : Int) ≤ (m : Int) - (k : Int) := by omega
      have wr2 : IntKind.i64.wrap ((m : Int) - (k : Int)) = (m : Int) - (k : Int) := IntWalk.i64_in _ (by omega)
      clear hb KLn KFn Q0 x1 x2 x3 x4 lx
      go_wp2_with fail
      refine (KFH.out).mono ?_
      rintro e w' ⟨rfl, rfl⟩
      go_wp2_with fail
      clear KFH
      go_loopw [33] (fun uv wq => ∃ u : Nat, u ≤ m ∧ uv = .int .i64 u ∧ Hid (O2 w wq qa a2 A2 S2 Rm pf m μ A5 A6 A7 A8 Al (szs R))) (fun uv _ => m - (intOf uv).toNat)
      case atStart => exact ⟨0, Nat.zero_le _, rfl, Q1⟩
      case round =>
        obtain ⟨u, hu, rfl, Qr⟩ := hrel
        clear Q1
        by_cases hul : u < m
        · have hui : (u : Int) < (m : Int) := by omega
          have hur : u < Rm.length := by rw [LNM.out]; exact hul
          have LU := Lib.hid (LFM.out u hul)
          have hμ := MLT.out u hul
          have HUR := Lib.hid hur
          obtain ⟨x1, x2, x3, x4, _, lx⟩ := Qr.out.lx.get (.head _)
          have KZ := isize_any wr a2 A2 S2.length Rm (Qr.out.lx.get (.head _)).ix.rp (by rw [LNM.out]; omega) u ⟨by omega, by omega⟩
          obtain ⟨e1, e2⟩ := size_ok hur
          rw [e1, e2] at KZ
          have KZH := Lib.hid KZ
          clear e1 e2 KZ hur
          go_wp2_with fail
          refine (KZH.out).mono ?_
          rintro e wd ⟨rfl, hb⟩
          have Qd := Lib.hid (Qr.out.below hb)
          clear hb KZH Qr x1 x2 x3 x4 lx
          obtain ⟨x1, x2, x3, x4, _, lx⟩ := Qd.out.lx.get (.head _)
          have KK := iknown_any wd a2 A2 S2 Rm (Qd.out.lx.get (.head _)).ix u ⟨by omega, by omega⟩
          obtain ⟨e1, e2⟩ := known_ok HUR.out
          rw [e1, e2] at KK
          have KKH := Lib.hid KK
          clear KK e1 e2
          go_wp2_with fail
          refine (KKH.out).mono ?_
          rintro e we ⟨rfl, hb⟩
          have Qe := Lib.hid (Qd.out.below hb)
          have KF := fGet_ok we pf (kl Rm) Qe.out.fl u (by rw [kl_len]; exact HUR.out)
          rw [bt_kl] at KF
          have KFH := Lib.hid KF
          clear hb KKH Qd x1 x2 x3 x4 lx KF
          obtain ⟨v5, o5, rfl, _, c5⟩ := (Qe.out.s5).at_ (k := u) hul
          obtain ⟨v6, o6, rfl, _, c6⟩ := (Qe.out.s6).at_ (k := u) hul
          obtain ⟨v7, o7, rfl, _, c7⟩ := (Qe.out.s7).at_ (k := u) hul
          obtain ⟨v8, o8, rfl, _, c8⟩ := (Qe.out.s8).at_ (k := u) hul
          obtain ⟨v9, o9, rfl, _, c9⟩ := (Qe.out.sl).at_ (k := μ u) hμ
          rw [i64s_at] at c5 c6 c7 c8 c9
          rw [← LU.out] at c9
          have h1 : ¬ 5 * (μ u : Int) < 0 := by omega
          have h2 : ¬ (m : Int) ≤ (μ u : Int) := by omega
          have h3 : Int.tdiv (5 * (μ u : Int)) 5 = (μ u : Int) := by rw [Int.tdiv_eq_ediv_of_nonneg (by omega)]; omega
          have h4 : (μ u : Int) < (m : Int) := by omega
          have h5 : IntKind.i64.wrap (μ u : Int) = (μ u : Int) := IntWalk.i64_in _ (by omega)
          generalize kn Rm u = bv at *
          generalize lf (szs Rm) u = sv at *
          generalize μ u = μu at *
          go_wp2_with fail
          refine (KFH.out).mono ?_
          rintro e w' ⟨rfl, rfl⟩
          go_wp2_with fail
          clear KFH
          refine wp_region_quiet_lit (by as_aux_lemma => kernel_rfl) (by as_aux_lemma => kernel_rfl) ?_
          as_aux_lemma =>
            iterate 24 (quiet_step (fail))
            as_aux_lemma =>
              iterate 24 (quiet_step (fail))
              as_aux_lemma =>
                repeat (quiet_step (fail))
                refine wpQuiet_nil ?_
                intro _ hw'
                obtain ⟨nq, hw2⟩ := hw'
                subst hw2
                have QX : Hid (O2 w (we.drewN nq) qa a2 A2 S2 Rm pf m μ _ _ _ _ _ (szs R)) := Qe.out.below (Drawn.below ⟨nq, rfl⟩ _)
                go_wp2_with fail
                · exfalso
                  rename_i hbad
                  rcases hbad with (hbad | hbad) | hbad
                  · exact absurd hbad (by decide)
                  · omega
                  · omega
                · clear h1 h2 h3 h4 h5 c5 c6 c7 c8 c9
                  go_roundw
                  case rel => exact ⟨u + 1, by omega, by go_num, QX⟩
                  case measure => simp [intOf]; omega
        · obtain rfl : m = u := by omega
          go_wp2_with fail
          refine (live11_yes wr (fun i hi => absurd hi (by omega)) (by omega)).mono ?_
          rintro e wz ⟨rfl, hb⟩
          have HB : Hid (Below w.heap.size w wz) := (Qr.out.lx.below hb).bl
          clear hb
          go_wp2_with fail
          go_ret
          exact ⟨rfl, HB.out⟩
end Go.Proofs.YtfmfmeiaekknbaaGreat

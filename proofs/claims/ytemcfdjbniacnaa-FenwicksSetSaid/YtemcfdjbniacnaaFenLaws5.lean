/-
  The walk of the law FenwicksSet of layer 2.
-/
import Derived.Test.YtemcfdjbniacnaaFenLives
import Derived.Test.YtemcfdjbniacnaaFenF
import Derived.Test.YtemcfdjbniacnaaFenI
import Derived.Test.YtemcfdjbniacnaaFenOpen
import Derived.StillTailTactics
import Derived.Test.YtemcfdjbniacnaaMix
namespace Go.Proofs.Ytemcfdjbniacnaa
open Go.RowKit
set_option linter.unusedVariables false
set_option linter.unusedSimpArgs false

theorem chkTo_of_sizes (l : Nat → Int) (n : Nat) (h : Sizes l n) (hb : ∀ j, j < n → l j ≤ 2305843009213693952) : ∀ k, k ≤ n → chkTo l k = 0 := by
  intro k
  induction k with
  | zero => intro _; rfl
  | succ k ih =>
    intro hk
    have := h.bd (a := k + 1) hk
    rw [psum_succ] at this
    exact chkTo_0 l (ih (by omega)) (h.nn k hk) (hb k hk) (by omega)
theorem setTo_ok (l : Nat → Int) (n : Nat) (i s : Int) (hn : n ≤ 4096) (h : chkTo l n = 0) : chkTo (setTo l n i s) n = 0 := by
  unfold setTo
  by_cases c : setErr l n i s = 0
  · rw [if_pos c]
    unfold setErr at c
    by_cases c1 : i < 0 ∨ (n : Int) ≤ i
    · rw [if_pos c1] at c; exact absurd c (by decide)
    rw [if_neg c1] at c
    by_cases c2 : s < 0 ∨ 2305843009213693952 < s
    · rw [if_pos c2] at c; exact absurd c (by decide)
    rw [if_neg c2] at c
    by_cases c3 : 4611686018427387904 < psum l n - l i.toNat + s
    · rw [if_pos c3] at c; exact absurd c (by decide)
    refine chkTo_of_sizes _ n (sizes_setAt l i.toNat n s (by omega) (sizes_of_chk l n hn h) (by omega) (by omega)) (fun j hj => ?_) n (Nat.le_refl n)
    unfold setAt
    by_cases d : j = i.toNat
    · rw [if_pos d]; omega
    · rw [if_neg d]; exact (chkTo_step l (chkTo_zero l h (show j + 1 ≤ n from hj))).2.2.1
  · rw [if_neg c]; exact h

theorem cast_mod1 (k n : Nat) : (k : Int) % ((n : Int) + 1) = ((k % (n + 1) : Nat) : Int) := by rw [Int.natCast_emod]; rfl

set_option maxRecDepth 100000 in
set_option maxHeartbeats 6400000 in
theorem law_set (A : Option Addr) (n c : Nat) (l : Nat → Int) (A2 : Option Addr) (n2 c2 : Nat) (F : Nat → Value) (w : World) (hs : Sees w w.heap.size A n (i64s l)) (hf : ∀ k, Fits (l k)) (hnc : n ≤ c) (hc : c ≤ maxLen)
    (hs2 : Sees w w.heap.size A2 (n2 * 2) F) (hf2 : ∀ i, i < n2 → ∃ x y, F (i * 2) = .int .i64 x ∧ F (i * 2 + 1) = .int .i64 y ∧ Fits x ∧ Fits y) (hnc2 : n2 ≤ c2) (hc2 : c2 ≤ maxLen) :
    Calls Try.prog 7 #[.slice A n c, .slice A2 n2 c2] w fun e w' => e = .returned (.bool true) ∧ Below w.heap.size w w' := by
  have HS := Lib.hid hs
  have HF := Lib.hid hf
  have HS2 := Lib.hid hs2
  have HF2 := Lib.hid hf2
  clear hs hf hnc hc hs2 hf2 hnc2 hc2
  by_cases hbig : 40 < n
  · go_enter Try.func7, Try.ntmps7
    go_wp2_with fail
    refine (lives2_yes _).mono ?_
    rintro e w2 ⟨rfl, hb2⟩
    have HB := Lib.hid hb2
    clear hb2
    go_wp2_with fail
    go_ret
    exact ⟨rfl, HB.out⟩
  have hn : n ≤ 40 := by omega
  by_cases hbig2 : 40 < n2
  · go_enter Try.func7, Try.ntmps7
    go_wp2_with fail
    refine (lives2_yes _).mono ?_
    rintro e w2 ⟨rfl, hb2⟩
    have HB := Lib.hid hb2
    clear hb2
    go_wp2_with fail
    go_ret
    exact ⟨rfl, HB.out⟩
  have hn2 : n2 ≤ 40 := by omega
  by_cases hck : chk l n = 0
  case neg =>
    have hne : (chk l n != 0) = true := by rw [bne_iff_ne]; exact hck
    clear hck
    go_enter Try.func7, Try.ntmps7
    go_wp2_with fail
    refine (check_any A n c l w _ HS.out HF.out (by omega)).mono ?_
    rintro e w' ⟨rfl, rfl⟩
    go_wp2_with fail
    refine (lives2_yes _).mono ?_
    rintro e w2 ⟨rfl, hb2⟩
    have HB := Lib.hid hb2
    clear hb2
    go_wp2_with fail
    go_ret
    exact ⟨rfl, HB.out⟩
  have hckt : chkTo l n = 0 := by unfold chk at hck; rwa [if_neg (by omega)] at hck
  have HC := Lib.hid hck
  have HT := Lib.hid hckt
  clear hck hckt
  go_enter Try.func7, Try.ntmps7
  go_wp2_with fail
  refine (check_any A n c l w _ HS.out HF.out (by omega)).mono ?_
  rintro e w' ⟨rfl, rfl⟩
  rw [HC.out]
  go_wp2_with fail
  refine (fnew_ok A n c l w HS.out HF.out HC.out).mono ?_
  rintro e w1 ⟨p, rfl, ⟨gs, gt, hFe, g1, g2, g3⟩, hb⟩
  obtain ⟨A', c', w2, run, O, hb2, hcm⟩ := clone_i64 w1 (c := c) (HS.out.below hb) hb.size (by omega)
  have F2 := Lib.hid (hFe.below hb2)
  have D2 := Lib.hid (hb.trans (hb2.mono hb.size))
  have V2 : Hid (SeesO (S3 p gs gt) w2 A' n (i64s l)) := O.seesO (S := S3 p gs gt) hFe.lt
  have GE : Hid (∀ b, S3 p gs gt b → w.heap.size ≤ b) := by rintro b (rfl | rfl | rfl) <;> assumption
  have R := Lib.hid run
  clear hFe g1 g2 g3 hb run O hb2
  go_wp2_with (at_builtin; refine Hid.out ?_)
  refine Lib.hid (Lib.wpList_append_run _ rfl _ _ _ _ rfl _ _ rfl rfl _ _ (R.out _) ?_)
  go_wp2_with fail
  clear R
  go_loopw [7, 8] (fun x i wr => ∃ (k : Nat) (v : Nat → Int) (B : Option Addr) (cb : Nat), k ≤ n2 ∧ i = .int .i64 k ∧ x = .slice B n cb ∧ Hid (chkTo v n = 0) ∧ Hid (FG wr p gs gt n v) ∧ Hid (SeesO (S3 p gs gt) wr B n (i64s v)) ∧ Hid (Below w.heap.size w wr)) (fun _ i _ => n2 - (intOf i).toNat)
  case atStart => exact ⟨0, l, A', c', Nat.zero_le _, rfl, rfl, HT, F2, V2, D2⟩
  case round =>
    obtain ⟨k, v, B, cb, hk, rfl, rfl, hv, hFG, hO, hD⟩ := hrel
    clear F2 V2 D2
    by_cases hlt : k < n2
    · obtain ⟨x, y, hx, hy, fx, fy⟩ := HF2.out k hlt
      obtain ⟨b2, o2, rfl, hb2, hc2⟩ := HS2.out (by omega)
      have d1 := (hD.out.cell (p := ⟨b2, o2 + k * 2, none⟩) hb2).trans (hc2 (k * 2) (by omega))
      have d2 := (hD.out.cell (p := ⟨b2, o2 + k * 2 + 1, none⟩) hb2).trans (hc2 (k * 2 + 1) (by omega))
      rw [hx] at d1
      rw [hy] at d2
      clear hx hy hc2
      have hki : (k : Int) < (n2 : Int) := by omega
      have hk0 : (0 : Int) ≤ (k : Int) := by omega
      have HR : Hid (∀ q, Calls Try.prog 23 #[.slice B n cb, .int .i64 x, .int .i64 y] (wr.drewN q) (RSetPost wr B n cb v x y)) := fun q => (refSet_any (wr.drewN q) B n cb v (hO.out.sees) hv.out (by omega) x y).mono fun e w' h => h.of_drawn
      go_wp2_with fail
      refine wp_region_mix [([], [0, 1, 2, 3, 4, 5, 6, 7, 8, 9, 10], 11)] [12, 13, 14, 15, 16] (by kernel_rfl) (by kernel_rfl) ?_
      refine Mix.mark _ _ (by simp only [pick, List.cons_append, List.nil_append, List.getElem?_toArray, List.getElem?_cons_succ, List.getElem?_cons_zero]; rfl) (by simp only [pick, List.getElem?_toArray, List.getElem?_cons_succ, List.getElem?_cons_zero]; rfl) ?_
      repeat still_step
      refine wpStill_nil ?_
      go_wp2_with fail
      refine (HR.out 1).mono ?_
      rintro e w3 ⟨Bn, cn, rfl, hO3, hb3⟩
      have O3 := Lib.hid (hO3 (S3 p gs gt) hFG.out.lt hO.out)
      have HV : Hid (chkTo (setTo v n x y) n = 0) := setTo_ok v n x y (by omega) hv.out
      have d1 := (hb3.cell (p := ⟨b2, o2 + k * 2, none⟩) (Nat.lt_of_lt_of_le hb2 hD.out.size)).trans d1
      have d2 := (hb3.cell (p := ⟨b2, o2 + k * 2 + 1, none⟩) (Nat.lt_of_lt_of_le hb2 hD.out.size)).trans d2
      have HS3 : Hid (∀ q, Calls Try.prog 16 #[.pointer (some ⟨p, 0, none⟩), .int .i64 x, .int .i64 y] (w3.drewN q) fun e w' => e = .returned (.int .i64 (setErr v n x y)) ∧ FG w' p gs gt n (setTo v n x y) ∧ Fr (S3 p gs gt) (w3.drewN q) w') := fun q => fSet_any (w3.drewN q) p gs gt n v ((hFG.out.below hb3).drawn ⟨q, rfl⟩) x y
      have D3 := Lib.hid (hD.out.trans (hb3.mono hD.out.size))
      obtain ⟨er, her⟩ : ∃ er, er = setErr v n x y := ⟨_, rfl⟩
      obtain ⟨vn, hvn⟩ : ∃ vn, vn = setTo v n x y := ⟨_, rfl⟩
      rw [← her, ← hvn] at HS3
      rw [← hvn] at O3 HV
      rw [← her]
      clear hO3 hb3 hFG hO hv HR her hvn hD
      go_wp2_with fail
      refine Mix.last _ (by simp only [pick, List.getElem?_toArray, List.getElem?_cons_succ, List.getElem?_cons_zero]; rfl) ?_
      repeat still_step
      refine wpStill_nil ?_
      go_wp2_with fail
      refine wp_region_mix [([12], [0, 1, 2, 3, 4, 5, 6, 7, 8, 9, 10], 11)] [13] (by kernel_rfl) (by kernel_rfl) ?_
      refine Mix.mark _ _ (by simp only [pick, List.cons_append, List.nil_append, List.getElem?_toArray, List.getElem?_cons_succ, List.getElem?_cons_zero]; rfl) (by simp only [pick, List.getElem?_toArray, List.getElem?_cons_succ, List.getElem?_cons_zero]; rfl) ?_
      repeat still_step
      refine wpStill_nil ?_
      go_wp2_with fail
      refine (HS3.out 1).mono ?_
      rintro e w4 ⟨rfl, hFG4, hFr⟩
      have G4 := Lib.hid hFG4
      have O4 := Lib.hid (O3.out.fr (((Fr.refl _ w3).drawn ⟨1, rfl⟩).trans hFr))
      have D4 := Lib.hid (D3.out.trans ((below_drewN (Below.refl _ w3) 1).trans (hFr.below D3.out.size GE.out)))
      clear hFG4 hFr HS3 O3 D3 d1 d2
      go_wp2_with fail
      refine Mix.last _ (by simp only [pick, List.getElem?_toArray, List.getElem?_cons_succ, List.getElem?_cons_zero]; rfl) ?_
      repeat still_step
      refine wpStill_nil ?_
      go_wp2_with fail
      rw [cast_mod1]
      have hkm : k % (n + 1) ≤ n := by have := Nat.mod_lt k (show 0 < n + 1 by omega); omega
      have CS : Hid (∀ i, i ≤ n → Calls Try.prog 12 #[.slice Bn n cn, .int .i64 (i : Int)] w4 fun e w' => e = .returned (.int .i64 (psum vn i)) ∧ w4 = w') := fun i hi => sum_any Bn n cn i vn i w4 rfl _ O4.out.sees hi (by omega) (chkTo_zero vn HV.out hi)
      obtain ⟨m, hm⟩ : ∃ m, m = k % (n + 1) := ⟨_, rfl⟩
      rw [← hm] at hkm ⊢
      clear hm
      refine (fSum_ok w4 0 p n vn G4.out.fen m hkm).mono ?_
      rintro e w' ⟨rfl, rfl⟩
      go_wp2_with fail
      have CSm := Lib.hid (CS.out m hkm)
      have CSn := Lib.hid (CS.out n (Nat.le_refl n))
      have CT := Lib.hid (ftotal_any w4 0 p n vn G4.out.fen)
      obtain ⟨z, hz⟩ : ∃ z, z = psum vn m := ⟨_, rfl⟩
      obtain ⟨z2, hz2⟩ : ∃ z, z = psum vn n := ⟨_, rfl⟩
      rw [← hz] at CSm ⊢
      rw [← hz2] at CSn CT
      clear hz hz2 CS
      go_wp2_with fail
      refine (CSm.out).mono ?_
      rintro e w' ⟨rfl, rfl⟩
      go_wp2_with fail
      refine (CT.out).mono ?_
      rintro e w' ⟨rfl, rfl⟩
      go_wp2_with fail
      refine (CSn.out).mono ?_
      rintro e w' ⟨rfl, rfl⟩
      go_wp2_with fail
      go_roundw
      case rel => exact ⟨k + 1, vn, Bn, cn, by omega, by go_num, rfl, HV, G4, O4, D4⟩
      case measure => simp [intOf]; omega
    · obtain rfl : k = n2 := by omega
      go_wp2_with fail
      refine (fList_any wr 0 p n v hFG.out.fen).mono ?_
      rintro e w5 ⟨A5, rfl, hr, hb, hz⟩
      have V5 : Hid (Sees w5 w5.heap.size A5 n (i64s v)) := by
        intro h0
        obtain ⟨g, rfl, _, hrow⟩ := hr h0
        exact Sees.row hrow (Nat.le_refl n) h0
      have BS := Lib.hid hO.out.sees
      have B5 := Lib.hid hb
      have E5 : Hid (0 < n → ∃ g, A5 = some ⟨g, 0, none⟩ ∧ wr.heap.size ≤ g ∧ w5.rowIs g 2 n (i64s v)) := hr
      clear hr hb hz hO
      go_wp2_with fail
      refine (same2_yes w5 A5 B n cb _ _ v V5.out (BS.out.below B5.out) (by omega)).mono ?_
      rintro e w6 ⟨rfl, hd⟩
      have B6 := Lib.hid (B5.out.trans (hd.below _))
      have E6 : Hid (0 < n → ∃ g, A5 = some ⟨g, 0, none⟩ ∧ wr.heap.size ≤ g ∧ w6.rowIs g 2 n (i64s v)) := fun h => by
        obtain ⟨g, h1, h2, h3⟩ := E5.out h
        obtain ⟨q, rfl⟩ := hd
        exact ⟨g, h1, h2, h3⟩
      clear hd B5 E5 V5
      go_wp2_with fail
      obtain ⟨wo, rfl⟩ : ∃ wo : World, wo = wr := ⟨_, rfl⟩
      go_loopw [15] (fun i w7 => ∃ (j : Nat) (f : Nat → Int), j ≤ n ∧ i = .int .i64 j ∧ Hid (0 < n → ∃ g, A5 = some ⟨g, 0, none⟩ ∧ wo.heap.size ≤ g ∧ w7.rowIs g 2 n (i64s f)) ∧ Hid (Below wo.heap.size wo w7)) (fun i _ => n - (intOf i).toNat)
      case atStart => exact ⟨0, v, Nat.zero_le _, rfl, E6, B6⟩
      case round =>
        obtain ⟨j, f, hj, rfl, hE, hB⟩ := hrel
        clear E6 B6
        by_cases hlt2 : j < n
        · obtain ⟨g, rfl, hg, hrow⟩ := hE.out (by omega)
          have e1 := hrow.cell hlt2
          have e2 := hrow.frozen j
          rw [i64s_at] at e1
          have HR := Lib.hid hrow
          clear hE hrow
          have hki : (j : Int) < (n : Int) := by omega
          go_wp2_with fail
          go_roundw
          case rel =>
            refine ⟨j + 1, fun q => if q = j then wrap64 (f j + 1) else f q, by omega, by go_num, fun _ => ⟨g, rfl, hg, (HR.out.set j _).congr fun q _ => ?_⟩, hB.out.setCell (p := ⟨g, j, none⟩) hg _⟩
            show (if q = j then Value.int .i64 (wrap64 (f j + 1)) else .int .i64 (f q)) = .int .i64 (if q = j then wrap64 (f j + 1) else f q)
            split <;> rfl
          case measure => simp [intOf]; omega
        · obtain rfl : j = n := by omega
          have BZ := hB.out.size
          have DZ := Lib.hid (hD.out.trans (hB.out.mono hD.out.size))
          have GZ := Lib.hid (hFG.out.below hB.out)
          have SZ := Lib.hid (BS.out.below hB.out)
          clear hE hB hD hFG BS
          go_wp2_with fail
          refine (fList_any wr 0 p j v GZ.out.fen).mono ?_
          rintro e w8 ⟨A8, rfl, hr, hb, hz⟩
          have V8 : Hid (Sees w8 w8.heap.size A8 j (i64s v)) := by
            intro h0
            obtain ⟨g, rfl, _, hrow⟩ := hr h0
            exact Sees.row hrow (Nat.le_refl j) h0
          have S8 := Lib.hid (SZ.out.below (hb.mono (by have := DZ.out.size; have := BZ; omega)))
          have D8 := Lib.hid (DZ.out.trans (hb.mono DZ.out.size))
          clear hr hb hz
          go_wp2_with fail
          refine (same2_yes w8 A8 B j cb _ _ v V8.out S8.out (by omega)).mono ?_
          rintro e w9 ⟨rfl, hd⟩
          have D9 := Lib.hid (D8.out.trans (hd.below _))
          clear hd
          go_wp2_with fail
          refine (lives2_yes _).mono ?_
          rintro e wz ⟨rfl, hb⟩
          have D10 := Lib.hid (D9.out.trans (hb.mono D9.out.size))
          clear hb
          go_wp2_with fail
          go_ret
          exact ⟨rfl, D10.out⟩
end Go.Proofs.Ytemcfdjbniacnaa

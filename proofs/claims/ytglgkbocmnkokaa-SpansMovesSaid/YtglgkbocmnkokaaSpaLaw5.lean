/-
  The law SpansMoves.
-/
import Derived.Test.YtglgkbocmnkokaaSpaT
import Derived.Test.YtglgkbocmnkokaaSpaLaw1
import Derived.Test.YtglgkbocmnkokaaSpaLaw2
import Derived.BigQuiet
import Derived.IntWalk
namespace Go.Proofs.Ytglgkbocmnkokaa
open Go.RowKit
set_option linter.unusedVariables false
set_option linter.unusedSimpArgs false

theorem ins_sp {L R R' : Sp} {a d n : Nat} (hL : G3 L) (hn : 300 ≤ n) (hm : ∀ i, memS R i ↔ (i < (a : Int) ∧ memS L i) ∨ ((a : Int) + d ≤ i ∧ memS L (i - d))) (hR : NF R) (hR' : SpTo (insM (fun i : Nat => anyS L i) a d) (n + d) R') (hL0 : ∀ i, memS L i → 0 ≤ i) : R = R' :=
  NFfrom.unique hR hR'.nf fun i => by
    rw [hm, hR'.me]
    constructor
    · rintro (⟨h1, h2⟩ | ⟨h1, h2⟩)
      · have h3 := hL0 _ h2
        have h4 := hL.2.2.2 _ h2
        refine ⟨h3, by push_cast; omega, ?_⟩
        unfold insM
        rw [if_pos (by omega)]
        show anyS L ((i.toNat : Nat) : Int) = true
        rw [Int.toNat_of_nonneg h3, anyS_iff]; exact h2
      · have h3 := hL0 _ h2
        have h4 := hL.2.2.2 _ h2
        refine ⟨by omega, by push_cast; omega, ?_⟩
        unfold insM
        rw [if_neg (by omega), if_neg (by omega)]
        show anyS L ((i.toNat - d : Nat) : Int) = true
        rw [show ((i.toNat - d : Nat) : Int) = i - d from by omega, anyS_iff]; exact h2
    · rintro ⟨h1, h2, h3⟩
      unfold insM at h3
      by_cases c : i.toNat < a
      · rw [if_pos c] at h3
        have h4 : anyS L ((i.toNat : Nat) : Int) = true := h3
        rw [Int.toNat_of_nonneg h1, anyS_iff] at h4
        exact .inl ⟨by omega, h4⟩
      · rw [if_neg c] at h3
        by_cases c2 : i.toNat < a + d
        · rw [if_pos c2] at h3; exact absurd h3 (by decide)
        · rw [if_neg c2] at h3
          have h4 : anyS L ((i.toNat - d : Nat) : Int) = true := h3
          rw [show ((i.toNat - d : Nat) : Int) = i - d from by omega, anyS_iff] at h4
          exact .inr ⟨by omega, h4⟩
theorem rem_sp {L R R' : Sp} {a d n : Nat} (hL : G3 L) (hn : 300 ≤ n) (hm : ∀ i, memS R i ↔ (i < (a : Int) ∧ memS L i) ∨ ((a : Int) ≤ i ∧ memS L (i + d))) (hR : NF R) (hR' : SpTo (remM (fun i : Nat => anyS L i) a d) n R') (hL0 : ∀ i, memS L i → 0 ≤ i) : R = R' :=
  NFfrom.unique hR hR'.nf fun i => by
    rw [hm, hR'.me]
    constructor
    · rintro (⟨h1, h2⟩ | ⟨h1, h2⟩)
      · have h3 := hL0 _ h2
        have h4 := hL.2.2.2 _ h2
        refine ⟨h3, by omega, ?_⟩
        unfold remM
        rw [if_pos (by omega)]
        show anyS L ((i.toNat : Nat) : Int) = true
        rw [Int.toNat_of_nonneg h3, anyS_iff]; exact h2
      · have h4 := hL.2.2.2 _ h2
        refine ⟨by omega, by omega, ?_⟩
        unfold remM
        rw [if_neg (by omega)]
        show anyS L ((i.toNat + d : Nat) : Int) = true
        rw [show ((i.toNat + d : Nat) : Int) = i + d from by omega, anyS_iff]; exact h2
    · rintro ⟨h1, h2, h3⟩
      unfold remM at h3
      by_cases c : i.toNat < a
      · rw [if_pos c] at h3
        have h4 : anyS L ((i.toNat : Nat) : Int) = true := h3
        rw [Int.toNat_of_nonneg h1, anyS_iff] at h4
        exact .inl ⟨by omega, h4⟩
      · rw [if_neg c] at h3
        have h4 : anyS L ((i.toNat + d : Nat) : Int) = true := h3
        rw [show ((i.toNat + d : Nat) : Int) = i + d from by omega, anyS_iff] at h4
        exact .inr ⟨by omega, h4⟩
theorem cI_step {f : Int → Bool} {a i : Int} (h : a ≤ i) : cI f a (i + 1 - a).toNat = cI f a (i - a).toNat + (if f i then 1 else 0) := by
  rw [show (i + 1 - a).toNat = (i - a).toNat + 1 from by omega]
  show cI f a (i - a).toNat + (if f (a + ((i - a).toNat : Nat)) then (1 : Int) else 0) = _
  rw [show a + (((i - a).toNat : Nat) : Int) = i from by omega]

set_option maxRecDepth 100000 in
set_option maxHeartbeats 12800000 in
theorem law_moves (A : Option Addr) (n c : Nat) (m : Nat → Bool) (x y : Int) (w : World) (s : Sees w w.heap.size A n (bls m)) (hc : n ≤ c) (hM : c ≤ maxLen) (x0 : 0 ≤ x) (x1 : x ≤ 255) (y0 : 0 ≤ y) (y1 : y ≤ 255) :
    Calls Try.prog 6 #[.agg #[.slice A n c], .int .u8 x, .int .u8 y] w fun e w' => e = .returned (.bool true) ∧ Below w.heap.size w w' := by
  obtain ⟨a, rfl⟩ : ∃ a : Nat, x = a := ⟨x.toNat, by omega⟩
  obtain ⟨d, rfl⟩ : ∃ a : Nat, y = a := ⟨y.toNat, by omega⟩
  have ha : a ≤ 255 := by omega
  have hd : d ≤ 255 := by omega
  have HS := Lib.hid s
  have HCC : Hid (n ≤ c ∧ c ≤ maxLen) := ⟨hc, hM⟩
  have HB : Hid (Below w.heap.size w (w.alloc (.cells #[.slice A n c] 41))) := (Below.refl _ w).alloc (Nat.le_refl _) _
  have c0 : (w.alloc (.cells #[.slice A n c] 41)).cell? ⟨w.heap.size, 0, none⟩ = some (.slice A n c) := (World.rowIs_alloc w #[.slice A n c] 41 (fun _ => .slice A n c) (fun j hj => by
    have h0 : j = 0 := Nat.lt_one_iff.1 hj
    subst h0; rfl)).cell (i := 0) (by simp)
  have hlt0 : w.heap.size < (w.alloc (.cells #[.slice A n c] 41)).heap.size := by rw [World.size_alloc]; omega
  have HC0 := Lib.hid c0
  have HLT := Lib.hid hlt0
  have K1 := Lib.hid (sOf_any _ _ A n c m (HS.out.below HB.out) HB.out.size hc hM)
  clear s hc hM hlt0
  go_enter Try.func6, Try.ntmps6
  go_wp2_with fail
  obtain ⟨w1, ew⟩ : ∃ x, x = w.alloc (.cells #[.slice A n c] 41) := ⟨_, rfl⟩
  rw [← ew] at HB HC0 HLT K1 ⊢
  clear ew c0
  refine (K1.out).mono ?_
  rintro e w2 ⟨L, A1, d1, rfl, hT1, q1, hb, hcap, -⟩
  have X2 : Hid (PS w1 w2 [(A1, L)]) := ((PS.start (Below.refl _ w1)).below hb).add q1
  have HL := Lib.hid (G3.sp hT1 (by omega))
  have HT1 := Lib.hid hT1
  have HL0 : Hid (∀ i, memS L i → 0 ≤ i) := fun i hi => ((hT1.me i).1 hi).1
  have he := hT1.e1
  have he2 : endS (-1) L ≤ 300 := by omega
  have HE := Lib.hid he2
  have K2 := Lib.hid (pairs_sees w2 _ A1 d1 L q1 (Nat.le_refl _) (by have := HL.out.2.2.1; omega))
  clear hb q1 K1 hT1 he he2 hcap
  go_wp2_with fail
  refine (K2.out).mono ?_
  rintro e w3 ⟨A3, c3, rfl, q1, hb⟩
  have X3 := Lib.hid (X2.out.below hb)
  have K3 := Lib.hid (refMarks_any w3 _ A3 c3 L (400 + d) (fun i : Nat => anyS L i) (fun _ => rfl) q1 (Nat.le_refl _) (by have := HL.out.2.2.1; omega) (by omega))
  rw [show ((400 + d : Nat) : Int) = 400 + (d : Int) from by push_cast; rfl] at K3
  obtain ⟨mm, emm⟩ : ∃ f : Nat → Bool, f = fun i : Nat => anyS L i := ⟨_, rfl⟩
  have HMM := Lib.hid emm
  rw [← emm] at K3
  clear hb q1 K2 X2 emm
  go_wp2_with fail
  refine (K3.out).mono ?_
  rintro e w4 ⟨A4, c4, rfl, O4, hb, hc4⟩
  have X4 := Lib.hid (X3.out.below hb)
  have S4 := Lib.hid (OwnB.see O4)
  have HC4 : Hid (400 + d ≤ c4 ∧ c4 ≤ maxLen) := ⟨O4.le, hc4⟩
  clear hb O4 K3 X3 hc4
  have HR : Hid (rngS L (a : Int) (d : Int) = 0) := by show rngS L a d = 0; unfold rngS; rw [if_neg (by rw [HL.out.2.1]; decide), if_neg (by omega)]
  have K4 := Lib.hid (insert_any w4 _ A1 d1 L a d (X4.out.see (.head _)) (Nat.le_refl _) (NF.fits HL.out.1) (by have := HL.out.2.2.1; omega) ⟨by omega, by omega⟩ ⟨by omega, by omega⟩)
  go_wp2_with fail
  refine (K4.out).mono ?_
  rintro e w5 hp
  obtain ⟨R1, e1, ⟨B1, rfl, q1, hb⟩, -, hg⟩ := hp.small HR.out (by have := HL.out.2.2.1; omega)
  obtain ⟨rfl, z1, zl1, zc1, zm1⟩ := hg (by have := HE.out; omega)
  have H1 : Hid (chkS R1 = 0 ∧ R1.length ≤ 601 ∧ cntS R1 = cntS L) := ⟨z1, by have := HL.out.2.2.1; omega, zc1⟩
  have M1 := Lib.hid zm1
  have D45 := Lib.hid hb
  have X5 := Lib.hid ((X4.out.below hb).add q1)
  clear hb q1 K4 z1 zl1 zc1 zm1 hg
  have K5 := Lib.hid (remove_any w5 _ A1 d1 L a d (X5.out.see (.tail _ (.head _))) (Nat.le_refl _) (NF.fits HL.out.1) (by have := HL.out.2.2.1; omega) ⟨by omega, by omega⟩ ⟨by omega, by omega⟩)
  go_wp2_with fail
  refine (K5.out).mono ?_
  rintro e w6 hp
  obtain ⟨R2, ⟨B2, rfl, q1, hb⟩, z1, zl1, zc1, zm1⟩ := hp.small HR.out (by have := HL.out.2.2.1; omega)
  have H2 : Hid (chkS R2 = 0 ∧ R2.length ≤ 601 ∧ cntS R2 = cntS L - goneS a d L) := ⟨z1, by have := HL.out.2.2.1; omega, zc1⟩
  have M2 := Lib.hid zm1
  have X6 := Lib.hid ((X5.out.below hb).add q1)
  have D46 : Hid (Below w4.heap.size w4 w6) := D45.out.trans (hb.mono D45.out.size)
  clear hb q1 K5 z1 zl1 zc1 zm1 D45 X5 X4
  have K6 := Lib.hid (refInsert_any w6 _ A4 (400 + d) c4 mm (S4.out.below D46.out) D46.out.size HC4.out.1 HC4.out.2 a d (by omega) (by omega) (by omega))
  go_wp2_with fail
  refine (K6.out).mono ?_
  rintro e w7 ⟨A7, c7, rfl, S7, hb⟩
  have D47 : Hid (Below w4.heap.size w4 w7) := D46.out.trans (hb.mono D46.out.size)
  have X7 := Lib.hid (X6.out.below hb)
  have K7 := Lib.hid (refSpans_any w7 _ A7 (400 + d + d) c7 _ S7 (Nat.le_refl _) (by omega))
  clear hb S7 K6 X6 D46
  go_wp2_with fail
  refine (K7.out).mono ?_
  rintro e w8 ⟨R', A8, c8, rfl, hT, q1, hb⟩
  rw [HMM.out] at hT
  obtain rfl := ins_sp HL.out (by omega) M1.out (chkS_zero.1 H1.out.1).1 hT HL0.out
  have D48 : Hid (Below w4.heap.size w4 w8) := D47.out.trans (hb.mono D47.out.size)
  have X8 := Lib.hid (X7.out.below hb)
  have K8 := Lib.hid (same_yes w8 B1 A8 c8 _ _ R1 0 (X8.out.see (.tail _ (.head _))) q1 (Nat.le_refl _) (Nat.le_refl _) (by have := H1.out.2.1; omega))
  clear hb q1 K7 X7 D47 hT
  go_wp2_with fail
  refine (K8.out).mono ?_
  rintro e w9 ⟨rfl, hb⟩
  have D49 : Hid (Below w4.heap.size w4 w9) := D48.out.trans (hb.mono D48.out.size)
  have X9 := Lib.hid (X8.out.below hb)
  clear hb K8 X8 D48
  have K9 := Lib.hid (refRemove_any w9 _ A4 (400 + d) c4 mm (S4.out.below D49.out) D49.out.size HC4.out.1 HC4.out.2 a d (by omega) (by omega))
  rw [show 400 + d - d = 400 from by omega] at K9
  go_wp2_with fail
  refine (K9.out).mono ?_
  rintro e w10 ⟨A10, c10, rfl, S10, hb⟩
  have X10 := Lib.hid (X9.out.below hb)
  have K10 := Lib.hid (refSpans_any w10 _ A10 400 c10 _ S10 (Nat.le_refl _) (by omega))
  clear hb S10 K9 X9 D49
  go_wp2_with fail
  refine (K10.out).mono ?_
  rintro e w11 ⟨R', A11, c11, rfl, hT, q1, hb⟩
  rw [HMM.out] at hT
  obtain rfl := rem_sp HL.out (by omega) M2.out (chkS_zero.1 H2.out.1).1 hT HL0.out
  have X11 := Lib.hid (X10.out.below hb)
  have K11 := Lib.hid (same_yes w11 B2 A11 c11 _ _ R2 0 (X11.out.see (.head _)) q1 (Nat.le_refl _) (Nat.le_refl _) (by have := H2.out.2.1; omega))
  clear hb q1 K10 X10 hT S4 HC4 HMM
  go_wp2_with fail
  refine (K11.out).mono ?_
  rintro e w12 ⟨rfl, hb⟩
  have X12 := Lib.hid (X11.out.below hb)
  clear hb K11 X11
  have K12 := Lib.hid (remove_any w12 _ B1 R1.length R1 a d (X12.out.see (.tail _ (.head _))) (Nat.le_refl _) (NF.fits (chkS_zero.1 H1.out.1).1) (by have := H1.out.2.1; omega) ⟨by omega, by omega⟩ ⟨by omega, by omega⟩)
  go_wp2_with fail
  refine (K12.out).mono ?_
  rintro e w13 hp
  obtain ⟨B3, rfl, q1, hb⟩ := hp.eq (by unfold rngS; rw [if_neg (by rw [H1.out.1]; decide), if_neg (by omega)]) HL.out.1 (by have := HL.out.2.2.1; omega) (back_me (by omega) M1.out)
  have X13 := Lib.hid ((X12.out.below hb).add q1)
  clear hb q1 K12 X12
  go_wp2_with fail
  go_loopw [16, 17] (fun gv iv wr => ∃ (i g : Int), iv = .int .i64 i ∧ gv = .int .i64 g ∧ (a : Int) ≤ i ∧ i ≤ a + d ∧ Hid (g = cI (anyS L) a (i - a).toNat) ∧ 0 ≤ g ∧ g ≤ i - a ∧ Hid (Below w13.heap.size w13 wr)) (fun _ iv _ => (a + d) - (intOf iv).toNat)
  case atStart => exact ⟨a, 0, rfl, rfl, Int.le_refl _, by omega, by show (0 : Int) = _; rw [Int.sub_self]; rfl, Int.le_refl _, by omega, Below.refl _ _⟩
  case round =>
    obtain ⟨i, g, rfl, rfl, hi0, hi1, hG, hg0, hg1, hD⟩ := hrel
    by_cases hlt : i < (a : Int) + d
    · have K := Lib.hid (pairs_sees wr _ A1 d1 L ((X13.out.below hD.out).see (.tail _ (.tail _ (.tail _ (.head _))))) (Nat.le_refl _) (by have := HL.out.2.2.1; omega))
      have ST := Lib.hid (cI_step (f := anyS L) hi0)
      rw [← hG.out] at ST
      go_wp2_with fail
      refine (K.out).mono ?_
      rintro e w15 ⟨A15, c15, rfl, q1, hb⟩
      have D15 : Hid (Below w13.heap.size w13 w15) := hD.out.trans (hb.mono hD.out.size)
      have KH := Lib.hid (refHas_any w15 _ A15 c15 L i q1 (by have := HL.out.2.2.1; omega))
      obtain ⟨b, eb⟩ : ∃ b, b = anyS L i := ⟨_, rfl⟩
      rw [← eb] at KH ST
      clear hb q1 K hD eb hG
      cases b with
      | true =>
        have GE : Hid (g + 1 = cI (anyS L) a (i + 1 - a).toNat) := ST.out.symm
        clear ST
        go_wp2_with fail
        refine (KH.out).mono ?_
        rintro e w' ⟨rfl, rfl⟩
        go_wp2_with fail
        go_roundw
        case rel => exact ⟨i + 1, g + 1, by go_num, by go_num, by omega, by omega, GE, by omega, by omega, D15⟩
        case measure => simp [intOf]; omega
      | false =>
        have GE : Hid (g = cI (anyS L) a (i + 1 - a).toNat) := by show _ = _; rw [ST.out]; exact (Int.add_zero g).symm
        clear ST
        go_wp2_with fail
        refine (KH.out).mono ?_
        rintro e w' ⟨rfl, rfl⟩
        go_wp2_with fail
        go_roundw
        case rel => exact ⟨i + 1, g, by go_num, by go_num, by omega, by omega, GE, by omega, by omega, D15⟩
        case measure => simp [intOf]; omega
    · obtain rfl : i = (a : Int) + d := by omega
      have hgg : g = goneS a d L := by
        rw [hG.out, NFfrom.cI HL.out.1, show ((a : Int) + d - a).toNat = d from by omega]
      have X14 := Lib.hid (X13.out.below hD.out)
      have CN2 : Hid (cntS R2 = cntS L - g) := by show _ = _; rw [H2.out.2.2, hgg]
      obtain ⟨tl0, tl1⟩ := cntS_rng HL.out.1
      have c0 := HC0.out
      have hlt0 := HLT.out
      have hw : IntKind.i64.wrap (cntS L - g) = cntS L - g := IntWalk.i64_in _ (by omega)
      clear hG hD X13 hgg hlt
      have X15 := Lib.hid (X14.out.below (Below.refl _ wr).drew)
      clear X14
      go_wp2_with fail
      refine wp_region_plan [(false, 0), (false, 1), (false, 2), (true, 3), (true, 4), (false, 5), (false, 6), (false, 8), (false, 10), (true, 7), (true, 9), (false, 11), (false, 12), (false, 13), (false, 14), (false, 15), (false, 17), (true, 16), (true, 18), (false, 19), (false, 20), (false, 21), (false, 22), (false, 24), (false, 25), (false, 26), (false, 27), (false, 29), (true, 23), (false, 28), (true, 30), (true, 31), (false, 32), (false, 33), (true, 34), (false, 35), (false, 36)] (Below w1.heap.size w1) (by kernel_rfl) (by kernel_rfl) (X15.out.bl) _ (by simp only [pickH, List.getElem?_toArray, List.getElem?_cons_succ, List.getElem?_cons_zero]; rfl) ?_
      repeat (refine HWalk.step (fun K hK => ?_); first | (apply held_yes; (focus rfl); (focus (intro w' hw; obtain ⟨hc', hf'⟩ := below_cells hw; go_simp; rfl)); (go_simp; refine hK _ ?_; clear hK K)) | (refine ite_no (by decide) ?_; go_simp; refine hK _ ?_; clear hK K))
      refine HWalk.mark ?_
      go_wp2_with fail
      have K := Lib.hid (pairs_sees wr.drew _ A1 d1 L (X15.out.see (.tail _ (.tail _ (.tail _ (.head _))))) (Nat.le_refl _) (by have := HL.out.2.2.1; omega))
      refine (K.out).mono ?_
      rintro e v1 ⟨A16, c16, rfl, q1, hb⟩
      have X16 := Lib.hid ((X15.out.below hb).add q1)
      clear hb K X15 q1
      go_wp2_with fail
      refine ⟨X16.out.bl, ?_⟩
      repeat (refine HWalk.step (fun K hK => ?_); first | (apply held_yes; (focus rfl); (focus (intro w' hw; obtain ⟨hc', hf'⟩ := below_cells hw; go_simp; rfl)); (go_simp; refine hK _ ?_; clear hK K)) | (refine ite_no (by decide) ?_; go_simp; refine hK _ ?_; clear hK K))
      refine HWalk.mark ?_
      go_wp2_with fail
      have K := Lib.hid (same_yes v1 B3 A16 c16 _ _ L 0 (X16.out.see (.tail _ (.head _))) (X16.out.see (.head _)) (Nat.le_refl _) (Nat.le_refl _) (by have := HL.out.2.2.1; omega))
      refine (K.out).mono ?_
      rintro e v2 ⟨rfl, hb⟩
      have X17 := Lib.hid (X16.out.below hb)
      clear hb K X16
      go_wp2_with fail
      refine ⟨X17.out.bl, ?_⟩
      repeat (refine HWalk.step (fun K hK => ?_); first | (apply held_yes; (focus rfl); (focus (intro w' hw; obtain ⟨hc', hf'⟩ := below_cells hw; go_simp; rfl)); (go_simp; refine hK _ ?_; clear hK K)) | (refine ite_no (by decide) ?_; go_simp; refine hK _ ?_; clear hK K))
      refine HWalk.mark ?_
      go_wp2_with fail
      have K := Lib.hid (count_any v2 _ B2 R2.length R2 (X17.out.see (.tail _ (.tail _ (.head _)))) (Nat.le_refl _) (NF.fits (chkS_zero.1 H2.out.1).1) (by have := H2.out.2.1; omega))
      unfold countS at K
      rw [if_pos H2.out.1, CN2.out] at K
      refine (K.out).mono ?_
      rintro e v3 ⟨rfl, hb⟩
      have X18 := Lib.hid (X17.out.below hb)
      clear hb K X17
      go_wp2_with fail
      refine ⟨X18.out.bl, ?_⟩
      repeat (refine HWalk.step (fun K hK => ?_); first | (apply held_yes; (focus rfl); (focus (intro w' hw; obtain ⟨hc', hf'⟩ := below_cells hw; go_simp; rfl)); (go_simp; refine hK _ ?_; clear hK K)) | (refine ite_no (by decide) ?_; go_simp; refine hK _ ?_; clear hK K))
      refine HWalk.mark ?_
      go_wp2_with fail
      have K := Lib.hid (count_any v3 _ A1 d1 L (X18.out.see (.tail _ (.tail _ (.tail _ (.tail _ (.head _)))))) (Nat.le_refl _) (NF.fits HL.out.1) (by have := HL.out.2.2.1; omega))
      unfold countS at K
      rw [if_pos HL.out.2.1] at K
      refine (K.out).mono ?_
      rintro e v4 ⟨rfl, hb⟩
      have X19 := Lib.hid (X18.out.below hb)
      clear hb K X18
      go_wp2_with fail
      refine ⟨X19.out.bl, ?_⟩
      repeat (refine HWalk.step (fun K hK => ?_); first | (apply held_yes; (focus rfl); (focus (intro w' hw; obtain ⟨hc', hf'⟩ := below_cells hw; go_simp; rfl)); (go_simp; refine hK _ ?_; clear hK K)) | (refine ite_no (by decide) ?_; go_simp; refine hK _ ?_; clear hK K))
      refine HWalk.mark ?_
      go_wp2_with fail
      have K := Lib.hid (count_any v4 _ B1 R1.length R1 (X19.out.see (.tail _ (.tail _ (.tail _ (.head _))))) (Nat.le_refl _) (NF.fits (chkS_zero.1 H1.out.1).1) (by have := H1.out.2.1; omega))
      unfold countS at K
      rw [if_pos H1.out.1, H1.out.2.2] at K
      refine (K.out).mono ?_
      rintro e v5 ⟨rfl, hb⟩
      have X20 := Lib.hid (X19.out.below hb)
      clear hb K X19
      go_wp2_with fail
      refine ⟨X20.out.bl, ?_⟩
      repeat (refine HWalk.step (fun K hK => ?_); first | (apply held_yes; (focus rfl); (focus (intro w' hw; obtain ⟨hc', hf'⟩ := below_cells hw; go_simp; rfl)); (go_simp; refine hK _ ?_; clear hK K)) | (refine ite_no (by decide) ?_; go_simp; refine hK _ ?_; clear hK K))
      refine HWalk.mark ?_
      go_wp2_with fail
      have K := Lib.hid (count_any v5 _ A1 d1 L (X20.out.see (.tail _ (.tail _ (.tail _ (.tail _ (.head _)))))) (Nat.le_refl _) (NF.fits HL.out.1) (by have := HL.out.2.2.1; omega))
      unfold countS at K
      rw [if_pos HL.out.2.1] at K
      refine (K.out).mono ?_
      rintro e v6 ⟨rfl, hb⟩
      have X21 := Lib.hid (X20.out.below hb)
      clear hb K X20
      go_wp2_with fail
      refine ⟨X21.out.bl, ?_⟩
      repeat (refine HWalk.step (fun K hK => ?_); first | (apply held_yes; (focus rfl); (focus (intro w' hw; obtain ⟨hc', hf'⟩ := below_cells hw; go_simp; rfl)); (go_simp; refine hK _ ?_; clear hK K)) | (refine ite_no (by decide) ?_; go_simp; refine hK _ ?_; clear hK K))
      refine HWalk.mark ?_
      go_wp2_with fail
      have K := Lib.hid (sOf_any v6 _ A n c m ((HS.out.below HB.out).below (X21.out.bl.mono HB.out.size)) (Nat.le_trans HB.out.size X21.out.bl.size) HCC.out.1 HCC.out.2)
      refine (K.out).mono ?_
      rintro e v7 ⟨R, A22, c22, rfl, hT, q1, hb, hcap, hmx⟩
      have X22 := Lib.hid ((X21.out.below hb).add q1)
      obtain rfl : L = R := NFfrom.unique HT1.out.nf hT.nf fun i => by rw [HT1.out.me, hT.me]
      have SE := clip_eq A22 L.length c22 hcap
      have hcx : c22 ≤ 9223372036854775807 := hmx
      clear hb K X21 q1 hT
      go_wp2_with fail
      refine ⟨X22.out.bl, ?_⟩
      repeat (refine HWalk.step (fun K hK => ?_); first | (apply held_yes; (focus rfl); (focus (intro w' hw; obtain ⟨hc', hf'⟩ := below_cells hw; go_simp; rfl)); (go_simp; refine hK _ ?_; clear hK K)) | (refine ite_no (by decide) ?_; go_simp; refine hK _ ?_; clear hK K))
      refine HWalk.mark ?_
      go_wp2_with fail
      have K := Lib.hid (pairs_sees v7 _ A1 d1 L (X22.out.see (.tail _ (.tail _ (.tail _ (.tail _ (.tail _ (.head _))))))) (Nat.le_refl _) (by have := HL.out.2.2.1; omega))
      refine (K.out).mono ?_
      rintro e v8 ⟨A23, c23, rfl, q1, hb⟩
      have X23 := Lib.hid ((X22.out.below hb).add q1)
      clear hb K X22 q1
      go_wp2_with fail
      refine ⟨X23.out.bl, ?_⟩
      repeat (refine HWalk.step (fun K hK => ?_); first | (apply held_yes; (focus rfl); (focus (intro w' hw; obtain ⟨hc', hf'⟩ := below_cells hw; go_simp; rfl)); (go_simp; refine hK _ ?_; clear hK K)) | (refine ite_no (by decide) ?_; go_simp; refine hK _ ?_; clear hK K))
      refine HWalk.mark ?_
      go_wp2_with fail
      have K := Lib.hid (same_yes v8 A22 A23 c23 _ _ L 0 (X23.out.see (.tail _ (.head _))) (X23.out.see (.head _)) (Nat.le_refl _) (Nat.le_refl _) (by have := HL.out.2.2.1; omega))
      refine (K.out).mono ?_
      rintro e v9 ⟨rfl, hb⟩
      have X24 := Lib.hid (X23.out.below hb)
      clear hb K X23
      go_wp2_with fail
      refine ⟨X24.out.bl, ?_⟩
      repeat (refine HWalk.step (fun K hK => ?_); first | (apply held_yes; (focus rfl); (focus (intro w' hw; obtain ⟨hc', hf'⟩ := below_cells hw; go_simp; rfl)); (go_simp; refine hK _ ?_; clear hK K)) | (refine ite_no (by decide) ?_; go_simp; refine hK _ ?_; clear hK K))
      refine HWalk.mark ?_
      go_wp2_with fail
      have K := Lib.hid (lives_yes v9)
      refine (K.out).mono ?_
      rintro e v10 ⟨rfl, hb⟩
      have X25 := Lib.hid (X24.out.below hb)
      clear hb K X24
      go_wp2_with fail
      refine ⟨X25.out.bl, ?_⟩
      repeat (refine HWalk.step (fun K hK => ?_); first | (apply held_yes; (focus rfl); (focus (intro w' hw; obtain ⟨hc', hf'⟩ := below_cells hw; go_simp; rfl)); (go_simp; refine hK _ ?_; clear hK K)) | (refine ite_no (by decide) ?_; go_simp; refine hK _ ?_; clear hK K))
      refine HWalk.done ?_
      go_wp2_with fail
      go_ret
      exact ⟨rfl, HB.out.trans (X25.out.bl.mono HB.out.size)⟩
end Go.Proofs.Ytglgkbocmnkokaa

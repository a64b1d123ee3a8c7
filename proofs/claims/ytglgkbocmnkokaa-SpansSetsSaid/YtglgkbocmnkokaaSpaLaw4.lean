/-
  The law SpansSets.
-/
import Derived.Test.YtglgkbocmnkokaaSpaR
import Derived.Test.YtglgkbocmnkokaaSpaLaw1
import Derived.Test.YtglgkbocmnkokaaSpaLaw2
import Derived.Test.YtglgkbocmnkokaaHeld
import Derived.BigQuiet
namespace Go.Proofs.Ytglgkbocmnkokaa
open Go.RowKit
set_option linter.unusedVariables false
set_option linter.unusedSimpArgs false


set_option maxRecDepth 100000 in
set_option maxHeartbeats 12800000 in
theorem law_sets (A : Option Addr) (n1 c : Nat) (m1 : Nat → Bool) (A2 : Option Addr) (n2 c2 : Nat) (m2 : Nat → Bool) (w : World) (s : Sees w w.heap.size A n1 (bls m1)) (hc : n1 ≤ c) (hM : c ≤ maxLen) (s2 : Sees w w.heap.size A2 n2 (bls m2)) (hc2 : n2 ≤ c2) (hM2 : c2 ≤ maxLen) :
    Calls Try.prog 5 #[.agg #[.slice A n1 c], .agg #[.slice A2 n2 c2]] w fun e w' => e = .returned (.bool true) ∧ Below w.heap.size w w' := by
  have HS := Lib.hid s
  have HS2 := Lib.hid s2
  have HCC : Hid (n1 ≤ c ∧ c ≤ maxLen ∧ n2 ≤ c2 ∧ c2 ≤ maxLen) := ⟨hc, hM, hc2, hM2⟩
  have B0 : Below w.heap.size w (w.alloc (.cells #[.slice A n1 c] 41)) := (Below.refl _ w).alloc (Nat.le_refl _) _
  have B1 : Below (w.heap.size + 1) (w.alloc (.cells #[.slice A n1 c] 41)) ((w.alloc (.cells #[.slice A n1 c] 41)).alloc (.cells #[.slice A2 n2 c2] 41)) := (Below.refl _ _).alloc (by rw [World.size_alloc]; exact Nat.le_refl _) _
  have r0 := rowIs_below (World.rowIs_alloc w #[.slice A n1 c] 41 (fun _ => .slice A n1 c) (fun j hj => by
    have h0 : j = 0 := Nat.lt_one_iff.1 hj
    subst h0; rfl)) B1 (by omega)
  have c0 := r0.cell (i := 0) (by simp)
  have c1 := (World.rowIs_alloc (w.alloc (.cells #[.slice A n1 c] 41)) #[.slice A2 n2 c2] 41 (fun _ => .slice A2 n2 c2) (fun j hj => by
    have h0 : j = 0 := Nat.lt_one_iff.1 hj
    subst h0; rfl)).cell (i := 0) (by simp)
  rw [World.size_alloc] at c1
  have BX := B0.trans (B1.mono (by omega))
  have hsz : ((w.alloc (.cells #[.slice A n1 c] 41)).alloc (.cells #[.slice A2 n2 c2] 41)).heap.size = w.heap.size + 1 + 1 := by rw [World.size_alloc, World.size_alloc]
  have HB := Lib.hid BX
  have HC0 := Lib.hid c0
  have HC1 := Lib.hid c1
  have HSZ := Lib.hid hsz
  clear s s2 hc hM hc2 hM2 B0 B1 r0 c0 c1 BX hsz
  go_enter Try.func5, Try.ntmps5
  go_wp2_with fail
  obtain ⟨w1, ew⟩ : ∃ x, x = (w.alloc (.cells #[.slice A n1 c] 41)).alloc (.cells #[.slice A2 n2 c2] 41) := ⟨_, rfl⟩
  rw [← ew] at HB HC0 HC1 HSZ ⊢
  clear ew
  have c0 := HC0.out
  have c1 := HC1.out
  have hsz := HSZ.out
  have hlt0 : w.heap.size < w1.heap.size := by omega
  have hlt1 : w.heap.size + 1 < w1.heap.size := by omega
  clear HC0 HC1 HSZ hsz
  refine wp_region_plan [(false, 0), (false, 2), (true, 1), (true, 3), (false, 4), (false, 5)] (Below w1.heap.size w1) (by kernel_rfl) (by kernel_rfl) ((Below.refl _ w1).drew) _ (by simp only [pickH, List.getElem?_toArray, List.getElem?_cons_succ, List.getElem?_cons_zero]; rfl) ?_
  repeat (refine HWalk.step (fun K hK => ?_); first | (apply held_yes; (focus rfl); (focus (intro w' hw; obtain ⟨hc', hf'⟩ := below_cells hw; go_simp; rfl)); (go_simp; refine hK _ ?_; clear hK K)) | (refine ite_no (by decide) ?_; go_simp; refine hK _ ?_; clear hK K))
  refine HWalk.mark ?_
  go_wp2_with fail
  have K1 := Lib.hid (sOf_any _ _ A n1 c m1 ((HS.out.below HB.out).below ((Below.refl _ w1).drew.mono HB.out.size)) HB.out.size HCC.out.1 HCC.out.2.1)
  refine (K1.out).mono ?_
  rintro e w2 ⟨L, A1, d1, rfl, hT1, q1, hb, -, -⟩
  have X2 : Hid (PS w1 w2 [(A1, L)]) := ((PS.start (Below.refl _ w1).drew).below hb).add q1
  have HT1 := Lib.hid hT1
  clear hb q1 K1 hT1
  go_wp2_with fail
  refine ⟨X2.out.bl, ?_⟩
  repeat (refine HWalk.step (fun K hK => ?_); first | (apply held_yes; (focus rfl); (focus (intro w' hw; obtain ⟨hc', hf'⟩ := below_cells hw; go_simp; rfl)); (go_simp; refine hK _ ?_; clear hK K)) | (refine ite_no (by decide) ?_; go_simp; refine hK _ ?_; clear hK K))
  refine HWalk.mark ?_
  go_wp2_with fail
  have K2 := Lib.hid (sOf_any w2 _ A2 n2 c2 m2 ((HS2.out.below HB.out).below (X2.out.bl.mono HB.out.size)) (Nat.le_trans HB.out.size X2.out.bl.size) HCC.out.2.2.1 HCC.out.2.2.2)
  refine (K2.out).mono ?_
  rintro e w3 ⟨M, A3, d3, rfl, hT2, q1, hb, -, -⟩
  have X3 := Lib.hid ((X2.out.below hb).add q1)
  have HT2 := Lib.hid hT2
  clear hb q1 K2 hT2 X2
  go_wp2_with fail
  refine ⟨X3.out.bl, ?_⟩
  repeat (refine HWalk.step (fun K hK => ?_); first | (apply held_yes; (focus rfl); (focus (intro w' hw; obtain ⟨hc', hf'⟩ := below_cells hw; go_simp; rfl)); (go_simp; refine hK _ ?_; clear hK K)) | (refine ite_no (by decide) ?_; go_simp; refine hK _ ?_; clear hK K))
  refine HWalk.done ?_
  go_wp2_with fail
  go_wp2_with fail
  have X3d : Hid (PS w1 w3.drew [(A3, M), (A1, L)]) := X3.out.below (Below.refl _ w3).drew
  clear X3
  refine wp_region_plan [(false, 0), (false, 2), (true, 1), (true, 3), (false, 4), (false, 5)] (Below w1.heap.size w1) (by kernel_rfl) (by kernel_rfl) (X3d.out.bl) _ (by simp only [pickH, List.getElem?_toArray, List.getElem?_cons_succ, List.getElem?_cons_zero]; rfl) ?_
  repeat (refine HWalk.step (fun K hK => ?_); first | (apply held_yes; (focus rfl); (focus (intro w' hw; obtain ⟨hc', hf'⟩ := below_cells hw; go_simp; rfl)); (go_simp; refine hK _ ?_; clear hK K)) | (refine ite_no (by decide) ?_; go_simp; refine hK _ ?_; clear hK K))
  refine HWalk.mark ?_
  go_wp2_with fail
  have K3 := Lib.hid (marks_any w3.drew A n1 c HCC.out.1 HCC.out.2.1)
  refine (K3.out).mono ?_
  rintro e w5 ⟨rfl, hb⟩
  have X5 := Lib.hid (X3d.out.below hb)
  clear hb K3 X3d
  go_wp2_with fail
  refine ⟨X5.out.bl, ?_⟩
  repeat (refine HWalk.step (fun K hK => ?_); first | (apply held_yes; (focus rfl); (focus (intro w' hw; obtain ⟨hc', hf'⟩ := below_cells hw; go_simp; rfl)); (go_simp; refine hK _ ?_; clear hK K)) | (refine ite_no (by decide) ?_; go_simp; refine hK _ ?_; clear hK K))
  refine HWalk.mark ?_
  go_wp2_with fail
  have K4 := Lib.hid (marks_any w5 A2 n2 c2 HCC.out.2.2.1 HCC.out.2.2.2)
  refine (K4.out).mono ?_
  rintro e w6 ⟨rfl, hb⟩
  have X6 := Lib.hid (X5.out.below hb)
  clear hb K4 X5
  go_wp2_with fail
  refine ⟨X6.out.bl, ?_⟩
  repeat (refine HWalk.step (fun K hK => ?_); first | (apply held_yes; (focus rfl); (focus (intro w' hw; obtain ⟨hc', hf'⟩ := below_cells hw; go_simp; rfl)); (go_simp; refine hK _ ?_; clear hK K)) | (refine ite_no (by decide) ?_; go_simp; refine hK _ ?_; clear hK K))
  refine HWalk.done ?_
  go_wp2_with fail
  obtain ⟨k1, ek1⟩ : ∃ k, k = min n1 300 := ⟨_, rfl⟩
  obtain ⟨k2, ek2⟩ : ∃ k, k = min n2 300 := ⟨_, rfl⟩
  rw [← ek1] at HT1 ⊢
  rw [← ek2] at HT2 ⊢
  have hk1 : k1 ≤ 300 ∧ k1 ≤ n1 := by omega
  have hk2 : k2 ≤ 300 ∧ k2 ≤ n2 := by omega
  have S1 : Hid (Sees w6 w6.heap.size A k1 (bls m1)) := fun h0 => by
    obtain ⟨b, o, h1, h2, h3⟩ := ((HS.out.below HB.out).below (X6.out.bl.mono HB.out.size)) (by omega)
    exact ⟨b, o, h1, Nat.lt_of_lt_of_le h2 (Nat.le_trans HB.out.size X6.out.bl.size), fun j hj => h3 j (by omega)⟩
  have S2 : Hid (Sees w6 w6.heap.size A2 k2 (bls m2)) := fun h0 => by
    obtain ⟨b, o, h1, h2, h3⟩ := ((HS2.out.below HB.out).below (X6.out.bl.mono HB.out.size)) (by omega)
    exact ⟨b, o, h1, Nat.lt_of_lt_of_le h2 (Nat.le_trans HB.out.size X6.out.bl.size), fun j hj => h3 j (by omega)⟩
  obtain ⟨n, en⟩ : ∃ k, k = max k1 k2 := ⟨_, rfl⟩
  have HN := Lib.hid en
  have hn : n ≤ 300 := by omega
  obtain ⟨fO, efO⟩ : ∃ f : Nat → Bool, f = fun i => (decide (i < k1) && m1 i) || (decide (i < k2) && m2 i) := ⟨_, rfl⟩
  obtain ⟨fA, efA⟩ : ∃ f : Nat → Bool, f = fun i => (decide (i < k1) && m1 i) && (decide (i < k2) && m2 i) := ⟨_, rfl⟩
  obtain ⟨fN, efN⟩ : ∃ f : Nat → Bool, f = fun i => (decide (i < k1) && m1 i) && !(decide (i < k2) && m2 i) := ⟨_, rfl⟩
  have HFO : Hid (∀ i, fO i = ((decide (i < k1) && m1 i) || (decide (i < k2) && m2 i))) := fun i => by rw [efO]
  have HFA : Hid (∀ i, fA i = ((decide (i < k1) && m1 i) && (decide (i < k2) && m2 i))) := fun i => by rw [efA]
  have HFN : Hid (∀ i, fN i = ((decide (i < k1) && m1 i) && !(decide (i < k2) && m2 i))) := fun i => by rw [efN]
  clear efO efA efN ek1 ek2 c0 c1 hlt0 hlt1 HS HS2 HCC
  have hmax : max (k1 : Int) (k2 : Int) = ((n : Nat) : Int) := by omega
  have HMAX := Lib.hid hmax
  have O6 : Hid (Own3 w6 w6.heap.size 0 none 0 fO none 0 fA none 0 fN) := Own3.start _ _ _ _ _
  clear hmax en
  go_wp2_with fail
  rw [HMAX.out]
  go_loopw [10, 11, 12, 13] (fun sa sb sc i wr => ∃ (k : Nat) (Ao : Option Addr) (co : Nat) (Aa : Option Addr) (ca : Nat) (An : Option Addr) (cn : Nat), k ≤ n ∧ sa = .slice Ao k co ∧ sb = .slice Aa k ca ∧ sc = .slice An k cn ∧ i = .int .i64 k ∧ Hid (Own3 wr w6.heap.size k Ao co fO Aa ca fA An cn fN) ∧ Hid (Below w6.heap.size w6 wr)) (fun _ _ _ i _ => n - (intOf i).toNat)
  case atStart => exact ⟨0, none, 0, none, 0, none, 0, Nat.zero_le _, rfl, rfl, rfl, rfl, O6, Below.refl _ _⟩
  case round =>
    obtain ⟨k, Ao, co, Aa, ca, An, cn, hk, rfl, rfl, rfl, rfl, hO, hD⟩ := hrel
    clear O6
    by_cases hlt : k < n
    · have hki : (k : Int) < (n : Int) := by omega
      by_cases t1 : k < k1
      · have t1' : (k : Int) < (k1 : Int) := by omega
        obtain ⟨b, o, rfl, _, h3⟩ := (S1.out.below hD.out) (by omega)
        have c0 : wr.cell? ⟨b, o + k, none⟩ = some (.bool (m1 k)) := h3 k t1
        clear h3
        by_cases t2 : k < k2
        · have t2' : (k : Int) < (k2 : Int) := by omega
          obtain ⟨b2, o2, rfl, _, h4⟩ := (S2.out.below hD.out) (by omega)
          have c1 : ∀ q, (wr.drewN q).cell? ⟨b2, o2 + k, none⟩ = some (.bool (m2 k)) := fun _ => h4 k t2
          have c1' : wr.cell? ⟨b2, o2 + k, none⟩ = some (.bool (m2 k)) := h4 k t2
          obtain ⟨y, ey⟩ : ∃ y, y = m2 k := ⟨_, rfl⟩
          rw [← ey] at c1 c1'
          have hy : (decide (k < k2) && m2 k) = y := by rw [ey, decide_eq_true t2]; rfl
          clear h4
          have HY := Lib.hid hy
          clear hy ey
          cases hm : m1 k with
          | true =>
            rw [hm] at c0
            have HX : Hid ((decide (k < k1) && m1 k) = true) := by show _ = _; rw [decide_eq_true t1, hm]; rfl
            clear hm
            go_wp2_with fail
            go_quiet (fail)
            obtain ⟨w0, ew⟩ : ∃ x, x = wr.drewN nq := ⟨_, rfl⟩
            have D0 : Hid (Below w6.heap.size w6 w0) := by rw [ew]; exact hD.out.trans (((Drawn.refl _).drewN _).below _)
            have O0 := Lib.hid (hO.out.below (by rw [ew]; exact ((Drawn.refl _).drewN _).below _ : Below wr.heap.size wr w0))
            rw [← ew]
            obtain ⟨Ap, cp, Bp, dp, Cp, ep, v1, v2, v3, r1, r2, r3, O3, hb⟩ := O0.out.push D0.out.size true y (!y) (by rw [HFO.out, HX.out, HY.out]; rfl) (by rw [HFA.out, HX.out, HY.out]; rfl) (by rw [HFN.out, HX.out, HY.out]; rfl) (by omega)
            have R1 := Lib.hid r1
            have R2 := Lib.hid r2
            have R3 := Lib.hid r3
            have P3 := Lib.hid O3
            have D3 : Hid (Below w6.heap.size w6 v3) := D0.out.trans (hb.mono (Nat.le_refl _))
            clear r1 r2 r3 O3 hb hO hD D0 O0 ew
            go_wp2_with (at_builtin; refine Hid.out ?_)
            refine Lib.hid (Lib.wpList_append_run _ rfl _ _ _ _ rfl _ _ rfl rfl _ _ (R1.out _) ?_)
            go_wp2_with (at_builtin; refine Hid.out ?_)
            refine Lib.hid (Lib.wpList_append_run _ rfl _ _ _ _ rfl _ _ rfl rfl _ _ (R2.out _) ?_)
            go_wp2_with (at_builtin; refine Hid.out ?_)
            refine Lib.hid (Lib.wpList_append_run _ rfl _ _ _ _ rfl _ _ rfl rfl _ _ (R3.out _) ?_)
            go_wp2_with fail
            go_roundw
            case rel => exact ⟨k + 1, Ap, cp, Bp, dp, Cp, ep, by omega, rfl, rfl, rfl, by go_num, P3, D3⟩
            case measure => simp [intOf]; omega
          | false =>
            rw [hm] at c0
            have HX : Hid ((decide (k < k1) && m1 k) = false) := by show _ = _; rw [decide_eq_true t1, hm]; rfl
            clear hm
            go_wp2_with fail
            go_quiet (fail)
            obtain ⟨w0, ew⟩ : ∃ x, x = wr.drewN nq := ⟨_, rfl⟩
            have D0 : Hid (Below w6.heap.size w6 w0) := by rw [ew]; exact hD.out.trans (((Drawn.refl _).drewN _).below _)
            have O0 := Lib.hid (hO.out.below (by rw [ew]; exact ((Drawn.refl _).drewN _).below _ : Below wr.heap.size wr w0))
            rw [← ew]
            obtain ⟨Ap, cp, Bp, dp, Cp, ep, v1, v2, v3, r1, r2, r3, O3, hb⟩ := O0.out.push D0.out.size y false false (by rw [HFO.out, HX.out, HY.out]; rfl) (by rw [HFA.out, HX.out, HY.out]; rfl) (by rw [HFN.out, HX.out, HY.out]; rfl) (by omega)
            have R1 := Lib.hid r1
            have R2 := Lib.hid r2
            have R3 := Lib.hid r3
            have P3 := Lib.hid O3
            have D3 : Hid (Below w6.heap.size w6 v3) := D0.out.trans (hb.mono (Nat.le_refl _))
            clear r1 r2 r3 O3 hb hO hD D0 O0 ew
            go_wp2_with (at_builtin; refine Hid.out ?_)
            refine Lib.hid (Lib.wpList_append_run _ rfl _ _ _ _ rfl _ _ rfl rfl _ _ (R1.out _) ?_)
            go_wp2_with (at_builtin; refine Hid.out ?_)
            refine Lib.hid (Lib.wpList_append_run _ rfl _ _ _ _ rfl _ _ rfl rfl _ _ (R2.out _) ?_)
            go_wp2_with (at_builtin; refine Hid.out ?_)
            refine Lib.hid (Lib.wpList_append_run _ rfl _ _ _ _ rfl _ _ rfl rfl _ _ (R3.out _) ?_)
            go_wp2_with fail
            go_roundw
            case rel => exact ⟨k + 1, Ap, cp, Bp, dp, Cp, ep, by omega, rfl, rfl, rfl, by go_num, P3, D3⟩
            case measure => simp [intOf]; omega
        · have HY : Hid ((decide (k < k2) && m2 k) = false) := by show _ = _; rw [decide_eq_false t2]; rfl
          have t2' : ¬ (k : Int) < (k2 : Int) := by omega
          cases hm : m1 k with
          | true =>
            rw [hm] at c0
            have HX : Hid ((decide (k < k1) && m1 k) = true) := by show _ = _; rw [decide_eq_true t1, hm]; rfl
            clear hm
            go_wp2_with fail
            go_quiet (fail)
            obtain ⟨w0, ew⟩ : ∃ x, x = wr.drewN nq := ⟨_, rfl⟩
            have D0 : Hid (Below w6.heap.size w6 w0) := by rw [ew]; exact hD.out.trans (((Drawn.refl _).drewN _).below _)
            have O0 := Lib.hid (hO.out.below (by rw [ew]; exact ((Drawn.refl _).drewN _).below _ : Below wr.heap.size wr w0))
            rw [← ew]
            obtain ⟨Ap, cp, Bp, dp, Cp, ep, v1, v2, v3, r1, r2, r3, O3, hb⟩ := O0.out.push D0.out.size true false true (by rw [HFO.out, HX.out, HY.out]; rfl) (by rw [HFA.out, HX.out, HY.out]; rfl) (by rw [HFN.out, HX.out, HY.out]; rfl) (by omega)
            have R1 := Lib.hid r1
            have R2 := Lib.hid r2
            have R3 := Lib.hid r3
            have P3 := Lib.hid O3
            have D3 : Hid (Below w6.heap.size w6 v3) := D0.out.trans (hb.mono (Nat.le_refl _))
            clear r1 r2 r3 O3 hb hO hD D0 O0 ew
            go_wp2_with (at_builtin; refine Hid.out ?_)
            refine Lib.hid (Lib.wpList_append_run _ rfl _ _ _ _ rfl _ _ rfl rfl _ _ (R1.out _) ?_)
            go_wp2_with (at_builtin; refine Hid.out ?_)
            refine Lib.hid (Lib.wpList_append_run _ rfl _ _ _ _ rfl _ _ rfl rfl _ _ (R2.out _) ?_)
            go_wp2_with (at_builtin; refine Hid.out ?_)
            refine Lib.hid (Lib.wpList_append_run _ rfl _ _ _ _ rfl _ _ rfl rfl _ _ (R3.out _) ?_)
            go_wp2_with fail
            go_roundw
            case rel => exact ⟨k + 1, Ap, cp, Bp, dp, Cp, ep, by omega, rfl, rfl, rfl, by go_num, P3, D3⟩
            case measure => simp [intOf]; omega
          | false =>
            rw [hm] at c0
            have HX : Hid ((decide (k < k1) && m1 k) = false) := by show _ = _; rw [decide_eq_true t1, hm]; rfl
            clear hm
            go_wp2_with fail
            go_quiet (fail)
            obtain ⟨w0, ew⟩ : ∃ x, x = wr.drewN nq := ⟨_, rfl⟩
            have D0 : Hid (Below w6.heap.size w6 w0) := by rw [ew]; exact hD.out.trans (((Drawn.refl _).drewN _).below _)
            have O0 := Lib.hid (hO.out.below (by rw [ew]; exact ((Drawn.refl _).drewN _).below _ : Below wr.heap.size wr w0))
            rw [← ew]
            obtain ⟨Ap, cp, Bp, dp, Cp, ep, v1, v2, v3, r1, r2, r3, O3, hb⟩ := O0.out.push D0.out.size false false false (by rw [HFO.out, HX.out, HY.out]; rfl) (by rw [HFA.out, HX.out, HY.out]; rfl) (by rw [HFN.out, HX.out, HY.out]; rfl) (by omega)
            have R1 := Lib.hid r1
            have R2 := Lib.hid r2
            have R3 := Lib.hid r3
            have P3 := Lib.hid O3
            have D3 : Hid (Below w6.heap.size w6 v3) := D0.out.trans (hb.mono (Nat.le_refl _))
            clear r1 r2 r3 O3 hb hO hD D0 O0 ew
            go_wp2_with (at_builtin; refine Hid.out ?_)
            refine Lib.hid (Lib.wpList_append_run _ rfl _ _ _ _ rfl _ _ rfl rfl _ _ (R1.out _) ?_)
            go_wp2_with (at_builtin; refine Hid.out ?_)
            refine Lib.hid (Lib.wpList_append_run _ rfl _ _ _ _ rfl _ _ rfl rfl _ _ (R2.out _) ?_)
            go_wp2_with (at_builtin; refine Hid.out ?_)
            refine Lib.hid (Lib.wpList_append_run _ rfl _ _ _ _ rfl _ _ rfl rfl _ _ (R3.out _) ?_)
            go_wp2_with fail
            go_roundw
            case rel => exact ⟨k + 1, Ap, cp, Bp, dp, Cp, ep, by omega, rfl, rfl, rfl, by go_num, P3, D3⟩
            case measure => simp [intOf]; omega
      · have HX : Hid ((decide (k < k1) && m1 k) = false) := by show _ = _; rw [decide_eq_false t1]; rfl
        have t1' : ¬ (k : Int) < (k1 : Int) := by omega
        have t2 : k < k2 := by have := HN.out; omega
        have t2' : (k : Int) < (k2 : Int) := by omega
        obtain ⟨b2, o2, rfl, _, h4⟩ := (S2.out.below hD.out) (by omega)
        have c1 : ∀ q, (wr.drewN q).cell? ⟨b2, o2 + k, none⟩ = some (.bool (m2 k)) := fun _ => h4 k t2
        have c1' : wr.cell? ⟨b2, o2 + k, none⟩ = some (.bool (m2 k)) := h4 k t2
        obtain ⟨y, ey⟩ : ∃ y, y = m2 k := ⟨_, rfl⟩
        rw [← ey] at c1 c1'
        have hy : (decide (k < k2) && m2 k) = y := by rw [ey, decide_eq_true t2]; rfl
        clear h4
        have HY := Lib.hid hy
        clear hy ey
        go_wp2_with fail
        go_quiet (fail)
        obtain ⟨w0, ew⟩ : ∃ x, x = wr.drewN nq := ⟨_, rfl⟩
        have D0 : Hid (Below w6.heap.size w6 w0) := by rw [ew]; exact hD.out.trans (((Drawn.refl _).drewN _).below _)
        have O0 := Lib.hid (hO.out.below (by rw [ew]; exact ((Drawn.refl _).drewN _).below _ : Below wr.heap.size wr w0))
        rw [← ew]
        obtain ⟨Ap, cp, Bp, dp, Cp, ep, v1, v2, v3, r1, r2, r3, O3, hb⟩ := O0.out.push D0.out.size y false false (by rw [HFO.out, HX.out, HY.out]; rfl) (by rw [HFA.out, HX.out, HY.out]; rfl) (by rw [HFN.out, HX.out, HY.out]; rfl) (by omega)
        have R1 := Lib.hid r1
        have R2 := Lib.hid r2
        have R3 := Lib.hid r3
        have P3 := Lib.hid O3
        have D3 : Hid (Below w6.heap.size w6 v3) := D0.out.trans (hb.mono (Nat.le_refl _))
        clear r1 r2 r3 O3 hb hO hD D0 O0 ew
        go_wp2_with (at_builtin; refine Hid.out ?_)
        refine Lib.hid (Lib.wpList_append_run _ rfl _ _ _ _ rfl _ _ rfl rfl _ _ (R1.out _) ?_)
        go_wp2_with (at_builtin; refine Hid.out ?_)
        refine Lib.hid (Lib.wpList_append_run _ rfl _ _ _ _ rfl _ _ rfl rfl _ _ (R2.out _) ?_)
        go_wp2_with (at_builtin; refine Hid.out ?_)
        refine Lib.hid (Lib.wpList_append_run _ rfl _ _ _ _ rfl _ _ rfl rfl _ _ (R3.out _) ?_)
        go_wp2_with fail
        go_roundw
        case rel => exact ⟨k + 1, Ap, cp, Bp, dp, Cp, ep, by omega, rfl, rfl, rfl, by go_num, P3, D3⟩
        case measure => simp [intOf]; omega
    · obtain rfl : k = n := by omega
      obtain ⟨wL, eL⟩ : ∃ x, x = wr := ⟨_, rfl⟩
      rw [← eL] at hO hD ⊢
      clear eL
      have SO := Lib.hid (OwnB.see hO.out.o1)
      have SA := Lib.hid (OwnB.see hO.out.o2)
      have SN := Lib.hid (OwnB.see hO.out.o3)
      have DL : Hid (Below w.heap.size w wL) := (HB.out.trans (X6.out.bl.mono HB.out.size)).trans (hD.out.mono (Nat.le_trans HB.out.size X6.out.bl.size))
      have X7 : Hid (PS wL wL [(A3, M), (A1, L)]) := ((PS.start (Below.refl _ wL)).add ((X6.out.below hD.out).see (.tail _ (.head _)))).add ((X6.out.below hD.out).see (.head _))
      have HL := Lib.hid (G3.sp HT1.out hk1.1)
      have HM := Lib.hid (G3.sp HT2.out hk2.1)
      clear hO hD X6 S1 S2
      go_wp2_with fail
      have K := Lib.hid (union_any _ A1 A3 d1 d3 _ _ L M (X7.out.see (.tail _ (.head _))) (X7.out.see (.head _)) (Nat.le_refl _) (Nat.le_refl _) (NF.fits HL.out.1) (NF.fits HM.out.1) (by have := HL.out.2.2.1; omega) (by have := HM.out.2.2.1; omega))
      go_wp2_with fail
      refine (K.out).mono ?_
      rintro e w8 hp
      obtain ⟨U, hs, -, hmg⟩ := hp.small (by have := HL.out.2.2.1; have := HM.out.2.2.1; omega)
      rw [show wantS _ _ = 0 by unfold wantS; rw [HL.out.2.1, if_pos rfl, HM.out.2.1]] at hs hmg
      obtain ⟨AU, rfl, q1, hb⟩ := hs
      have MU := Lib.hid (hmg rfl)
      have X8 := Lib.hid ((X7.out.below hb).add q1)
      have HU := Lib.hid (G3.merged HL.out HM.out (hmg rfl) rfl)
      clear hb q1 K X7 hmg
      have K := Lib.hid (common_any _ A1 A3 d1 d3 _ _ L M (X8.out.see (.tail _ (.tail _ (.head _)))) (X8.out.see (.tail _ (.head _))) (Nat.le_refl _) (Nat.le_refl _) (NF.fits HL.out.1) (NF.fits HM.out.1) (by have := HL.out.2.2.1; omega) (by have := HM.out.2.2.1; omega))
      go_wp2_with fail
      refine (K.out).mono ?_
      rintro e w9 hp
      obtain ⟨C, hs, -, hmg⟩ := hp.small (by have := HL.out.2.2.1; have := HM.out.2.2.1; omega)
      rw [show wantS _ _ = 0 by unfold wantS; rw [HL.out.2.1, if_pos rfl, HM.out.2.1]] at hs hmg
      obtain ⟨AC, rfl, q1, hb⟩ := hs
      have MC := Lib.hid (hmg rfl)
      have X9 := Lib.hid ((X8.out.below hb).add q1)
      have HC := Lib.hid (G3.merged HL.out HM.out (hmg rfl) rfl)
      clear hb q1 K X8 hmg
      have K := Lib.hid (without_any _ A1 A3 d1 d3 _ _ L M (X9.out.see (.tail _ (.tail _ (.tail _ (.head _))))) (X9.out.see (.tail _ (.tail _ (.head _)))) (Nat.le_refl _) (Nat.le_refl _) (NF.fits HL.out.1) (NF.fits HM.out.1) (by have := HL.out.2.2.1; omega) (by have := HM.out.2.2.1; omega))
      go_wp2_with fail
      refine (K.out).mono ?_
      rintro e w10 hp
      obtain ⟨W, hs, -, hmg⟩ := hp.small (by have := HL.out.2.2.1; have := HM.out.2.2.1; omega)
      rw [show wantS _ _ = 0 by unfold wantS; rw [HL.out.2.1, if_pos rfl, HM.out.2.1]] at hs hmg
      obtain ⟨AW, rfl, q1, hb⟩ := hs
      have MW := Lib.hid (hmg rfl)
      have X10 := Lib.hid ((X9.out.below hb).add q1)
      have HW := Lib.hid (G3.merged HL.out HM.out (hmg rfl) rfl)
      clear hb q1 K X9 hmg
      have K := Lib.hid (union_any _ A3 A1 d3 d1 _ _ M L (X10.out.see (.tail _ (.tail _ (.tail _ (.head _))))) (X10.out.see (.tail _ (.tail _ (.tail _ (.tail _ (.head _)))))) (Nat.le_refl _) (Nat.le_refl _) (NF.fits HM.out.1) (NF.fits HL.out.1) (by have := HM.out.2.2.1; omega) (by have := HL.out.2.2.1; omega))
      go_wp2_with fail
      refine (K.out).mono ?_
      rintro e w11 hp
      obtain ⟨V, hs, -, hmg⟩ := hp.small (by have := HM.out.2.2.1; have := HL.out.2.2.1; omega)
      rw [show wantS _ _ = 0 by unfold wantS; rw [HM.out.2.1, if_pos rfl, HL.out.2.1]] at hs hmg
      obtain ⟨AV, rfl, q1, hb⟩ := hs
      have MV := Lib.hid (hmg rfl)
      have X11 := Lib.hid ((X10.out.below hb).add q1)
      have HV := Lib.hid (G3.merged HM.out HL.out (hmg rfl) rfl)
      clear hb q1 K X10 hmg
      have K := Lib.hid (common_any _ A3 A1 d3 d1 _ _ M L (X11.out.see (.tail _ (.tail _ (.tail _ (.tail _ (.head _)))))) (X11.out.see (.tail _ (.tail _ (.tail _ (.tail _ (.tail _ (.head _))))))) (Nat.le_refl _) (Nat.le_refl _) (NF.fits HM.out.1) (NF.fits HL.out.1) (by have := HM.out.2.2.1; omega) (by have := HL.out.2.2.1; omega))
      go_wp2_with fail
      refine (K.out).mono ?_
      rintro e w12 hp
      obtain ⟨D, hs, -, hmg⟩ := hp.small (by have := HM.out.2.2.1; have := HL.out.2.2.1; omega)
      rw [show wantS _ _ = 0 by unfold wantS; rw [HM.out.2.1, if_pos rfl, HL.out.2.1]] at hs hmg
      obtain ⟨AD, rfl, q1, hb⟩ := hs
      have MD := Lib.hid (hmg rfl)
      have X12 := Lib.hid ((X11.out.below hb).add q1)
      have HD := Lib.hid (G3.merged HM.out HL.out (hmg rfl) rfl)
      clear hb q1 K X11 hmg
      have eV : U = V := merged_eq MU.out MV.out fun i => Bool.or_comm _ _
      have eD : C = D := merged_eq MC.out MD.out fun i => Bool.and_comm _ _
      clear MV MD
      subst eV
      subst eD
      have K := Lib.hid (refSpans_any w12 wL.heap.size Ao k co fO ((SO.out).below X12.out.bl) X12.out.bl.size (by omega))
      go_wp2_with fail
      refine (K.out).mono ?_
      rintro e w13 ⟨R, A', c', rfl, hT, q1, hb⟩
      obtain rfl := (sp_eq HT1.out HT2.out MU.out hT HN.out (HFO.out) rfl).symm
      have X13 := Lib.hid (X12.out.below hb)
      have K2 := Lib.hid (same_yes w13 AU A' c' _ _ U 0 (X13.out.see (.tail _ (.tail _ (.tail _ (.tail _ (.head _)))))) q1 (Nat.le_refl _) (Nat.le_refl _) (by have := HU.out.2.2.1; omega))
      clear K X12 hb q1 hT
      go_wp2_with fail
      refine (K2.out).mono ?_
      rintro e w13s ⟨rfl, hb⟩
      have X13s := Lib.hid (X13.out.below hb)
      clear hb K2 X13
      have K := Lib.hid (refSpans_any w13s wL.heap.size Aa k ca fA ((SA.out).below X13s.out.bl) X13s.out.bl.size (by omega))
      go_wp2_with fail
      refine (K.out).mono ?_
      rintro e w14 ⟨R, A', c', rfl, hT, q1, hb⟩
      obtain rfl := (sp_eq HT1.out HT2.out MC.out hT HN.out (HFA.out) rfl).symm
      have X14 := Lib.hid (X13s.out.below hb)
      have K2 := Lib.hid (same_yes w14 AC A' c' _ _ C 0 (X14.out.see (.tail _ (.tail _ (.tail _ (.head _))))) q1 (Nat.le_refl _) (Nat.le_refl _) (by have := HC.out.2.2.1; omega))
      clear K X13s hb q1 hT
      go_wp2_with fail
      refine (K2.out).mono ?_
      rintro e w14s ⟨rfl, hb⟩
      have X14s := Lib.hid (X14.out.below hb)
      clear hb K2 X14
      have K := Lib.hid (refSpans_any w14s wL.heap.size An k cn fN ((SN.out).below X14s.out.bl) X14s.out.bl.size (by omega))
      go_wp2_with fail
      refine (K.out).mono ?_
      rintro e w15 ⟨R, A', c', rfl, hT, q1, hb⟩
      obtain rfl := (sp_eq HT1.out HT2.out MW.out hT HN.out (HFN.out) rfl).symm
      have X15 := Lib.hid (X14s.out.below hb)
      have K2 := Lib.hid (same_yes w15 AW A' c' _ _ W 0 (X15.out.see (.tail _ (.tail _ (.head _)))) q1 (Nat.le_refl _) (Nat.le_refl _) (by have := HW.out.2.2.1; omega))
      clear K X14s hb q1 hT
      go_wp2_with fail
      refine (K2.out).mono ?_
      rintro e w15s ⟨rfl, hb⟩
      have X15s := Lib.hid (X15.out.below hb)
      clear hb K2 X15
      have K := Lib.hid (pairs_sees w15s _ _ U.length U (X15s.out.see (.tail _ (.tail _ (.tail _ (.tail _ (.head _)))))) (Nat.le_refl _) (by have := HU.out.2.2.1; omega))
      go_wp2_with fail
      refine (K.out).mono ?_
      rintro e w16 ⟨A', c', rfl, q1, hb⟩
      have X16 := Lib.hid (X15s.out.below hb)
      have K2 := Lib.hid (same_yes w16 AV A' c' _ _ U 0 (X16.out.see (.tail _ (.head _))) q1 (Nat.le_refl _) (Nat.le_refl _) (by have := HU.out.2.2.1; omega))
      clear K X15s hb q1
      go_wp2_with fail
      refine (K2.out).mono ?_
      rintro e w16s ⟨rfl, hb⟩
      have X16s := Lib.hid (X16.out.below hb)
      clear hb K2 X16
      have K := Lib.hid (pairs_sees w16s _ _ C.length C (X16s.out.see (.tail _ (.tail _ (.tail _ (.head _))))) (Nat.le_refl _) (by have := HC.out.2.2.1; omega))
      go_wp2_with fail
      refine (K.out).mono ?_
      rintro e w17 ⟨A', c', rfl, q1, hb⟩
      have X17 := Lib.hid (X16s.out.below hb)
      have K2 := Lib.hid (same_yes w17 AD A' c' _ _ C 0 (X17.out.see (.head _)) q1 (Nat.le_refl _) (Nat.le_refl _) (by have := HC.out.2.2.1; omega))
      clear K X16s hb q1
      go_wp2_with fail
      refine (K2.out).mono ?_
      rintro e w17s ⟨rfl, hb⟩
      have X17s := Lib.hid (X17.out.below hb)
      clear hb K2 X17
      go_wp2_with fail
      have K := Lib.hid (union_any _ AC AW C.length W.length _ _ C W (X17s.out.see (.tail _ (.tail _ (.tail _ (.head _))))) (X17s.out.see (.tail _ (.tail _ (.head _)))) (Nat.le_refl _) (Nat.le_refl _) (NF.fits HC.out.1) (NF.fits HW.out.1) (by have := HC.out.2.2.1; omega) (by have := HW.out.2.2.1; omega))
      go_wp2_with fail
      refine (K.out).mono ?_
      rintro e w18 hp
      obtain ⟨P, hs, -, hmg⟩ := hp.small (by have := HC.out.2.2.1; have := HW.out.2.2.1; omega)
      rw [show wantS _ _ = 0 by unfold wantS; rw [HC.out.2.1, if_pos rfl, HW.out.2.1]] at hs hmg
      obtain ⟨AP, rfl, q1, hb⟩ := hs
      have MP := Lib.hid (hmg rfl)
      have X18 := Lib.hid ((X17s.out.below hb).add q1)
      have HP := Lib.hid (G3.merged HC.out HW.out (hmg rfl) rfl)
      clear hb q1 K X17s hmg
      have K := Lib.hid (common_any _ AC AW C.length W.length _ _ C W (X18.out.see (.tail _ (.tail _ (.tail _ (.tail _ (.head _)))))) (X18.out.see (.tail _ (.tail _ (.tail _ (.head _))))) (Nat.le_refl _) (Nat.le_refl _) (NF.fits HC.out.1) (NF.fits HW.out.1) (by have := HC.out.2.2.1; omega) (by have := HW.out.2.2.1; omega))
      go_wp2_with fail
      refine (K.out).mono ?_
      rintro e w19 hp
      obtain ⟨Q, hs, -, hmg⟩ := hp.small (by have := HC.out.2.2.1; have := HW.out.2.2.1; omega)
      rw [show wantS _ _ = 0 by unfold wantS; rw [HC.out.2.1, if_pos rfl, HW.out.2.1]] at hs hmg
      obtain ⟨AQ, rfl, q1, hb⟩ := hs
      have MQ := Lib.hid (hmg rfl)
      have X19 := Lib.hid ((X18.out.below hb).add q1)
      have HQ := Lib.hid (G3.merged HC.out HW.out (hmg rfl) rfl)
      clear hb q1 K X18 hmg
      have eP : L = P := (merged_is MP.out HL.out.1 fun i => by rw [merged_any MC.out, merged_any MW.out]; cases anyS L i <;> cases anyS M i <;> rfl).symm
      have eQ : [] = Q := (merged_is MQ.out (V := []) trivial fun i => by rw [merged_any MC.out, merged_any MW.out, anyS_nil]; cases anyS L i <;> cases anyS M i <;> rfl).symm
      have hcn := cnt_both HL.out.1 HM.out.1 MU.out MC.out
      clear MP MQ
      subst eP
      subst eQ
      have HCN := Lib.hid hcn
      obtain ⟨tl0, tl1⟩ := cntS_rng HL.out.1
      obtain ⟨tm0, tm1⟩ := cntS_rng HM.out.1
      obtain ⟨tc0, tc1⟩ := cntS_rng HC.out.1
      clear hcn
      have K := Lib.hid (pairs_sees w19 _ _ d1 L (X19.out.see (.tail _ (.tail _ (.tail _ (.tail _ (.tail _ (.tail _ (.tail _ (.tail _ (.head _)))))))))) (Nat.le_refl _) (by have := HL.out.2.2.1; omega))
      go_wp2_with fail
      refine (K.out).mono ?_
      rintro e w20 ⟨A', c', rfl, q1, hb⟩
      have X20 := Lib.hid (X19.out.below hb)
      have K2 := Lib.hid (same_yes w20 AP A' c' _ _ L 0 (X20.out.see (.tail _ (.head _))) q1 (Nat.le_refl _) (Nat.le_refl _) (by have := HL.out.2.2.1; omega))
      clear K X19 hb q1
      go_wp2_with fail
      refine (K2.out).mono ?_
      rintro e w20s ⟨rfl, hb⟩
      have X20s := Lib.hid (X20.out.below hb)
      clear hb K2 X20
      have K := Lib.hid (same_yes w20s AQ none 0 _ 0 [] 0 (X20s.out.see (.head _)) (seesP_nil _ _) (Nat.le_refl _) (Nat.zero_le _) (by decide))
      go_wp2_with fail
      refine (K.out).mono ?_
      rintro e w21 ⟨rfl, hb⟩
      have X21 := Lib.hid (X20s.out.below hb)
      clear hb K X20s
      have K := Lib.hid (count_any w21 _ _ U.length U (X21.out.see (.tail _ (.tail _ (.tail _ (.tail _ (.tail _ (.tail _ (.head _)))))))) (Nat.le_refl _) (NF.fits HU.out.1) (by have := HU.out.2.2.1; omega))
      unfold countS at K
      rw [if_pos HU.out.2.1, HCN.out] at K
      go_wp2_with fail
      refine (K.out).mono ?_
      rintro e w22 ⟨rfl, hb⟩
      have X22 := Lib.hid (X21.out.below hb)
      clear hb K X21
      have K := Lib.hid (count_any w22 _ _ d1 L (X22.out.see (.tail _ (.tail _ (.tail _ (.tail _ (.tail _ (.tail _ (.tail _ (.tail _ (.head _)))))))))) (Nat.le_refl _) (NF.fits HL.out.1) (by have := HL.out.2.2.1; omega))
      unfold countS at K
      rw [if_pos HL.out.2.1] at K
      go_wp2_with fail
      refine (K.out).mono ?_
      rintro e w23 ⟨rfl, hb⟩
      have X23 := Lib.hid (X22.out.below hb)
      clear hb K X22
      have K := Lib.hid (count_any w23 _ _ d3 M (X23.out.see (.tail _ (.tail _ (.tail _ (.tail _ (.tail _ (.tail _ (.tail _ (.head _))))))))) (Nat.le_refl _) (NF.fits HM.out.1) (by have := HM.out.2.2.1; omega))
      unfold countS at K
      rw [if_pos HM.out.2.1] at K
      go_wp2_with fail
      refine (K.out).mono ?_
      rintro e w24 ⟨rfl, hb⟩
      have X24 := Lib.hid (X23.out.below hb)
      clear hb K X23
      have K := Lib.hid (count_any w24 _ _ C.length C (X24.out.see (.tail _ (.tail _ (.tail _ (.tail _ (.tail _ (.head _))))))) (Nat.le_refl _) (NF.fits HC.out.1) (by have := HC.out.2.2.1; omega))
      unfold countS at K
      rw [if_pos HC.out.2.1] at K
      go_wp2_with fail
      refine (K.out).mono ?_
      rintro e w25 ⟨rfl, hb⟩
      have X25 := Lib.hid (X24.out.below hb)
      clear hb K X24
      go_wp2_with fail
      refine (lives_yes w25).mono ?_
      rintro e w26 ⟨rfl, hb⟩
      have X26 := Lib.hid (X25.out.below hb)
      clear hb X25
      go_wp2_with fail
      go_ret
      exact ⟨rfl, DL.out.trans (X26.out.bl.mono DL.out.size)⟩
end Go.Proofs.Ytglgkbocmnkokaa

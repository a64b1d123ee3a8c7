/-
  The walk of the law OffsetsKnown of layer 10.
-/
import Derived.Test.YtgfhnakjdcpfmaaOffLaws5
import Derived.Test.YtgfhnakjdcpfmaaOffLaws
import Derived.Test.YtgfhnakjdcpfmaaMix
namespace Go.Proofs.Ytgfhnakjdcpfmaa
open Go.RowKit
set_option linter.unusedVariables false
set_option linter.unusedSimpArgs false

def L12 : List Int := [-9223372036854775808, -9223372036854775807, -4611686018427387904, -4294967296, -1, 0, 1, 4294967295, 4294967296, 4611686018427387904, 9223372036854775806, 9223372036854775807]
def l12 : Nat → Int := fun j => L12.getD j 0
theorem fits_getD (L : List Int) (h : ∀ x ∈ L, Fits x) (j : Nat) : Fits (L.getD j 0) := by
  rw [List.getD_eq_getElem?_getD]
  cases hj : L[j]? with
  | none => exact ⟨by decide, by decide⟩
  | some x => exact h x (List.mem_of_getElem? hj)
theorem l12_fits (j : Nat) : Fits (l12 j) := fits_getD L12 (by unfold Fits; decide) j
theorem lit_seen (xs : List Int) (n : Nat) (vs : Array Value) (hv : vs = (xs.map fun b => Value.int .i64 b).toArray) (hn : xs.length = n) : ∀ j, j < n → vs[j]? = some (i64s (fun j => xs.getD j 0) j) := by
  subst hv hn
  intro j hj
  simp [i64s, hj]
theorem clamp_known (x y : Int) (fx : Fits x) (fy : Fits y) (w : World) :
    Calls Try.prog 4 #[.int .i64 x, .int .i64 y, .agg #[.int .i64 4611686018427387904, .int .i64 2147483648]] w fun e w' => e = .returned (.bool true) ∧ Below w.heap.size w w' :=
  law_clamp x y _ fx fy rfl (fun i hi => by
    match i, hi with
    | 0, _ => exact ⟨_, rfl, by decide⟩
    | 1, _ => exact ⟨_, rfl, by decide⟩) w

def LA : List Int := [9007199254740990, 1]
def la : Nat → Int := fun j => LA.getD j 0
theorem la_fits (j : Nat) : Fits (la j) := fits_getD LA (by unfold Fits; decide) j
def LB : List Int := [9007199254740991, 1]
def lb : Nat → Int := fun j => LB.getD j 0
theorem lb_fits (j : Nat) : Fits (lb j) := fits_getD LB (by unfold Fits; decide) j

def z0 : Nat → Int := fun _ => 0
theorem z0_bd (j : Nat) : 0 ≤ z0 j ∧ z0 j < 9007199254740992 := by show (0 : Int) ≤ 0 ∧ (0 : Int) < 9007199254740992; decide
theorem z0_far : farTo z0 5 4096 = false := farTo_of fun j _ => by show outB (satPlus 0 5) = false; decide
theorem Fbig : F 9007199254740990 = 4845873199050653694 := by decide +kernel
theorem Fone : F 1 = 4607182418800017408 := by decide +kernel

set_option maxRecDepth 100000 in
set_option maxHeartbeats 12800000 in
theorem law_known (w : World) :
    Calls Try.prog 9 #[] w fun e w' => e = .returned (.bool true) ∧ Below w.heap.size w w' := by
  go_enter Try.func9, Try.ntmps9
  go_wp2_with fail
  obtain ⟨w0, e0⟩ : ∃ w0, w0 = w.alloc (.cells #[.int .i64 (-9223372036854775808), .int .i64 (-9223372036854775807), .int .i64 (-4611686018427387904), .int .i64 (-4294967296), .int .i64 (-1), .int .i64 0, .int .i64 1, .int .i64 4294967295, .int .i64 4294967296, .int .i64 4611686018427387904, .int .i64 9223372036854775806, .int .i64 9223372036854775807] 2) := ⟨_, rfl⟩
  have V0 : Hid (∀ j, j < 12 → w0.cell? ⟨w.heap.size, j, none⟩ = some (.int .i64 (l12 j))) := by rw [e0]; exact fun j hj => World.rowIs.cell (World.rowIs_alloc w #[.int .i64 (-9223372036854775808), .int .i64 (-9223372036854775807), .int .i64 (-4611686018427387904), .int .i64 (-4294967296), .int .i64 (-1), .int .i64 0, .int .i64 1, .int .i64 4294967295, .int .i64 4294967296, .int .i64 4611686018427387904, .int .i64 9223372036854775806, .int .i64 9223372036854775807] 2 (i64s l12) (lit_seen L12 12 _ rfl rfl)) hj
  have D0 : Hid (Below w.heap.size w w0) := by rw [e0]; exact (Below.refl _ _).alloc (Nat.le_refl _) _
  have Z0 : w.heap.size < w0.heap.size := by rw [e0]; simp
  rw [← e0]
  clear e0
  go_loopw [2] (fun i wr => ∃ k : Nat, k ≤ 12 ∧ i = .int .i64 k ∧ Hid (Below w0.heap.size w0 wr)) (fun i _ => 12 - (intOf i).toNat)
  case atStart => exact ⟨0, Nat.zero_le _, rfl, Below.refl _ _⟩
  case round =>
    obtain ⟨i, hi, rfl, hB⟩ := hrel
    by_cases hlt : i < 12
    · have hki : (i : Int) < 12 := by omega
      go_wp2_with fail
      obtain ⟨wo, rfl⟩ : ∃ wo : World, wo = wr := ⟨_, rfl⟩
      go_loopw [3] (fun i wr => ∃ k : Nat, k ≤ 12 ∧ i = .int .i64 k ∧ Hid (Below w0.heap.size w0 wr)) (fun i _ => 12 - (intOf i).toNat)
      case atStart => exact ⟨0, Nat.zero_le _, rfl, hB⟩
      case round =>
        obtain ⟨k, hk, rfl, hB2⟩ := hrel
        clear hB
        by_cases hlt2 : k < 12
        · have hkj : (k : Int) < 12 := by omega
          have d1 := (hB2.out.cell (p := ⟨w.heap.size, i, none⟩) Z0).trans (V0.out i hlt)
          have d2 := (hB2.out.cell (p := ⟨w.heap.size, k, none⟩) Z0).trans (V0.out k hlt2)
          have fx := Lib.hid (l12_fits i)
          have fy := Lib.hid (l12_fits k)
          obtain ⟨x, hx⟩ : ∃ x, x = l12 i := ⟨_, rfl⟩
          obtain ⟨y, hy⟩ : ∃ x, x = l12 k := ⟨_, rfl⟩
          rw [← hx] at d1 fx
          rw [← hy] at d2 fy
          clear hx hy
          go_wp2_with fail
          refine wp_region_mix [([], [0, 1, 2, 3, 4, 5, 6, 7], 8), ([], [9, 10, 11, 12, 13, 14, 15, 16, 17, 18, 19], 20), ([], [21, 22, 23, 24, 25, 26, 27, 28, 29, 30, 31, 32], 33)] [34, 35] (by kernel_rfl) (by kernel_rfl) ?_
          refine Mix.mark _ _ (by simp only [pick, List.cons_append, List.nil_append, List.getElem?_toArray, List.getElem?_cons_succ, List.getElem?_cons_zero]; rfl) (by simp only [pick, List.getElem?_toArray, List.getElem?_cons_succ, List.getElem?_cons_zero]; rfl) ?_
          repeat still_step
          refine wpStill_nil ?_
          go_wp2_with fail
          refine (law_plus x y fx.out fy.out _).mono ?_
          rintro e w2 ⟨rfl, hb⟩
          have B3 := Lib.hid (hB2.out.trans ((below_drewN (Below.refl w0.heap.size wr) 1).trans (hb.mono hB2.out.size)))
          have d1 := (hb.cell (p := ⟨w.heap.size, i, none⟩) (by have := hB2.out.size; show w.heap.size < wr.heap.size; omega)).trans d1
          have d2 := (hb.cell (p := ⟨w.heap.size, k, none⟩) (by have := hB2.out.size; show w.heap.size < wr.heap.size; omega)).trans d2
          clear hb hB2
          go_wp2_with fail
          refine Mix.mark _ _ (by simp only [pick, List.cons_append, List.nil_append, List.getElem?_toArray, List.getElem?_cons_succ, List.getElem?_cons_zero]; rfl) (by simp only [pick, List.getElem?_toArray, List.getElem?_cons_succ, List.getElem?_cons_zero]; rfl) ?_
          repeat still_step
          refine wpStill_nil ?_
          go_wp2_with fail
          refine (clamp_known x y fx.out fy.out _).mono ?_
          rintro e w3 ⟨rfl, hb⟩
          have B4 := Lib.hid (B3.out.trans (hb.mono B3.out.size))
          have d1 := (hb.cell (p := ⟨w.heap.size, i, none⟩) (by have := B3.out.size; show w.heap.size < w2.heap.size; omega)).trans d1
          have d2 := (hb.cell (p := ⟨w.heap.size, k, none⟩) (by have := B3.out.size; show w.heap.size < w2.heap.size; omega)).trans d2
          clear hb B3
          go_wp2_with fail
          refine Mix.mark _ _ (by simp only [pick, List.cons_append, List.nil_append, List.getElem?_toArray, List.getElem?_cons_succ, List.getElem?_cons_zero]; rfl) (by simp only [pick, List.getElem?_toArray, List.getElem?_cons_succ, List.getElem?_cons_zero]; rfl) ?_
          repeat still_step
          refine wpStill_nil ?_
          go_wp2_with fail
          refine (law_ceil x y (i : Int) fx.out fy.out (by constructor <;> omega) _).mono ?_
          rintro e w4 ⟨rfl, hb⟩
          have B5 := Lib.hid (B4.out.trans (hb.mono B4.out.size))
          clear hb B4 d1 d2
          go_wp2_with fail
          refine Mix.last _ (by simp only [pick, List.getElem?_toArray, List.getElem?_cons_succ, List.getElem?_cons_zero]; rfl) ?_
          repeat still_step
          refine wpStill_nil ?_
          go_wp2_with fail
          go_roundw
          case rel => exact ⟨k + 1, by omega, by go_num, B5⟩
          case measure => simp [intOf]; omega
        · obtain rfl : k = 12 := by omega
          go_wp2_with fail
          go_roundw
          case rel => exact ⟨i + 1, by omega, by go_num, hB2⟩
          case measure => simp [intOf]; omega
    · obtain rfl : i = 12 := by omega
      have D1 := Lib.hid (D0.out.trans (hB.out.mono (by omega)))
      clear hB V0 D0
      go_wp2_with fail
      refine (bound_eq 2147483648 1 16 2147483682 _ (by decide) (by omega) (by omega) (by omega) (by omega) (by omega) (by omega)).mono ?_
      rintro e w' ⟨rfl, rfl⟩
      go_wp2_with fail
      refine (rows_any _ 2 2 la _ (Sees.lit wr _ _ _ 2 rfl (lit_seen LA 2 _ rfl rfl)) la_fits (by omega)).mono ?_
      rintro e w2 (⟨h0, A1, rfl, hs1, hb⟩ | ⟨h0, _⟩)
      case inr => exact absurd (by decide) h0
      have D2 : Hid (Below w.heap.size w w2) := (D1.out.alloc D1.out.size _).trans (hb.mono (by have := D1.out.size; simp; omega))
      obtain ⟨b1, o1, hA1, hb1, hc1⟩ := hs1 (by omega)
      subst hA1
      have S2 : Hid (Sees w2 w2.heap.size (some ⟨b1, o1, none⟩) 2 (cxs la)) := hs1
      clear h0 hs1 hb D1 hb1 hc1
      go_wp2_with fail
      refine (rows_any _ 2 2 lb _ (Sees.lit w2 _ _ _ 2 rfl (lit_seen LB 2 _ rfl rfl)) lb_fits (by omega)).mono ?_
      rintro e w3 (⟨h0, _⟩ | ⟨h0, rfl, hb⟩)
      case inl => exact absurd h0 (by decide)
      rw [show rowsErr lb 2 = 13 from by decide]
      have D3 : Hid (Below w.heap.size w w3) := (D2.out.alloc D2.out.size _).trans (hb.mono (by have := D2.out.size; simp; omega))
      have S3 : Hid (Sees w3 w3.heap.size (some ⟨b1, o1, none⟩) 2 (cxs la)) := by
        have h1 : Below w2.heap.size w2 (w2.alloc (.cells #[.int .i64 9007199254740991, .int .i64 1] 2)) := (Below.refl _ w2).alloc (Nat.le_refl _) _
        have h2 := h1.trans (hb.mono (by simp))
        exact (S2.out.below h2).more h2.size
      clear h0 hb S2 D2
      go_wp2_with fail
      have S31 : Sees w3 w3.heap.size (some ⟨b1, o1, none⟩) 1 (cxs la) := fun _ => by
        obtain ⟨b', o', h1, h2, h3⟩ := S3.out (by omega)
        exact ⟨b', o', h1, h2, fun j hj => h3 j (by omega)⟩
      refine (slide_any _ 1 1 (psum la) la 1 w3 S31 (fun j hj => by have h0 : j = 0 := Nat.lt_one_iff.1 hj; subst h0; decide) (fun j hj => by have h0 : j = 0 := Nat.lt_one_iff.1 hj; subst h0; decide) ⟨by decide, by decide⟩ (by omega)).mono ?_
      rintro e w4 (⟨hfar, A4, rfl, hs4, hb⟩ | ⟨hfar, _⟩)
      case inr => exact absurd hfar (by decide)
      have V4 := Lib.hid hs4
      have S4 := Lib.hid ((S3.out.below hb).more hb.size)
      have D4 := Lib.hid (D3.out.trans (hb.mono D3.out.size))
      clear hfar hs4 hb S31 S3 D3
      go_wp2_with fail
      refine (slide_any _ 2 2 (psum la) la 4503599627370496 w4 S4.out (fun j hj => by rcases (show j = 0 ∨ j = 1 by omega) with rfl | rfl <;> decide) (fun j hj => by rcases (show j = 0 ∨ j = 1 by omega) with rfl | rfl <;> decide) ⟨by decide, by decide⟩ (by omega)).mono ?_
      rintro e w5 (⟨hfar, _⟩ | ⟨hfar, rfl, hb⟩)
      case inl => exact absurd hfar (by decide)
      have V5 := Lib.hid ((V4.out.below hb).more hb.size)
      have S5 := Lib.hid ((S4.out.below hb).more hb.size)
      have D5 := Lib.hid (D4.out.trans (hb.mono D4.out.size))
      clear hfar hb V4 S4 D4
      have hm1 := make_i64 4097 4097 (by omega) (by omega)
      have hm2 := make_c128 4097 4097 (by omega) (by omega)
      have hm3 := make_c128 4096 4096 (by omega) (by omega)
      go_wp2_with fail
      refine (tops_any _ 4097 4097 (fun _ => 0) _ (Sees.row (World.rowIs_made w5 (.int .i64 0) 4097 2) (Nat.le_refl _)) (fun _ => ⟨by decide, by decide⟩) (by omega)).mono ?_
      rintro e w6 (⟨h0, _⟩ | ⟨h0, rfl, hb⟩)
      case inl => exact absurd h0 (by unfold chk; rw [if_pos (by omega)]; decide)
      rw [show chk (fun _ => 0) 4097 = 3 from if_pos (by omega)]
      have B6 := Lib.hid (((Below.refl w5.heap.size w5).alloc (Nat.le_refl _) (.cells (madeCells #[.int .i64 0] 4097) 2)).trans (hb.mono (by rw [World.size_alloc]; omega)))
      have V6 := Lib.hid ((V5.out.below B6.out).more B6.out.size)
      have S6 := Lib.hid ((S5.out.below B6.out).more B6.out.size)
      have D6 := Lib.hid (D5.out.trans (B6.out.mono D5.out.size))
      clear h0 hb B6 V5 S5 D5 hm1
      go_wp2_with fail
      refine (slide_limit _ 4097 4097 0 _ (by omega)).mono ?_
      rintro e w' ⟨rfl, rfl⟩
      go_wp2_with fail
      have B7 := Lib.hid ((Below.refl w6.heap.size w6).alloc (Nat.le_refl _) (.cells (madeCells #[.complex .f64 0 0] 4097) 46))
      obtain ⟨w7, e7⟩ : ∃ w7, w7 = w6.alloc (.cells (madeCells #[.complex .f64 0 0] 4097) 46) := ⟨_, rfl⟩
      rw [← e7] at B7 ⊢
      have Z7 : Hid (w7.heap.size = w6.heap.size + 1) := by show _ = _; rw [e7, World.size_alloc]
      have V7 := Lib.hid ((V6.out.below B7.out).more B7.out.size)
      have S7 := Lib.hid ((S6.out.below B7.out).more B7.out.size)
      have D7 := Lib.hid (D6.out.trans (B7.out.mono D6.out.size))
      clear e7 B7 V6 S6 D6 hm2
      have hz : Sees (w7.alloc (.cells (madeCells #[.complex .f64 0 0] 4096) 46)) (w7.alloc (.cells (madeCells #[.complex .f64 0 0] 4096) 46)).heap.size (some ⟨w7.heap.size, 0, none⟩) 4096 (fun j => .complex .f64 (F (z0 j)) (F (z0 j))) :=
        (Sees.row (World.rowIs_made w7 (.complex .f64 0 0) 4096 46) (Nat.le_refl _)).congr fun j _ => (by show Value.complex .f64 0 0 = .complex .f64 (F 0) (F 0); rw [F_zero])
      have HSl := Lib.hid (slide_any _ 4096 4096 z0 z0 5 _ hz (fun _ _ => z0_bd _) (fun _ _ => z0_bd _) ⟨by decide, by decide⟩ (by omega))
      clear hz
      rw [Z7.out] at HSl
      refine (HSl.out).mono ?_
      rintro e w8 (⟨hfar, A8, rfl, hs8, hb⟩ | ⟨hfar, _⟩)
      case inr => rw [z0_far] at hfar; cases hfar
      have B8 := Lib.hid (((Below.refl w7.heap.size w7).alloc (Nat.le_refl _) (.cells (madeCells #[.complex .f64 0 0] 4096) 46)).trans (hb.mono (by rw [World.size_alloc]; omega)))
      have V8 := Lib.hid ((V7.out.below B8.out).more B8.out.size)
      have S8 := Lib.hid ((S7.out.below B8.out).more B8.out.size)
      have D8 := Lib.hid (D7.out.trans (B8.out.mono D7.out.size))
      clear hfar hs8 hb B8 V7 S7 D7 hm3 HSl
      go_wp2_with fail
      have L2 : Sees (w8.alloc (.cells #[.complex .f64 0 4845873199050653694, .complex .f64 4845873199050653694 4607182418800017408] 46)) (w8.alloc (.cells #[.complex .f64 0 4845873199050653694, .complex .f64 4845873199050653694 4607182418800017408] 46)).heap.size (some ⟨w8.heap.size, 0, none⟩) 2 (cxs la) := Sees.lit w8 _ _ _ 2 rfl (fun j hj => by
        rcases (show j = 0 ∨ j = 1 by omega) with rfl | rfl
        · show _ = some (Value.complex .f64 (F 0) (F 9007199254740990)); rw [F_zero, Fbig]; rfl
        · show _ = some (Value.complex .f64 (F (0 + 9007199254740990)) (F 1)); rw [Int.zero_add, Fbig, Fone]; rfl)
      have B9 := Lib.hid ((Below.refl w8.heap.size w8).alloc (Nat.le_refl _) (.cells #[.complex .f64 0 4845873199050653694, .complex .f64 4845873199050653694 4607182418800017408] 46))
      refine (rowsSame _ _ 2 2 0 (psum la) la _ ((S8.out.below B9.out).more B9.out.size) L2 (fun j hj => by rcases (show j = 0 ∨ j = 1 by omega) with rfl | rfl <;> decide) (fun j hj => by rcases (show j = 0 ∨ j = 1 by omega) with rfl | rfl <;> decide) (by omega)).mono ?_
      rintro e w9 ⟨rfl, hd⟩
      have V9 := Lib.hid (((V8.out.below B9.out).more B9.out.size).drawn hd)
      have D9 := Lib.hid ((D8.out.trans (B9.out.mono D8.out.size)).trans (hd.below _))
      have Z9 := hd.size
      rw [← Z9] at V9
      clear hd Z9 B9 V8 S8 D8 L2
      go_wp2_with fail
      have B10 := Lib.hid ((Below.refl w9.heap.size w9).alloc (Nat.le_refl _) (.cells #[.complex .f64 4607182418800017408 4845873199050653694] 46))
      have L1 : Sees (w9.alloc (.cells #[.complex .f64 4607182418800017408 4845873199050653694] 46)) (w9.alloc (.cells #[.complex .f64 4607182418800017408 4845873199050653694] 46)).heap.size (some ⟨w9.heap.size, 0, none⟩) 1 (fun j => .complex .f64 (F (satPlus (psum la j) 1)) (F (la j))) := Sees.lit w9 _ _ _ 1 rfl (fun j hj => by
        have h0 : j = 0 := Nat.lt_one_iff.1 hj
        subst h0
        show _ = some (Value.complex .f64 (F (satPlus 0 1)) (F 9007199254740990)); rw [show satPlus 0 1 = 1 from by decide, Fone, Fbig]; rfl)
      have HR := Lib.hid (rowsSame _ _ 1 1 0 (fun j => satPlus (psum la j) 1) la _ ((V9.out.below B10.out).more B10.out.size) L1 (fun j hj => by have h0 : j = 0 := Nat.lt_one_iff.1 hj; subst h0; decide) (fun j hj => by have h0 : j = 0 := Nat.lt_one_iff.1 hj; subst h0; decide) (by omega))
      clear L1
      refine (HR.out).mono ?_
      rintro e w10 ⟨rfl, hd⟩
      have D10 := Lib.hid ((D9.out.trans (B10.out.mono D9.out.size)).trans (hd.below _))
      clear hd B10 V9 D9 HR
      go_wp2_with fail
      refine (lives_yes _).mono ?_
      rintro e w11 ⟨rfl, hb⟩
      have D11 := Lib.hid (D10.out.trans (hb.mono D10.out.size))
      clear hb
      go_wp2_with fail
      go_ret
      exact ⟨rfl, D11.out⟩
end Go.Proofs.Ytgfhnakjdcpfmaa

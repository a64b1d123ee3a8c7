/-
  The reference of layer 5: Move.
-/
import Derived.Test.YtafgdknfhchnpaaRopRef2
import Derived.Test.YtafgdknfhchnpaaSliceL
namespace Go.Proofs.Ytafgdknfhchnpaa
open Go.RowKit
set_option linter.unusedVariables false
set_option linter.unusedSimpArgs false

theorem SeesL.sub {w : World} {B c : Nat} {A : Option Addr} {L : List Int} (h : SeesL w B A L) (hnc : L.length ≤ c) (lo hi : Nat) (h1 : lo ≤ hi) (h2 : hi ≤ L.length) : SeesL w B (subA A c lo 1) ((L.drop lo).take (hi - lo)) := by
  have h' := sees_sub (sz := 1) (n := L.length) (c := c) (lo := lo) (hi := hi) (by rw [Nat.mul_one]; exact h) hnc h1 h2
  unfold SeesL
  rw [List.length_take, List.length_drop, Nat.min_eq_left (by omega)]
  rw [Nat.mul_one] at h'
  exact sees_congr h' fun j hj => by rw [Nat.mul_one, i64s_at, i64s_at, lf_take hj, lf_drop]
theorem info64 : (Try.prog.info? 2).map (·.size) = some 1 := by kernel_rfl
theorem sl_lh (A : Option Addr) (n c lo hi : Nat) (h1 : lo ≤ hi) (h2 : hi ≤ c) : ∀ wx, (Instr.sliceAt 22 (.slice A n c) (some (.int .i64 lo)) (some (.int .i64 hi)) none).run Try.prog wx = .ok (.slice (subA A c lo 1) (hi - lo) (c - lo)) wx :=
  slice_lh Try.underlying22 info64 A n c lo hi h1 h2
theorem sl_h (A : Option Addr) (n c hi : Nat) (h2 : hi ≤ c) : ∀ wx, (Instr.sliceAt 22 (.slice A n c) none (some (.int .i64 hi)) none).run Try.prog wx = .ok (.slice A hi c) wx :=
  slice_h Try.underlying22 info64 A n c hi h2
theorem sl_l (A : Option Addr) (n c lo : Nat) (h2 : lo ≤ n) : ∀ wx, (Instr.sliceAt 22 (.slice A n c) (some (.int .i64 lo)) none none).run Try.prog wx = .ok (.slice (subA A c lo 1) (n - lo) (c - lo)) wx :=
  slice_l Try.underlying22 info64 A n c lo h2

set_option maxRecDepth 100000 in
set_option maxHeartbeats 3200000 in
theorem refMove_any (w : World) (A : Option Addr) (c B : Nat) (L : List Int) (h : SeesL w B A L) (hB : B ≤ w.heap.size) (hnc : L.length ≤ c) (hc : c ≤ maxLen) (sf : SF A c) (ok : LOk L) (i n t : Int) (fi : Fits i) (fn : Fits n) (ft : Fits t) :
    Calls Try.prog 23 #[.slice A L.length c, .int .i64 i, .int .i64 n, .int .i64 t] w (LPost w (movTo L i n t) (movErr L i n t)) := by
  have KR := Lib.hid (refRemove_any w A c B L h hB hnc hc sf ok i n fi fn)
  obtain ⟨ft1, ft2⟩ := ft
  have hl := ok.len
  have E : Hid (∀ (W : World), Below w.heap.size w W → ∀ x : Int, LPost w [] x (.returned (.tuple #[.slice none 0 0, .int .i64 x])) W) := fun W hb x => ⟨none, 0, rfl, seesL_nil _ _, hb, Nat.le_refl _, Nat.zero_le _, .inl ⟨rfl, rfl⟩⟩
  rcases cutErr_cases L i n with ⟨hE, hcc⟩ | ⟨hE, k, m, rfl, rfl, hkm⟩
  · have hE4 : movErr L i n t = 4 := by unfold movErr; rw [if_pos (by omega)]
    unfold movTo
    rw [hE4, if_neg (by decide)]
    rw [hE] at KR
    obtain ⟨N, eN⟩ : ∃ N, N = L.length := ⟨_, rfl⟩
    rw [← eN] at KR ⊢
    clear hE4 hcc hnc h ok eN hl
    go_enter Try.func23, Try.ntmps23
    go_wp2_with fail
    refine (KR.out).mono ?_
    rintro e w1 ⟨Aj, cj, rfl, _, hb, _⟩
    have HB := Lib.hid hb
    clear hb
    go_wp2_with fail
    go_ret2
    exact E.out w1 HB.out 4
  · have eR : remTo L k m = remL L k m := by unfold remTo; rw [hE, if_pos rfl, Int.toNat_natCast, Int.toNat_natCast]
    rw [eR, hE] at KR
    have hRl := remL_len L k m hkm
    by_cases ht : t < 0 ∨ (L.length : Int) - m < t
    · have hE4 : movErr L k m t = 4 := by unfold movErr; rw [if_pos (by omega)]
      unfold movTo
      rw [hE4, if_neg (by decide)]
      obtain ⟨N, eN⟩ : ∃ N, N = L.length := ⟨_, rfl⟩
      obtain ⟨nr, enr⟩ : ∃ N, N = (remL L k m).length := ⟨_, rfl⟩
      unfold LPost at KR
      rw [← eN] at KR ⊢
      rw [← enr] at KR
      have hr : (nr : Int) = (N : Int) - m := by omega
      rw [← eN] at ht
      clear hE4 hnc h ok eN hl hRl eR hE enr hkm
      by_cases t0 : t < 0
      · clear ht
        go_enter Try.func23, Try.ntmps23
        go_wp2_with fail
        refine (KR.out).mono ?_
        rintro e w1 ⟨Aj, cj, rfl, _, hb, _⟩
        have HB := Lib.hid hb
        clear hb
        go_wp2_with fail
        go_ret2
        exact E.out w1 HB.out 4
      · have t1 : (nr : Int) < t := by omega
        clear ht hr
        go_enter Try.func23, Try.ntmps23
        go_wp2_with fail
        refine (KR.out).mono ?_
        rintro e w1 ⟨Aj, cj, rfl, _, hb, _⟩
        have HB := Lib.hid hb
        clear hb
        go_wp2_with fail
        go_ret2
        exact E.out w1 HB.out 4
    · obtain ⟨q, rfl⟩ : ∃ q : Nat, t = (q : Int) := ⟨t.toNat, by omega⟩
      have hE0 : movErr L k m q = 0 := by unfold movErr; rw [if_neg (by omega)]
      unfold movTo
      rw [hE0, if_pos rfl, Int.toNat_natCast, Int.toNat_natCast, Int.toNat_natCast]
      have hq : q ≤ (remL L k m).length := by omega
      have OR := remL_ok ok k m
      have RR : Hid (∀ (w1 : World) (Ar : Option Addr) (cr : Nat), Below w.heap.size w w1 → SeesL w1 w1.heap.size Ar (remL L k m) → (remL L k m).length ≤ cr → ∃ Ac cc w2, (∀ ty, (Builtin.append_ #[22, 22] ty #[.slice (some ⟨w1.drew.heap.size, 0, none⟩) 0 0, .slice Ar q cr]).run Try.prog (w1.drew.alloc (.cells #[] 2)) = .ok (.slice Ac q cc) w2) ∧ Below w1.heap.size w1 w2 ∧
          ∃ Ad cd w3, (∀ ty, (Builtin.append_ #[22, 22] ty #[.slice Ac q cc, .slice (subA A c k 1) m (c - k)]).run Try.prog w2 = .ok (.slice Ad (q + m) cd) w3) ∧ Below w1.heap.size w1 w3 ∧
          ∃ Af cf w4, (∀ ty, (Builtin.append_ #[22, 22] ty #[.slice Ad (q + m) cd, .slice (subA Ar cr q 1) ((remL L k m).length - q) (cr - q)]).run Try.prog w3 = .ok (.slice Af (q + m + ((remL L k m).length - q)) cf) w4) ∧ LPost w (movL L k m q) 0 (.returned (.tuple #[.slice Af (q + m + ((remL L k m).length - q)) cf, .int .i64 0])) w4) := by
        intro w1 Ar cr hb1 hr hcr
        have l1 : ((remL L k m).take q).length = q := by rw [List.length_take]; omega
        have l2 : ((L.drop k).take m).length = m := by rw [List.length_take, List.length_drop]; omega
        have l3 : ((remL L k m).drop q).length = (remL L k m).length - q := List.length_drop
        have S0 : Below w1.heap.size w1 w1.drew := (Below.refl _ w1).drew
        obtain ⟨Ac, cc, w2, run, O, hb, hcm⟩ := clone_L w1.drew (A := Ar) (c := cr) (L := (remL L k m).take q) ((hr.take q hq).below S0) (Nat.le_refl _) (by omega)
        rw [l1] at run
        have B2 : Below w1.heap.size w1 w2 := S0.trans hb
        refine ⟨Ac, cc, w2, run, B2, ?_⟩
        have hsub := h.sub hnc k (k + m) (by omega) hkm
        rw [show k + m - k = m from by omega] at hsub
        obtain ⟨Ad, cd, w3, run2, O2, hb2, hcm2⟩ := app_L w2 w1.heap.size O B2.size (c2 := c - k) ((hsub.below (hb1.mono hB)).below (B2.mono (by have := hb1.size; omega))) (by omega)
        rw [l1, l2] at run2
        have B3 := B2.trans hb2
        refine ⟨Ad, cd, w3, run2, B3, ?_⟩
        have hsub3 := hr.sub hcr q _ hq (Nat.le_refl _)
        rw [List.take_of_length_le (by rw [l3]; omega)] at hsub3
        obtain ⟨Af, cf, w4, run3, O3, hb3, hcm3⟩ := app_L w3 w1.heap.size O2 B3.size (c2 := cr - q) (hsub3.below B3) (by rw [List.length_append]; omega)
        rw [List.length_append, l1, l2, l3] at run3
        refine ⟨Af, cf, w4, run3, Af, cf, by unfold movL; rw [List.length_append, List.length_append, l1, l2, l3], O3.seesL, hb1.trans ((B3.trans hb3).mono hb1.size), O3.le, hcm3 (hcm2 hcm), O3.sf⟩
      obtain ⟨N, eN⟩ : ∃ N, N = L.length := ⟨_, rfl⟩
      obtain ⟨R, eR'⟩ : ∃ R, R = remL L k m := ⟨_, rfl⟩
      rw [← eR'] at KR RR hq hRl OR
      obtain ⟨nr, enr⟩ : ∃ N, N = R.length := ⟨_, rfl⟩
      unfold LPost at KR
      rw [← eN] at KR hnc hl hkm hRl ⊢
      rw [← enr] at KR RR hq hRl
      have ht0 : ¬ (nr : Int) < (q : Int) := by omega
      have hki : k + m ≤ c := by omega
      have SA := sl_lh A N c k (k + m) (by omega) hki
      have SB := fun (Ar : Option Addr) (cr : Nat) (h : nr ≤ cr) => sl_h Ar nr cr q (by omega)
      have SC := fun (Ar : Option Addr) (cr : Nat) => sl_l Ar nr cr q hq
      rw [Int.natCast_add, show k + m - k = m from by omega] at SA
      have hi6 : IntKind.i64.wrap ((k : Int) + (m : Int)) = (k : Int) + (m : Int) := IntWalk.i64_in _ (by omega)
      have HSA := Lib.hid SA
      have HSB := Lib.hid SB
      have HSC := Lib.hid SC
      have H6 := Lib.hid hi6
      clear SA SB SC hi6 h hB sf ok hE eR eN eR' enr hRl hE0 OR hnc hc hki E hq ht
      go_enter Try.func23, Try.ntmps23
      go_wp2_with fail
      refine (KR.out).mono ?_
      rintro e w1 ⟨Ar, cr, rfl, p1, hb, p2, p3, _⟩
      obtain ⟨Ac, cc, w2, run, B2, Ad, cd, w3, run2, B3, Af, cf, w4, run3, H⟩ := RR.out w1 Ar cr hb p1 p2
      have S0 : Hid (Below w1.heap.size w1 w1.drew) := (Below.refl _ w1).drew
      have hsb := HSB.out Ar cr p2
      have hsa := HSA.out
      have hi6 := H6.out
      have R1 := Lib.hid run
      have R2 := Lib.hid run2
      have R3 := Lib.hid run3
      have HB2 := Lib.hid B2
      have HB3 := Lib.hid B3
      have HH := Lib.hid H
      have HSC' := Lib.hid (HSC.out Ar cr)
      clear run run2 run3 B2 B3 H RR KR p1 p2 p3 hb HSA HSB HSC
      go_wp2_with fail
      refine wp_region_plan [(false, 1), (false, 2), (false, 3), (false, 5), (false, 6), (false, 7), (false, 8), (false, 9), (false, 10), (true, 0), (true, 4), (true, 11), (false, 12)] (Below w1.heap.size w1) (by kernel_rfl) (by kernel_rfl) (S0.out) _ (by simp only [pickH, List.getElem?_toArray, List.getElem?_cons_succ, List.getElem?_cons_zero]; rfl) ?_
      repeat (refine HWalk.step (fun K hK => ?_); first | (apply held_yes; (focus rfl); (focus (intro w' hw; obtain ⟨hc', hf'⟩ := below_cells hw; go_simp; rfl)); (go_simp; refine hK _ ?_; clear hK K)) | (refine ite_no (by decide) ?_; go_simp; refine hK _ ?_; clear hK K))
      clear hsa hsb hi6
      refine HWalk.mark ?_
      go_wp2_with fail
      refine ⟨((Below.refl _ w1).alloc (Nat.le_refl _) (.cells #[] 2)).drew, ?_⟩
      repeat (refine HWalk.step (fun K hK => ?_); first | (apply held_yes; (focus rfl); (focus (intro w' hw; obtain ⟨hc', hf'⟩ := below_cells hw; go_simp; rfl)); (go_simp; refine hK _ ?_; clear hK K)) | (refine ite_no (by decide) ?_; go_simp; refine hK _ ?_; clear hK K))
      refine HWalk.mark ?_
      go_wp2_with (at_builtin; refine Hid.out ?_)
      refine Lib.hid (Lib.wpList_append_run _ rfl _ _ _ _ rfl _ _ rfl rfl _ _ (R1.out _) ?_)
      go_wp2_with fail
      refine ⟨HB2.out, ?_⟩
      repeat (refine HWalk.step (fun K hK => ?_); first | (apply held_yes; (focus rfl); (focus (intro w' hw; obtain ⟨hc', hf'⟩ := below_cells hw; go_simp; rfl)); (go_simp; refine hK _ ?_; clear hK K)) | (refine ite_no (by decide) ?_; go_simp; refine hK _ ?_; clear hK K))
      refine HWalk.mark ?_
      go_wp2_with (at_builtin; refine Hid.out ?_)
      refine Lib.hid (Lib.wpList_append_run _ rfl _ _ _ _ rfl _ _ rfl rfl _ _ (R2.out _) ?_)
      go_wp2_with fail
      refine ⟨HB3.out, ?_⟩
      repeat (refine HWalk.step (fun K hK => ?_); first | (apply held_yes; (focus rfl); (focus (intro w' hw; obtain ⟨hc', hf'⟩ := below_cells hw; go_simp; rfl)); (go_simp; refine hK _ ?_; clear hK K)) | (refine ite_no (by decide) ?_; go_simp; refine hK _ ?_; clear hK K))
      have hsc := HSC'.out
      refine HWalk.done ?_
      go_wp2_with (at_builtin; refine Hid.out ?_)
      refine Lib.hid (Lib.wpList_append_run _ rfl _ _ _ _ rfl _ _ rfl rfl _ _ (R3.out _) ?_)
      go_wp2_with fail
      go_ret2
      exact HH.out
end Go.Proofs.Ytafgdknfhchnpaa

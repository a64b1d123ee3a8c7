/-
  The reference of layer 6: Move; the index's Move as a whole.
-/
import Derived.Test.YtngbaiijdgmpoaaSizM
namespace Go.Proofs.Ytngbaiijdgmpoaa
open Go.RowKit
set_option linter.unusedVariables false
set_option linter.unusedSimpArgs false

def imovErr (R : Rws) (i n t : Int) : Int := movErr (szs R) i n t
def imovTo (R : Rws) (i n t : Int) : Rws := if movErr (szs R) i n t = 0 then movR R i.toNat n.toNat t.toNat else []
theorem imove_any (w : World) (a A : Option Addr) (S : Sp) (R : Rws) (h : Ix w a A S R) (i n t : Int) (ft : Fits t) :
    Calls Try.prog 23 #[ixv a A S.length, .int .i64 i, .int .i64 n, .int .i64 t] w (IPost w (imovTo R i n t) (imovErr R i n t)) := by
  unfold imovTo imovErr
  by_cases c : i < 0 ∨ n < 0 ∨ (R.length : Int) < i ∨ (R.length : Int) - i < n ∨ t < 0 ∨ (R.length : Int) - n < t
  · have hE : movErr (szs R) i n t = 4 := by unfold movErr; rw [szs_len, if_pos c]
    rw [hE, if_neg (by decide)]
    exact imove_bad w a A S R h i n t ft hE
  · have hE : movErr (szs R) i n t = 0 := by unfold movErr; rw [szs_len, if_neg c]
    rw [hE, if_pos rfl]
    obtain ⟨k, rfl⟩ : ∃ k : Nat, i = (k : Int) := ⟨i.toNat, by omega⟩
    obtain ⟨m, rfl⟩ : ∃ k : Nat, n = (k : Int) := ⟨n.toNat, by omega⟩
    obtain ⟨q, rfl⟩ : ∃ k : Nat, t = (k : Int) := ⟨t.toNat, by omega⟩
    rw [Int.toNat_natCast, Int.toNat_natCast, Int.toNat_natCast]
    exact imove_ok w a A S R h k m q (by omega) (by omega)
set_option maxRecDepth 100000 in
set_option maxHeartbeats 3200000 in
theorem rMove_any (w : World) (A : Option Addr) (c B : Nat) (L : Rws) (h : SeesR w B A L) (hB : B ≤ w.heap.size) (hnc : L.length ≤ c) (hc : c ≤ maxLen) (hl : L.length ≤ 2000) (i n t : Int) (fi : Fits i) (fn : Fits n) (ft : Fits t) :
    Calls Try.prog 27 #[.slice A L.length c, .int .i64 i, .int .i64 n, .int .i64 t] w (RwPost w (imovTo L i n t) (imovErr L i n t)) := by
  have KR := Lib.hid (rRemove_any w A c B L h hB hnc hc hl i n fi fn)
  obtain ⟨ft1, ft2⟩ := ft
  have E : Hid (∀ W, Below w.heap.size w W → RwPost w [] 4 (.returned (.tuple #[.slice none 0 0, .int .i64 4])) W) := fun W hW => RwPost.no hW 4
  unfold iremTo iremErr cutErr at KR
  unfold imovTo imovErr
  rw [szs_len] at KR
  by_cases cc : i < 0 ∨ n < 0 ∨ (L.length : Int) < i ∨ (L.length : Int) - i < n
  · rw [if_pos cc, if_neg (by decide)] at KR
    have hE : movErr (szs L) i n t = 4 := by unfold movErr; rw [szs_len, if_pos (by omega)]
    rw [hE, if_neg (by decide)]
    obtain ⟨N, eN⟩ : ∃ N, N = L.length := ⟨_, rfl⟩
    rw [← eN] at KR ⊢
    clear h hnc eN cc hl hE
    go_enter Try.func27, Try.ntmps27
    go_wp2_with fail
    refine (KR.out).mono ?_
    rintro e w1 ⟨Aj, cj, rfl, _, hb, _, _⟩
    have HE := Lib.hid (E.out w1 hb)
    clear hb E
    go_wp2_with fail
    go_ret2
    exact HE.out
  rw [if_neg cc, if_pos rfl] at KR
  obtain ⟨k, rfl⟩ : ∃ k : Nat, i = (k : Int) := ⟨i.toNat, by omega⟩
  obtain ⟨m, rfl⟩ : ∃ k : Nat, n = (k : Int) := ⟨n.toNat, by omega⟩
  rw [Int.toNat_natCast, Int.toNat_natCast] at KR
  have hkm : k + m ≤ L.length := by omega
  have hRl := len_remR L hkm
  by_cases ct : t < 0 ∨ (L.length : Int) - m < t
  · have hE : movErr (szs L) k m t = 4 := by unfold movErr; rw [szs_len, if_pos (by omega)]
    rw [hE, if_neg (by decide)]
    clear hE
    unfold RwPost at KR
    obtain ⟨N, eN⟩ : ∃ N, N = L.length := ⟨_, rfl⟩
    obtain ⟨nr, enr⟩ : ∃ N, N = (remR L k m).length := ⟨_, rfl⟩
    rw [← eN] at KR ct hRl hkm ⊢
    rw [← enr] at KR hRl
    have hr : (nr : Int) = (N : Int) - m := by omega
    clear h hnc eN cc hl enr hRl hkm
    by_cases t0 : t < 0
    · clear ct hr
      go_enter Try.func27, Try.ntmps27
      go_wp2_with fail
      refine (KR.out).mono ?_
      rintro e w1 ⟨Aj, cj, rfl, _, hb, _, _⟩
      have HE := Lib.hid (E.out w1 hb)
      clear hb E
      go_wp2_with fail
      go_ret2
      exact HE.out
    · have t1 : (nr : Int) < t := by omega
      clear ct hr
      go_enter Try.func27, Try.ntmps27
      go_wp2_with fail
      refine (KR.out).mono ?_
      rintro e w1 ⟨Aj, cj, rfl, _, hb, _, _⟩
      have HE := Lib.hid (E.out w1 hb)
      clear hb E
      go_wp2_with fail
      go_ret2
      exact HE.out
  obtain ⟨q, rfl⟩ : ∃ k : Nat, t = (k : Int) := ⟨t.toNat, by omega⟩
  have hE : movErr (szs L) k m q = 0 := by unfold movErr; rw [szs_len, if_neg (by omega)]
  rw [hE, if_pos rfl, Int.toNat_natCast, Int.toNat_natCast, Int.toNat_natCast]
  clear hE
  have hq : q ≤ (remR L k m).length := by omega
  have RR : Hid (∀ (w1 : World) (Ar : Option Addr) (cr : Nat), Below w.heap.size w w1 → SeesR w1 w1.heap.size Ar (remR L k m) → (remR L k m).length ≤ cr → ∃ Ac cc w2, (∀ ty, (Builtin.append_ #[25, 25] ty #[.slice (some ⟨w1.drew.heap.size, 0, none⟩) 0 0, .slice Ar q cr]).run Try.prog (w1.drew.alloc (.cells #[] 44)) = .ok (.slice Ac q cc) w2) ∧ Below w1.heap.size w1 w2 ∧
      ∃ Ad cd w3, (∀ ty, (Builtin.append_ #[25, 25] ty #[.slice Ac q cc, .slice (subA A c k 2) m (c - k)]).run Try.prog w2 = .ok (.slice Ad (q + m) cd) w3) ∧ Below w1.heap.size w1 w3 ∧
      ∃ Af cf w4, (∀ ty, (Builtin.append_ #[25, 25] ty #[.slice Ad (q + m) cd, .slice (subA Ar cr q 2) ((remR L k m).length - q) (cr - q)]).run Try.prog w3 = .ok (.slice Af (q + m + ((remR L k m).length - q)) cf) w4) ∧
        RwPost w (movR L k m q) 0 (.returned (.tuple #[.slice Af (q + m + ((remR L k m).length - q)) cf, .int .i64 0])) w4) := by
    intro w1 Ar cr hb1 hr hcr
    have l1 : ((remR L k m).take q).length = q := by rw [List.length_take]; omega
    have l2 : ((L.drop k).take m).length = m := by rw [List.length_take, List.length_drop]; omega
    have l3 : ((remR L k m).drop q).length = (remR L k m).length - q := List.length_drop
    have S0 : Below w1.heap.size w1 w1.drew := (Below.refl _ w1).drew
    obtain ⟨Ac, cc, w2, run, O, hb, hcm⟩ := clone_R w1.drew (A := Ar) (c := cr) (L := (remR L k m).take q) ((hr.first q hq).below S0) (Nat.le_refl _) (by omega)
    rw [l1] at run
    have B2 : Below w1.heap.size w1 w2 := S0.trans hb
    refine ⟨Ac, cc, w2, run, B2, ?_⟩
    have hsub := h.sub hnc k (k + m) (by omega) hkm
    rw [show k + m - k = m from by omega] at hsub
    obtain ⟨Ad, cd, w3, run2, O2, hb2, hcm2, _⟩ := app_R w2 w1.heap.size O B2.size (c2 := c - k) ((hsub.below (hb1.mono hB)).below (B2.mono (by have := hb1.size; omega))) (by omega)
    rw [l1, l2] at run2
    have B3 := B2.trans hb2
    refine ⟨Ad, cd, w3, run2, B3, ?_⟩
    have hsub3 := hr.sub hcr q _ hq (Nat.le_refl _)
    rw [List.take_of_length_le (by rw [l3]; omega)] at hsub3
    obtain ⟨Af, cf, w4, run3, O3, hb3, hcm3, _⟩ := app_R w3 w1.heap.size O2 B3.size (c2 := cr - q) (hsub3.below B3) (by rw [List.length_append]; omega)
    rw [List.length_append, l1, l2, l3] at run3
    exact ⟨Af, cf, w4, run3, Af, cf, by unfold movR; rw [List.length_append, List.length_append, l1, l2, l3], O3.see, hb1.trans ((B3.trans hb3).mono hb1.size), O3.le, hcm3 (hcm2 hcm)⟩
  unfold RwPost at KR
  obtain ⟨N, eN⟩ : ∃ N, N = L.length := ⟨_, rfl⟩
  obtain ⟨R, eR'⟩ : ∃ R, R = remR L k m := ⟨_, rfl⟩
  rw [← eR'] at KR RR hq hRl
  obtain ⟨nr, enr⟩ : ∃ N, N = R.length := ⟨_, rfl⟩
  rw [← eN] at KR hnc hl hkm hRl cc ct ⊢
  rw [← enr] at KR RR hq hRl
  have ht0 : ¬ (nr : Int) < (q : Int) := by omega
  have ht1 : ¬ (q : Int) < 0 := by omega
  have hki : k + m ≤ c := by omega
  have SA := slR_lh A N c k (k + m) (by omega) hki
  have SB := fun (Ar : Option Addr) (cr : Nat) (h : nr ≤ cr) => slR_h Ar nr cr q (by omega)
  have SC := fun (Ar : Option Addr) (cr : Nat) => slR_l Ar nr cr q hq
  rw [Int.natCast_add, show k + m - k = m from by omega] at SA
  have hi6 : IntKind.i64.wrap ((k : Int) + (m : Int)) = (k : Int) + (m : Int) := IntWalk.i64_in _ (by omega)
  have HSA := Lib.hid SA
  have HSB := Lib.hid SB
  have HSC := Lib.hid SC
  have H6 := Lib.hid hi6
  clear SA SB SC hi6 h hB eN eR' enr hRl hnc hc hki E hq ct cc hkm
  go_enter Try.func27, Try.ntmps27
  go_wp2_with fail
  refine (KR.out).mono ?_
  rintro e w1 ⟨Ar, cr, rfl, p1, hb, p2, p3⟩
  obtain ⟨Ac, cc, w2, run, B2, Ad, cd, w3, run2, B3, Af, cf, w4, run3, H⟩ := RR.out w1 Ar cr hb p1 p2
  have S0 : Hid (Below w1.heap.size w1 w1.drew) := (Below.refl _ w1).drew
  have hsb := HSB.out Ar cr p2
  have hsa := HSA.out
  have hi6 := H6.out
  have R1 := Lib.hid run
  have R2 := Lib.hid run2
  have R3 := Lib.hid run3
  have HB2 := Lib.hid B2
  have HB3 := Lib.hid B3
  have HH := Lib.hid H
  have HSC' := Lib.hid (HSC.out Ar cr)
  clear run run2 run3 B2 B3 H RR KR p1 p2 p3 hb HSA HSB HSC
  go_wp2_with fail
  refine wp_region_plan [(false, 1), (false, 2), (false, 3), (false, 5), (false, 6), (false, 7), (false, 8), (false, 9), (false, 10), (true, 0), (true, 4), (true, 11), (false, 12)] (Below w1.heap.size w1) (by kernel_rfl) (by kernel_rfl) (S0.out) _ (by simp only [pickH, List.getElem?_toArray, List.getElem?_cons_succ, List.getElem?_cons_zero]; rfl) ?_
  repeat (refine HWalk.step (fun K hK => ?_); first | (apply held_yes; (focus rfl); (focus (intro w' hw; obtain ⟨hc', hf'⟩ := below_cells hw; go_simp; rfl)); (go_simp; refine hK _ ?_; clear hK K)) | (refine ite_no (by decide) ?_; go_simp; refine hK _ ?_; clear hK K))
  clear hsa hsb hi6
  refine HWalk.mark ?_
  go_wp2_with fail
  refine ⟨((Below.refl _ w1).alloc (Nat.le_refl _) (.cells #[] 44)).drew, ?_⟩
  repeat (refine HWalk.step (fun K hK => ?_); first | (apply held_yes; (focus rfl); (focus (intro w' hw; obtain ⟨hc', hf'⟩ := below_cells hw; go_simp; rfl)); (go_simp; refine hK _ ?_; clear hK K)) | (refine ite_no (by decide) ?_; go_simp; refine hK _ ?_; clear hK K))
  refine HWalk.mark ?_
  go_wp2_with (at_builtin; refine Hid.out ?_)
  refine Lib.hid (Lib.wpList_append_run _ rfl _ _ _ _ rfl _ _ rfl rfl _ _ (R1.out _) ?_)
  go_wp2_with fail
  refine ⟨HB2.out, ?_⟩
  repeat (refine HWalk.step (fun K hK => ?_); first | (apply held_yes; (focus rfl); (focus (intro w' hw; obtain ⟨hc', hf'⟩ := below_cells hw; go_simp; rfl)); (go_simp; refine hK _ ?_; clear hK K)) | (refine ite_no (by decide) ?_; go_simp; refine hK _ ?_; clear hK K))
  refine HWalk.mark ?_
  go_wp2_with (at_builtin; refine Hid.out ?_)
  refine Lib.hid (Lib.wpList_append_run _ rfl _ _ _ _ rfl _ _ rfl rfl _ _ (R2.out _) ?_)
  go_wp2_with fail
  refine ⟨HB3.out, ?_⟩
  repeat (refine HWalk.step (fun K hK => ?_); first | (apply held_yes; (focus rfl); (focus (intro w' hw; obtain ⟨hc', hf'⟩ := below_cells hw; go_simp; rfl)); (go_simp; refine hK _ ?_; clear hK K)) | (refine ite_no (by decide) ?_; go_simp; refine hK _ ?_; clear hK K))
  have hsc := HSC'.out
  refine HWalk.done ?_
  go_wp2_with (at_builtin; refine Hid.out ?_)
  refine Lib.hid (Lib.wpList_append_run _ rfl _ _ _ _ rfl _ _ rfl rfl _ _ (R3.out _) ?_)
  go_wp2_with fail
  go_ret2
  exact HH.out
end Go.Proofs.Ytngbaiijdgmpoaa

/-
  The reference of layer 6: fault, Set, Insert.
-/
import Derived.Test.YtngbaiijdgmpoaaSizN
namespace Go.Proofs.Ytngbaiijdgmpoaa
open Go.RowKit
set_option linter.unusedVariables false
set_option linter.unusedSimpArgs false

def faultV (s u : Int) : Int := if s < 1 ∨ 2305843009213693952 < s then 12 else if 4611686018427387904 - u < s then 13 else 0
theorem fault_any (w : World) (s u : Int) (fs : Fits s) (h0 : 0 ≤ u) (h1 : u ≤ 4611686018427387904) : Calls Try.prog 45 #[.int .i64 s, .int .i64 u] w fun e w' => e = .returned (.int .i64 (faultV s u)) ∧ w = w' := by
  obtain ⟨f1, f2⟩ := fs
  unfold faultV
  by_cases c1 : s < 1
  · rw [if_pos (.inl c1)]
    go_enter Try.func45, Try.ntmps45
    go_wp2_with fail
    go_ret
    exact ⟨rfl, rfl⟩
  by_cases c2 : 2305843009213693952 < s
  · rw [if_pos (.inr c2)]
    go_enter Try.func45, Try.ntmps45
    go_wp2_with fail
    go_ret
    exact ⟨rfl, rfl⟩
  rw [if_neg (by omega)]
  by_cases c3 : 4611686018427387904 - u < s
  · rw [if_pos c3]
    go_enter Try.func45, Try.ntmps45
    go_wp2_with fail
    go_ret
    exact ⟨rfl, rfl⟩
  · rw [if_neg c3]
    go_enter Try.func45, Try.ntmps45
    go_wp2_with fail
    go_ret
    exact ⟨rfl, rfl⟩
set_option maxRecDepth 100000 in
set_option maxHeartbeats 3200000 in
theorem rSet_any (w : World) (A : Option Addr) (c B : Nat) (L : Rws) (h : SeesR w B A L) (hB : B ≤ w.heap.size) (hnc : L.length ≤ c) (hc : c ≤ maxLen) (hl : L.length ≤ 2000) (ok : LOk (szs L)) (i v : Int) (b : Bool) (fi : Fits i) (fv : Fits v) :
    Calls Try.prog 28 #[.slice A L.length c, .int .i64 i, .int .i64 v, .bool b] w (RwPost w (isetTo L i v b) (isetErr L i v)) := by
  have E : Hid (∀ W, Below w.heap.size w W → ∀ x : Int, RwPost w [] x (.returned (.tuple #[.slice none 0 0, .int .i64 x])) W) := fun W hW x => RwPost.no hW x
  have hE : isetErr L i v = if i < 0 ∨ (L.length : Int) ≤ i then 4 else faultV v ((szs L).sum - lf (szs L) i.toNat) := rfl
  unfold isetTo
  by_cases c1 : i < 0 ∨ (L.length : Int) ≤ i
  · rw [hE, if_pos c1, if_neg (by decide)]
    obtain ⟨N, eN⟩ : ∃ N, N = L.length := ⟨_, rfl⟩
    rw [← eN] at c1 hl ⊢
    clear h hnc eN hE ok
    by_cases c2 : i < 0
    · clear c1
      go_enter Try.func28, Try.ntmps28
      go_wp2_with fail
      go_ret2
      exact E.out w (Below.refl _ _) 4
    · have c3 : (N : Int) ≤ i := by omega
      clear c1
      go_enter Try.func28, Try.ntmps28
      go_wp2_with fail
      go_ret2
      exact E.out w (Below.refl _ _) 4
  obtain ⟨k, rfl⟩ : ∃ k : Nat, i = (k : Int) := ⟨i.toNat, by omega⟩
  have hk : k < L.length := by omega
  rw [hE, if_neg c1, Int.toNat_natCast]
  obtain ⟨bs0, bs1⟩ := lf_le_sum ok k (by rw [szs_len]; exact hk)
  have ht := ok.top
  have KT := Lib.hid (fun W (g : Below w.heap.size w W) => refTop_any W B A c L L.length (h.below (g.mono hB)) ok (Nat.le_refl _) (by omega))
  rw [show (szs L).take L.length = szs L from List.take_of_length_le (by rw [szs_len]; exact Nat.le_refl _)] at KT
  have KF := Lib.hid (fun W => fault_any W v ((szs L).sum - lf (szs L) k) fv (by omega) (by omega))
  obtain ⟨q, o, rfl, hq, q0, q1⟩ := h.cells hk
  rw [rg_fst L hk] at q0
  obtain ⟨Ac, cc, w2, run, O, hb, hcm⟩ := clone_R w.drew (A := some ⟨q, o, none⟩) (c := c) (L := L) (h.below ((Below.refl _ w).drew.mono hB)) hB (by omega)
  have RUN := Lib.hid run
  have ST : Hid (faultV v ((szs L).sum - lf (szs L) k) = 0 → ∃ g, Ac = some ⟨g, 0, none⟩ ∧ w2.cell? ⟨g, k * 2, none⟩ = some (rwf L (k * 2)) ∧ w2.cell? ⟨g, k * 2 + 1, none⟩ = some (rwf L (k * 2 + 1)) ∧ w2.frozen? ⟨g, k * 2, none⟩ = false ∧ w2.frozen? ⟨g, k * 2 + 1, none⟩ = false ∧ g < w2.heap.size ∧
      RwPost w (setR L k v b) 0 (.returned (.tuple #[.slice Ac L.length cc, .int .i64 0])) ((w2.setCell ⟨g, k * 2, none⟩ (.int .i64 v)).setCell ⟨g, k * 2 + 1, none⟩ (.bool b))) := fun _ => by
    obtain ⟨g, rfl, g1, g2, g3, g4⟩ := O.at_ (by omega)
    have O1 := O.set (k * 2) (.int .i64 v)
    have O2 := O1.set (k * 2 + 1) (.bool b)
    refine ⟨g, rfl, g3 _ (by omega), g3 _ (by omega), g4 _, g4 _, g2, some ⟨g, 0, none⟩, cc, ?_, ?_, ?_, ?_, hcm⟩
    · rw [show (setR L k v b).length = L.length from by unfold setR; rw [List.length_append, List.length_cons, List.length_take, List.length_drop]; omega]
    · have e : (setR L k v b).length = L.length := by unfold setR; rw [List.length_append, List.length_cons, List.length_take, List.length_drop]; omega
      have h3 := O2.sees
      unfold SeesR
      rw [e]
      refine h3.congr fun j hj => ?_
      have e3 : rg (setR L k v b) (j / 2) = if j / 2 = k then (v, b) else rg L (j / 2) := by
        unfold setR
        rw [rg_app, List.length_take, Nat.min_eq_left (by omega)]
        by_cases c : j / 2 < k
        · rw [if_pos c, if_neg (by omega)]
          unfold rg
          rw [List.getD_eq_getElem?_getD, List.getD_eq_getElem?_getD, List.getElem?_take_of_lt c]
        · rw [if_neg c]
          by_cases d : j / 2 = k
          · rw [if_pos d, d, Nat.sub_self]; rfl
          · rw [if_neg d]
            unfold rg
            rw [List.getD_eq_getElem?_getD, List.getD_eq_getElem?_getD, show j / 2 - k = (j / 2 - k - 1) + 1 from by omega, List.getElem?_cons_succ, List.getElem?_drop, show k + 1 + (j / 2 - k - 1) = j / 2 from by omega]
      show (if j = k * 2 + 1 then Value.bool b else if j = k * 2 then Value.int .i64 v else rwf L j) = rwf (setR L k v b) j
      unfold rwf
      rw [e3]
      by_cases d1 : j = k * 2 + 1
      · rw [if_pos d1, if_neg (by omega), if_pos (by omega)]
      · rw [if_neg d1]
        by_cases d2 : j = k * 2
        · rw [if_pos d2, if_pos (by omega), if_pos (by omega)]
        · rw [if_neg d2, if_neg (show ¬ j / 2 = k by omega)]
    · exact (((Below.refl _ w).drew.trans hb).setCell (p := ⟨g, k * 2, none⟩) g1 _).setCell (p := ⟨g, k * 2 + 1, none⟩) g1 _
    · rw [show (setR L k v b).length = L.length from by unfold setR; rw [List.length_append, List.length_cons, List.length_take, List.length_drop]; omega]
      exact O.le
  have D0 : Hid (Below w.heap.size w w.drew) := (Below.refl _ _).drew
  have lq : q < w.heap.size := by omega
  obtain ⟨N, eN⟩ : ∃ N, N = L.length := ⟨_, rfl⟩
  rw [← eN] at KT RUN ST hk hl ⊢
  obtain ⟨s, es⟩ : ∃ s, s = (szs L).sum := ⟨_, rfl⟩
  obtain ⟨u, eu⟩ : ∃ s, s = lf (szs L) k := ⟨_, rfl⟩
  rw [← es, ← eu] at KF ST ⊢
  rw [← es] at KT bs1 ht
  rw [← eu] at q0 bs0 bs1
  have hw : IntKind.i64.wrap (s - u) = s - u := IntWalk.i64_in _ (by omega)
  obtain ⟨x, ex⟩ : ∃ x, x = faultV v (s - u) := ⟨_, rfl⟩
  rw [← ex] at KF ST ⊢
  obtain ⟨RR, eRR⟩ : ∃ RR, RR = (if x = 0 then setR L k v b else []) := ⟨_, rfl⟩
  rw [← eRR]
  have HRR := Lib.hid eRR
  have hki : ¬ (k : Int) < 0 := by omega
  have hki2 : ¬ (N : Int) ≤ (k : Int) := by omega
  clear run O hb hcm h hnc eN es eu ex eRR hE c1 ok q1 hq
  go_enter Try.func28, Try.ntmps28
  go_wp2_with fail
  refine wp_region_plan [(false, 0), (false, 1), (false, 2), (false, 3), (false, 5), (false, 6), (false, 7), (false, 8), (false, 9), (true, 4), (false, 10), (true, 11), (false, 12)] (Below w.heap.size w) (by kernel_rfl) (by kernel_rfl) (D0.out) _ (by simp only [pickH, List.getElem?_toArray, List.getElem?_cons_succ, List.getElem?_cons_zero]; rfl) ?_
  repeat (refine HWalk.step (fun K hK => ?_); first | (apply held_yes; (focus rfl); (focus (intro w' hw; obtain ⟨hc', hf'⟩ := below_cells hw; go_simp; rfl)); (go_simp; refine hK _ ?_; clear hK K)) | (refine ite_no (by decide) ?_; go_simp; refine hK _ ?_; clear hK K))
  refine HWalk.mark ?_
  go_wp2_with fail
  refine (KT.out _ D0.out).mono ?_
  rintro e w1 ⟨rfl, rfl⟩
  go_wp2_with fail
  refine ⟨D0.out, ?_⟩
  repeat (refine HWalk.step (fun K hK => ?_); first | (apply held_yes; (focus rfl); (focus (intro w' hw; obtain ⟨hc', hf'⟩ := below_cells hw; go_simp; rfl)); (go_simp; refine hK _ ?_; clear hK K)) | (refine ite_no (by decide) ?_; go_simp; refine hK _ ?_; clear hK K))
  refine HWalk.mark ?_
  go_wp2_with fail
  refine (KF.out _).mono ?_
  rintro e w1 ⟨rfl, rfl⟩
  go_wp2_with fail
  refine ⟨D0.out, ?_⟩
  repeat (refine HWalk.step (fun K hK => ?_); first | (apply held_yes; (focus rfl); (focus (intro w' hw; obtain ⟨hc', hf'⟩ := below_cells hw; go_simp; rfl)); (go_simp; refine hK _ ?_; clear hK K)) | (refine ite_no (by decide) ?_; go_simp; refine hK _ ?_; clear hK K))
  refine HWalk.done ?_
  by_cases x0 : x = 0
  · subst x0
    obtain ⟨g, rfl, g3, g4, g5, g6, g7, HH⟩ := ST.out rfl
    have eR : RR = setR L k v b := HRR.out
    subst eR
    have HP := Lib.hid HH
    clear HH HRR ST
    rw [rwf_0] at g3
    rw [rwf_1] at g4
    go_wp2_with (at_builtin; refine Hid.out ?_)
    refine Lib.hid (Lib.wpList_append_run _ rfl _ _ _ _ rfl _ _ rfl rfl _ _ (RUN.out _) ?_)
    go_wp2_with fail
    go_ret2
    exact HP.out
  · have xb : (x != 0) = true := by rw [bne_iff_ne]; exact x0
    have eR : RR = [] := by rw [HRR.out, if_neg x0]
    subst eR
    clear HRR ST
    go_wp2_with fail
    go_ret2
    exact E.out _ D0.out x
end Go.Proofs.Ytngbaiijdgmpoaa

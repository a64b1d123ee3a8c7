/-
  The reference of layer 5: Join, Remove.
-/
import Derived.Test.YtafgdknfhchnpaaRopLaw3
import Derived.Test.YtafgdknfhchnpaaRopOf
import Derived.IntWalk
namespace Go.Proofs.Ytafgdknfhchnpaa
open Go.RowKit
set_option linter.unusedVariables false
set_option linter.unusedSimpArgs false

/-- The form of a slice that is carried on. -/
def SF (A : Option Addr) (c : Nat) : Prop := (A = none ∧ c = 0) ∨ ∃ b o, A = some ⟨b, o, none⟩
theorem Own.sf {w : World} {B : Nat} {e : TypeId} {sz n c : Nat} {A : Option Addr} {F : Nat → Value} (h : Own w B e sz n c A F) : SF A c := by
  rcases h with ⟨h1, _, h3⟩ | ⟨_, g, _, h2, _⟩
  · exact .inl ⟨h1, h3⟩
  · exact .inr ⟨g, 0, h2⟩
/-- A result of a list and an error. -/
def LPost (w : World) (L : List Int) (err : Int) (e : Ending) (w' : World) : Prop := ∃ A c, e = .returned (.tuple #[.slice A L.length c, .int .i64 err]) ∧ SeesL w' w'.heap.size A L ∧ Below w.heap.size w w' ∧ L.length ≤ c ∧ c ≤ maxLen ∧ SF A c
theorem lf_app {L M : List Int} (j : Nat) : lf (L ++ M) j = if j < L.length then lf L j else lf M (j - L.length) := by
  unfold lf
  rw [List.getD_eq_getElem?_getD, List.getD_eq_getElem?_getD, List.getD_eq_getElem?_getD]
  by_cases c : j < L.length
  · rw [if_pos c, List.getElem?_append_left c]
  · rw [if_neg c, List.getElem?_append_right (by omega)]
/-- append(own, l...) in lists. -/
theorem app_L (w : World) (B : Nat) {c : Nat} {A : Option Addr} {L : List Int} (h : Own w B 2 1 L.length c A (i64s (lf L))) (hB : B ≤ w.heap.size)
    {A2 : Option Addr} {c2 B2 : Nat} {M : List Int} (hs : SeesL w B2 A2 M) (hm : L.length + M.length ≤ 1000000000) :
    ∃ A' c' w', (∀ ty, (Builtin.append_ #[22, 22] ty #[.slice A L.length c, .slice A2 M.length c2]).run Try.prog w = .ok (.slice A' (L.length + M.length) c') w') ∧ Own w' B 2 1 (L ++ M).length c' A' (i64s (lf (L ++ M))) ∧ Below B w w' ∧ (c ≤ maxLen → c' ≤ maxLen) := by
  obtain ⟨A', c', w', h1, h2, h3, h4⟩ := app_i64 w B h hB (c2 := c2) hs hm
  refine ⟨A', c', w', h1, ?_, h3, h4⟩
  rw [List.length_append]
  exact h2.congr fun j _ => by rw [i64s_at, i64s_at, lf_app]
theorem Own.seesL {w : World} {B c : Nat} {A : Option Addr} {L : List Int} (h : Own w B 2 1 L.length c A (i64s (lf L))) : SeesL w w.heap.size A L := by
  have := h.sees; rw [Nat.mul_one] at this; exact this

set_option maxRecDepth 100000 in
set_option maxHeartbeats 1600000 in
theorem refJoin_any (w : World) (A1 A2 : Option Addr) (c1 c2 B1 B2 : Nat) (L M : List Int) (h1 : SeesL w B1 A1 L) (h2 : SeesL w B2 A2 M) (hB1 : B1 ≤ w.heap.size) (hB2 : B2 ≤ w.heap.size) (oL : LOk L) (oM : LOk M) :
    Calls Try.prog 16 #[.slice A1 L.length c1, .slice A2 M.length c2] w (LPost w (if joinErr L M = 0 then L ++ M else []) (joinErr L M)) := by
  have KA := Lib.hid (sumL_any A1 c1 L.length L w B1 h1 oL (Nat.le_refl _))
  have KB := Lib.hid (sumL_any A2 c2 M.length M w B2 h2 oM (Nat.le_refl _))
  rw [psum_lf_all] at KA KB
  obtain ⟨Ac, cc, w2, run, O, hb, hcm⟩ := clone_i64 w (c := c1) (h1.more hB1) (Nat.le_refl _) (by have := oL.len; omega)
  obtain ⟨Ad, cd, w3, run2, O2, hb2, hcm2⟩ := app_L w2 w.heap.size O hb.size (c2 := c2) ((h2.more hB2).below hb) (by have := oL.len; have := oM.len; omega)
  have RUN := Lib.hid run
  have RUN2 := Lib.hid run2
  have H : Hid (∀ x : Int, LPost w (L ++ M) x (.returned (.tuple #[.slice Ad (L.length + M.length) cd, .int .i64 x])) w3) := fun x => ⟨Ad, cd, by rw [List.length_append], O2.seesL, hb.trans hb2, O2.le, hcm2 hcm, O2.sf⟩
  have l1 := oL.len
  have l2 := oM.len
  have s1 := oL.sum0
  have s2 := oM.sum0
  have t1 := oL.top
  have t2 := oM.top
  have E : Hid (∀ x : Int, LPost w [] x (.returned (.tuple #[.slice none 0 0, .int .i64 x])) w) := fun x => ⟨none, 0, rfl, seesL_nil _ _, Below.refl _ _, Nat.le_refl _, Nat.zero_le _, .inl ⟨rfl, rfl⟩⟩
  have hcase : (joinErr L M = 3 ∧ 4096 < L.length + M.length) ∨ (joinErr L M = 13 ∧ ¬ 4096 < L.length + M.length ∧ 4611686018427387904 - M.sum < L.sum) ∨ (joinErr L M = 0 ∧ ¬ 4096 < L.length + M.length ∧ ¬ 4611686018427387904 - M.sum < L.sum) := by
    unfold joinErr
    by_cases q1 : 4096 < L.length + M.length
    · exact .inl ⟨if_pos q1, q1⟩
    · by_cases q2 : 4611686018427387904 - M.sum < L.sum
      · exact .inr (.inl ⟨by rw [if_neg q1, if_pos q2], q1, q2⟩)
      · exact .inr (.inr ⟨by rw [if_neg q1, if_neg q2], q1, q2⟩)
  clear run run2 O O2 hb hb2 hcm hcm2 h1 h2 oL oM
  obtain ⟨nA, eA⟩ : ∃ n, n = L.length := ⟨_, rfl⟩
  obtain ⟨nB, eB⟩ : ∃ n, n = M.length := ⟨_, rfl⟩
  obtain ⟨tA, fA⟩ : ∃ n, n = L.sum := ⟨_, rfl⟩
  obtain ⟨tB, fB⟩ : ∃ n, n = M.sum := ⟨_, rfl⟩
  rw [← eA] at KA RUN RUN2 H l1 hcase
  rw [← eB] at KB RUN2 H l2 hcase
  rw [← fA] at KA s1 t1 hcase
  rw [← fB] at KB s2 t2 hcase
  rw [← eA, ← eB]
  clear eA eB fA fB
  rcases hcase with ⟨e, hc⟩ | ⟨e, hc, hd⟩ | ⟨e, hc, hd⟩
  · rw [e, if_neg (by decide)]
    have hc' : 4096 < (nA : Int) + (nB : Int) := by omega
    clear e
    go_enter Try.func16, Try.ntmps16
    go_wp2_with fail
    go_ret2
    exact E.out 3
  · rw [e, if_neg (by decide)]
    have hc' : ¬ 4096 < (nA : Int) + (nB : Int) := by omega
    clear e
    go_enter Try.func16, Try.ntmps16
    go_wp2_with fail
    refine (KA.out).mono ?_
    rintro e w' ⟨rfl, rfl⟩
    go_wp2_with fail
    refine (KB.out).mono ?_
    rintro e w' ⟨rfl, rfl⟩
    go_wp2_with fail
    go_ret2
    exact E.out 13
  · rw [e, if_pos rfl]
    have hc' : ¬ 4096 < (nA : Int) + (nB : Int) := by omega
    clear e
    go_enter Try.func16, Try.ntmps16
    go_wp2_with fail
    refine (KA.out).mono ?_
    rintro e w' ⟨rfl, rfl⟩
    go_wp2_with fail
    refine (KB.out).mono ?_
    rintro e w' ⟨rfl, rfl⟩
    go_wp2_with (at_builtin; refine Hid.out ?_)
    refine Lib.hid (Lib.wpList_append_run _ rfl _ _ _ _ rfl _ _ rfl rfl _ _ (RUN.out _) ?_)
    go_wp2_with (at_builtin; refine Hid.out ?_)
    refine Lib.hid (Lib.wpList_append_run _ rfl _ _ _ _ rfl _ _ rfl rfl _ _ (RUN2.out _) ?_)
    go_wp2_with fail
    go_ret2
    exact H.out 0

theorem lf_take {L : List Int} {k j : Nat} (h : j < k) : lf (L.take k) j = lf L j := by
  unfold lf; rw [List.getD_eq_getElem?_getD, List.getD_eq_getElem?_getD, List.getElem?_take_of_lt h]
theorem lf_drop {L : List Int} {k j : Nat} : lf (L.drop k) j = lf L (k + j) := by
  unfold lf; rw [List.getD_eq_getElem?_getD, List.getD_eq_getElem?_getD, List.getElem?_drop]
theorem SeesL.take {w : World} {B : Nat} {A : Option Addr} {L : List Int} (h : SeesL w B A L) (k : Nat) (hk : k ≤ L.length) : SeesL w B A (L.take k) := by
  unfold SeesL
  rw [List.length_take, Nat.min_eq_left hk]
  exact sees_congr (Sees.first h hk) fun j hj => by rw [i64s_at, i64s_at, lf_take hj]
theorem SeesL.drop {w : World} {B b o : Nat} {L : List Int} (h : SeesL w B (some ⟨b, o, none⟩) L) (k : Nat) (hk : k ≤ L.length) : SeesL w B (some ⟨b, o + k, none⟩) (L.drop k) := by
  unfold SeesL
  rw [List.length_drop]
  exact sees_congr (Sees.sub h hk) fun j hj => by rw [i64s_at, i64s_at, lf_drop]
/-- append([]int64{}, l...) in lists. -/
theorem clone_L (w : World) {A : Option Addr} {c B : Nat} {L : List Int} (hs : SeesL w B A L) (hB : B ≤ w.heap.size) (hn : L.length ≤ 1000000) :
    ∃ A' c' w', (∀ ty, (Builtin.append_ #[22, 22] ty #[.slice (some ⟨w.heap.size, 0, none⟩) 0 0, .slice A L.length c]).run Try.prog (w.alloc (.cells #[] 2)) = .ok (.slice A' L.length c') w') ∧ Own w' w.heap.size 2 1 L.length c' A' (i64s (lf L)) ∧ Below w.heap.size w w' ∧ c' ≤ maxLen :=
  clone_i64 w (c := c) hs hB (by omega)

set_option maxRecDepth 100000 in
set_option maxHeartbeats 1600000 in
theorem refRemove_any (w : World) (A : Option Addr) (c B : Nat) (L : List Int) (h : SeesL w B A L) (hB : B ≤ w.heap.size) (hnc : L.length ≤ c) (hc : c ≤ maxLen) (sf : SF A c) (ok : LOk L) (i n : Int) (fi : Fits i) (fn : Fits n) :
    Calls Try.prog 21 #[.slice A L.length c, .int .i64 i, .int .i64 n] w (LPost w (remTo L i n) (cutErr L i n)) := by
  obtain ⟨fi1, fi2⟩ := fi
  obtain ⟨fn1, fn2⟩ := fn
  have hl := ok.len
  have E : Hid (∀ x : Int, LPost w [] x (.returned (.tuple #[.slice none 0 0, .int .i64 x])) w) := fun x => ⟨none, 0, rfl, seesL_nil _ _, Below.refl _ _, Nat.le_refl _, Nat.zero_le _, .inl ⟨rfl, rfl⟩⟩
  rcases cutErr_cases L i n with ⟨hE, hcc⟩ | ⟨hE, k, m, rfl, rfl, hkm⟩
  · have : remTo L i n = [] := by unfold remTo; rw [hE, if_neg (by decide)]
    rw [this, hE]
    clear h ok this hE
    obtain ⟨N, eN⟩ : ∃ N, N = L.length := ⟨_, rfl⟩
    rw [← eN] at hcc hl ⊢
    clear eN hnc
    by_cases q1 : i < 0
    · clear hcc
      go_enter Try.func21, Try.ntmps21
      go_wp2_with fail
      go_ret2
      exact E.out 4
    by_cases q2 : n < 0
    · clear hcc
      go_enter Try.func21, Try.ntmps21
      go_wp2_with fail
      go_ret2
      exact E.out 4
    by_cases q3 : (N : Int) < i
    · clear hcc
      go_enter Try.func21, Try.ntmps21
      go_wp2_with fail
      go_ret2
      exact E.out 4
    have q4 : (N : Int) - i < n := by omega
    clear hcc
    go_enter Try.func21, Try.ntmps21
    go_wp2_with fail
    go_ret2
    exact E.out 4
  · have eR : remTo L k m = remL L k m := by unfold remTo; rw [hE, if_pos rfl, Int.toNat_natCast, Int.toNat_natCast]
    rw [eR, hE]
    clear hE eR fi1 fi2 fn1 fn2
    have hki : (k : Int) ≤ (c : Int) := by omega
    have hk0 : ¬ (L.length : Int) < (k : Int) := by omega
    have hk1 : ¬ (L.length : Int) - (k : Int) < (m : Int) := by omega
    have S0 : Hid (Below w.heap.size w w.drew) := (Below.refl _ _).drew
    have l1 : (L.take k).length = k := by rw [List.length_take]; omega
    have l2 : (L.drop (k + m)).length = L.length - (k + m) := List.length_drop
    obtain ⟨Ac, cc, w2, run, O, hb, hcm⟩ := clone_L w.drew (A := A) (c := c) (L := L.take k) ((h.take k (by omega)).below (S0.out.mono hB)) hB (by omega)
    rw [l1] at run
    have B2 : Hid (Below w.heap.size w w2) := S0.out.trans hb
    have O' := Lib.hid O
    have R1 := Lib.hid run
    have hm := Lib.hid hcm
    clear run O hb hcm
    have R2 : Hid (∀ A2 c2, SeesL w B A2 (L.drop (k + m)) → ∃ Ad cd w3, (∀ ty, (Builtin.append_ #[22, 22] ty #[.slice Ac k cc, .slice A2 (L.length - (k + m)) c2]).run Try.prog w2 = .ok (.slice Ad (k + (L.length - (k + m))) cd) w3) ∧ LPost w (remL L k m) 0 (.returned (.tuple #[.slice Ad (k + (L.length - (k + m))) cd, .int .i64 0])) w3 ∧ Below w.heap.size w w3) := by
      intro A2 c2 h2
      obtain ⟨Ad, cd, w3, run, O2, hb, hcm⟩ := app_L w2 w.heap.size O'.out B2.out.size (c2 := c2) (h2.below (B2.out.mono hB)) (by omega)
      rw [l1, l2] at run
      have B3 := B2.out.trans hb
      refine ⟨Ad, cd, w3, run, ?_, B3⟩
      rw [show remL L k m = L.take k ++ L.drop (k + m) from by unfold remL; rw [List.drop_drop]]
      exact ⟨Ad, cd, by rw [List.length_append, l1, l2], O2.seesL, B3, O2.le, hcm hm.out, O2.sf⟩
    have hlen := hl
    obtain ⟨n, en⟩ : ∃ n, n = L.length := ⟨_, rfl⟩
    have HD : Hid (∀ b o, A = some ⟨b, o, none⟩ → SeesL w B (some ⟨b, o + (k + m), none⟩) (L.drop (k + m))) := fun b o e => by subst e; exact h.drop _ hkm
    have HZ : Hid (n = k + m → ∀ A2, SeesL w B A2 (L.drop (k + m))) := fun e A2 hn => absurd hn (by rw [l2]; omega)
    rw [← en] at R2 hl hk0 hk1 hkm hnc hlen ⊢
    unfold maxLen at hc
    have hi6 : Hid (IntKind.i64.wrap ((k : Int) + (m : Int)) = (k : Int) + (m : Int)) := IntWalk.i64_in _ (by omega)
    have hi7 : Hid (((k : Int) + (m : Int)).toNat = k + m) := by show _ = _; omega
    clear l1 l2 en h ok E
    rcases sf with ⟨rfl, rfl⟩ | ⟨b, o, rfl⟩
    · obtain rfl : n = 0 := by omega
      obtain rfl : k = 0 := by omega
      obtain rfl : m = 0 := by omega
      obtain ⟨Ad, cd, w3, run2, H, B3⟩ := R2.out none 0 (HZ.out (by omega) _)
      rw [show (0 : Nat) - (0 + 0) = 0 from rfl, Nat.add_zero] at run2 H
      have RR2 := Lib.hid run2
      have HH := Lib.hid H
      have B3' := Lib.hid B3
      clear run2 H B3 hi6 hi7 hki hk0 hk1 hkm
      go_enter Try.func21, Try.ntmps21
      go_wp2_with fail
      refine wp_region_plan [(false, 1), (false, 2), (false, 3), (false, 5), (false, 6), (false, 7), (false, 8), (false, 9), (true, 0), (true, 4), (true, 10), (false, 11), (false, 12)] (Below w.heap.size w) (by kernel_rfl) (by kernel_rfl) (S0.out) _ (by simp only [pickH, List.getElem?_toArray, List.getElem?_cons_succ, List.getElem?_cons_zero]; rfl) ?_
      repeat (refine HWalk.step (fun K hK => ?_); first | (apply held_yes; (focus rfl); (focus (intro w' hw; obtain ⟨hc', hf'⟩ := below_cells hw; go_simp; rfl)); (go_simp; refine hK _ ?_; clear hK K)) | (refine ite_no (by decide) ?_; go_simp; refine hK _ ?_; clear hK K))
      refine HWalk.mark ?_
      go_wp2_with fail
      refine ⟨((Below.refl _ w).alloc (Nat.le_refl _) (.cells #[] 2)).drew, ?_⟩
      repeat (refine HWalk.step (fun K hK => ?_); first | (apply held_yes; (focus rfl); (focus (intro w' hw; obtain ⟨hc', hf'⟩ := below_cells hw; go_simp; rfl)); (go_simp; refine hK _ ?_; clear hK K)) | (refine ite_no (by decide) ?_; go_simp; refine hK _ ?_; clear hK K))
      refine HWalk.mark ?_
      go_wp2_with (at_builtin; refine Hid.out ?_)
      refine Lib.hid (Lib.wpList_append_run _ rfl _ _ _ _ rfl _ _ rfl rfl _ _ (R1.out _) ?_)
      go_wp2_with fail
      refine ⟨B2.out, ?_⟩
      repeat (refine HWalk.step (fun K hK => ?_); first | (apply held_yes; (focus rfl); (focus (intro w' hw; obtain ⟨hc', hf'⟩ := below_cells hw; go_simp; rfl)); (go_simp; refine hK _ ?_; clear hK K)) | (refine ite_no (by decide) ?_; go_simp; refine hK _ ?_; clear hK K))
      refine HWalk.mark ?_
      go_wp2_with (at_builtin; refine Hid.out ?_)
      refine Lib.hid (Lib.wpList_append_run _ rfl _ _ _ _ rfl _ _ rfl rfl _ _ (RR2.out _) ?_)
      go_wp2_with fail
      refine ⟨B3'.out, ?_⟩
      repeat (refine HWalk.step (fun K hK => ?_); first | (apply held_yes; (focus rfl); (focus (intro w' hw; obtain ⟨hc', hf'⟩ := below_cells hw; go_simp; rfl)); (go_simp; refine hK _ ?_; clear hK K)) | (refine ite_no (by decide) ?_; go_simp; refine hK _ ?_; clear hK K))
      refine HWalk.done ?_
      go_wp2_with fail
      go_ret2
      exact HH.out
    · by_cases hcap : c = k + m
      · have hz1 : (k : Int) + (m : Int) ≤ (n : Int) := by omega
        have hz3 : (0 : Int) ≤ (k : Int) + (m : Int) := by omega
        have hz4 : (n : Int) ≤ (k : Int) + (m : Int) := by omega
        have hz5 : (k : Int) ≤ (k : Int) + (m : Int) := by omega
        subst hcap
        obtain rfl : n = k + m := by omega
        obtain ⟨Ad, cd, w3, run2, H, B3⟩ := R2.out (some ⟨b, o, none⟩) 0 (HZ.out rfl _)
        rw [Nat.sub_self, Nat.add_zero] at run2 H
        have RR2 := Lib.hid run2
        have HH := Lib.hid H
        have B3' := Lib.hid B3
        clear run2 H B3
        go_enter Try.func21, Try.ntmps21
        go_wp2_with fail
        have hw6 := hi6.out
        have hw7 := hi7.out
        refine wp_region_plan [(false, 1), (false, 2), (false, 3), (false, 5), (false, 6), (false, 7), (false, 8), (false, 9), (true, 0), (true, 4), (true, 10), (false, 11), (false, 12)] (Below w.heap.size w) (by kernel_rfl) (by kernel_rfl) (S0.out) _ (by simp only [pickH, List.getElem?_toArray, List.getElem?_cons_succ, List.getElem?_cons_zero]; rfl) ?_
        repeat (refine HWalk.step (fun K hK => ?_); first | (apply held_yes; (focus rfl); (focus (intro w' hw; obtain ⟨hc', hf'⟩ := below_cells hw; go_simp; rfl)); (go_simp; refine hK _ ?_; clear hK K)) | (refine ite_no (by decide) ?_; go_simp; refine hK _ ?_; clear hK K))
        clear hw6 hw7
        refine HWalk.mark ?_
        go_wp2_with fail
        refine ⟨((Below.refl _ w).alloc (Nat.le_refl _) (.cells #[] 2)).drew, ?_⟩
        repeat (refine HWalk.step (fun K hK => ?_); first | (apply held_yes; (focus rfl); (focus (intro w' hw; obtain ⟨hc', hf'⟩ := below_cells hw; go_simp; rfl)); (go_simp; refine hK _ ?_; clear hK K)) | (refine ite_no (by decide) ?_; go_simp; refine hK _ ?_; clear hK K))
        refine HWalk.mark ?_
        go_wp2_with (at_builtin; refine Hid.out ?_)
        refine Lib.hid (Lib.wpList_append_run _ rfl _ _ _ _ rfl _ _ rfl rfl _ _ (R1.out _) ?_)
        go_wp2_with fail
        refine ⟨B2.out, ?_⟩
        repeat (refine HWalk.step (fun K hK => ?_); first | (apply held_yes; (focus rfl); (focus (intro w' hw; obtain ⟨hc', hf'⟩ := below_cells hw; go_simp; rfl)); (go_simp; refine hK _ ?_; clear hK K)) | (refine ite_no (by decide) ?_; go_simp; refine hK _ ?_; clear hK K))
        refine HWalk.mark ?_
        go_wp2_with (at_builtin; refine Hid.out ?_)
        refine Lib.hid (Lib.wpList_append_run _ rfl _ _ _ _ rfl _ _ rfl rfl _ _ (RR2.out _) ?_)
        go_wp2_with fail
        refine ⟨B3'.out, ?_⟩
        repeat (refine HWalk.step (fun K hK => ?_); first | (apply held_yes; (focus rfl); (focus (intro w' hw; obtain ⟨hc', hf'⟩ := below_cells hw; go_simp; rfl)); (go_simp; refine hK _ ?_; clear hK K)) | (refine ite_no (by decide) ?_; go_simp; refine hK _ ?_; clear hK K))
        refine HWalk.done ?_
        go_wp2_with fail
        go_ret2
        exact HH.out
      · have hcn : ¬ (c : Int) = (k : Int) + (m : Int) := by omega
        have hz1 : (k : Int) + (m : Int) ≤ (n : Int) := by omega
        have hz2 : (n : Int) ≤ (c : Int) := by omega
        have hz3 : (0 : Int) ≤ (k : Int) + (m : Int) := by omega
        obtain ⟨Ad, cd, w3, run2, H, B3⟩ := R2.out (some ⟨b, o + (k + m), none⟩) (c - (k + m)) (HD.out b o rfl)
        have RR2 := Lib.hid run2
        have HH := Lib.hid H
        have B3' := Lib.hid B3
        clear run2 H B3
        go_enter Try.func21, Try.ntmps21
        go_wp2_with fail
        have hw6 := hi6.out
        have hw7 := hi7.out
        refine wp_region_plan [(false, 1), (false, 2), (false, 3), (false, 5), (false, 6), (false, 7), (false, 8), (false, 9), (true, 0), (true, 4), (true, 10), (false, 11), (false, 12)] (Below w.heap.size w) (by kernel_rfl) (by kernel_rfl) (S0.out) _ (by simp only [pickH, List.getElem?_toArray, List.getElem?_cons_succ, List.getElem?_cons_zero]; rfl) ?_
        repeat (refine HWalk.step (fun K hK => ?_); first | (apply held_yes; (focus rfl); (focus (intro w' hw; obtain ⟨hc', hf'⟩ := below_cells hw; go_simp; rfl)); (go_simp; refine hK _ ?_; clear hK K)) | (refine ite_no (by decide) ?_; go_simp; refine hK _ ?_; clear hK K))
        clear hw6 hw7
        refine HWalk.mark ?_
        go_wp2_with fail
        refine ⟨((Below.refl _ w).alloc (Nat.le_refl _) (.cells #[] 2)).drew, ?_⟩
        repeat (refine HWalk.step (fun K hK => ?_); first | (apply held_yes; (focus rfl); (focus (intro w' hw; obtain ⟨hc', hf'⟩ := below_cells hw; go_simp; rfl)); (go_simp; refine hK _ ?_; clear hK K)) | (refine ite_no (by decide) ?_; go_simp; refine hK _ ?_; clear hK K))
        refine HWalk.mark ?_
        go_wp2_with (at_builtin; refine Hid.out ?_)
        refine Lib.hid (Lib.wpList_append_run _ rfl _ _ _ _ rfl _ _ rfl rfl _ _ (R1.out _) ?_)
        go_wp2_with fail
        refine ⟨B2.out, ?_⟩
        repeat (refine HWalk.step (fun K hK => ?_); first | (apply held_yes; (focus rfl); (focus (intro w' hw; obtain ⟨hc', hf'⟩ := below_cells hw; go_simp; rfl)); (go_simp; refine hK _ ?_; clear hK K)) | (refine ite_no (by decide) ?_; go_simp; refine hK _ ?_; clear hK K))
        refine HWalk.mark ?_
        go_wp2_with (at_builtin; refine Hid.out ?_)
        refine Lib.hid (Lib.wpList_append_run _ rfl _ _ _ _ rfl _ _ rfl rfl _ _ (RR2.out _) ?_)
        go_wp2_with fail
        refine ⟨B3'.out, ?_⟩
        repeat (refine HWalk.step (fun K hK => ?_); first | (apply held_yes; (focus rfl); (focus (intro w' hw; obtain ⟨hc', hf'⟩ := below_cells hw; go_simp; rfl)); (go_simp; refine hK _ ?_; clear hK K)) | (refine ite_no (by decide) ?_; go_simp; refine hK _ ?_; clear hK K))
        refine HWalk.done ?_
        go_wp2_with fail
        go_ret2
        exact HH.out
end Go.Proofs.Ytafgdknfhchnpaa

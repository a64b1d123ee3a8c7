/-
  The reference of layer 2: Set, in lists; the steps of layer 5's law, opened.
-/
import Derived.Test.YtafgdknfhchnpaaRopLS
import Derived.Test.YtafgdknfhchnpaaRopL
import Derived.Test.YtafgdknfhchnpaaRopOpen
import Derived.BigQuiet
namespace Go.Proofs.Ytafgdknfhchnpaa
open Go.RowKit
set_option linter.unusedVariables false
set_option linter.unusedSimpArgs false

theorem lf_cons {x : Int} {L : List Int} (j : Nat) : lf (x :: L) j = if j = 0 then x else lf L (j - 1) := by
  unfold lf
  cases j with
  | zero => rfl
  | succ j => rfl
theorem lf_rset {L : List Int} {k : Nat} (h : k < L.length) (v : Int) (j : Nat) : lf (rsetL L k v) j = if j = k then v else lf L j := by
  unfold rsetL
  rw [lf_app, List.length_take, Nat.min_eq_left (by omega)]
  by_cases c : j < k
  · rw [if_pos c, if_neg (by omega), lf_take c]
  · rw [if_neg c, lf_cons, lf_drop]
    by_cases d : j = k
    · rw [if_pos (by omega), if_pos d]
    · rw [if_neg (by omega), if_neg d]
      congr 1; omega

set_option maxRecDepth 100000 in
set_option maxHeartbeats 1600000 in
theorem refSetL_any (w : World) (A : Option Addr) (c : Nat) (L : List Int) (hs : SeesL w w.heap.size A L) (hnc : L.length ≤ c) (hc : c ≤ maxLen) (sf : SF A c) (ok : LOk L) (i s : Int) :
    Calls Try.prog 25 #[.slice A L.length c, .int .i64 i, .int .i64 s] w (LPost w (if rsetErr L i s = 0 then rsetL L i.toNat s else L) (rsetErr L i s)) := by
  have E : Hid (∀ W, Below w.heap.size w W → ∀ x : Int, LPost w L x (.returned (.tuple #[.slice A L.length c, .int .i64 x])) W) := fun W hb x => ⟨A, c, rfl, (hs.below hb).more hb.size, hb, hnc, hc, sf⟩
  have hl := ok.len
  by_cases c0 : i < 0 ∨ (L.length : Int) ≤ i
  · have e1 : rsetErr L i s = 4 := by unfold rsetErr; rw [if_pos c0]
    rw [e1, if_neg (by decide)]
    obtain ⟨n, en⟩ : ∃ n, n = L.length := ⟨_, rfl⟩
    rw [← en] at E c0 hl ⊢
    clear e1 hs ok hnc en
    by_cases c1 : i < 0
    · clear c0
      go_enter Try.func25, Try.ntmps25
      go_wp2_with fail
      go_ret2
      exact E.out w (Below.refl _ _) 4
    · have c2 : (n : Int) ≤ i := by omega
      clear c0
      go_enter Try.func25, Try.ntmps25
      go_wp2_with fail
      go_ret2
      exact E.out w (Below.refl _ _) 4
  obtain ⟨k, rfl⟩ : ∃ k : Nat, i = (k : Int) := ⟨i.toNat, by omega⟩
  have hk : k < L.length := by omega
  by_cases d0 : s < 0 ∨ 2305843009213693952 < s
  · have e1 : rsetErr L k s = 12 := by unfold rsetErr; rw [if_neg c0, if_pos d0]
    rw [e1, if_neg (by decide)]
    obtain ⟨n, en⟩ : ∃ n, n = L.length := ⟨_, rfl⟩
    rw [← en] at E hk hl ⊢
    clear e1 hs ok hnc en c0
    by_cases d1 : s < 0
    · clear d0
      go_enter Try.func25, Try.ntmps25
      go_wp2_with fail
      go_ret2
      exact E.out w (Below.refl _ _) 12
    · have d2 : 2305843009213693952 < s := by omega
      clear d0
      go_enter Try.func25, Try.ntmps25
      go_wp2_with fail
      go_ret2
      exact E.out w (Below.refl _ _) 12
  obtain ⟨o1, o1'⟩ := ok.lf_bd k hk
  have t0 := ok.sum0
  have t1 := ok.top
  have o2 := lf_le_sum ok k hk
  obtain ⟨A', c', w2, run, O, hb, hcm⟩ := clone_L w (c := c) hs (Nat.le_refl _) (by omega)
  obtain ⟨g, hA, hg1, hg2, hcells, hfz⟩ := O.at_ (by omega)
  subst hA
  have O2 := Lib.hid (O.set k (.int .i64 s))
  have gc := hcells k (by have := O.le; omega)
  have gf := hfz k
  rw [i64s_at] at gc
  have S2 : SeesL (w2.setCell ⟨g, k, none⟩ (.int .i64 s)) w.heap.size A L := hs.below (hb.setCell (p := ⟨g, k, none⟩) hg1 _)
  have HB3 := Lib.hid (hb.setCell (p := ⟨g, k, none⟩) hg1 (.int .i64 s))
  have HSum : Hid (∀ q, Calls Try.prog 35 #[.slice A L.length c, .int .i64 L.length] ((w2.setCell ⟨g, k, none⟩ (.int .i64 s)).drewN q) fun e w' => e = .returned (.int .i64 L.sum) ∧ ((w2.setCell ⟨g, k, none⟩ (.int .i64 s)).drewN q) = w') := fun q => by
    have := sumL_any A c L.length L _ _ (Sees.drawn S2 ⟨q, rfl⟩) ok (Nat.le_refl _)
    rwa [psum_lf_all] at this
  obtain ⟨b, o, hAA, hb', hcell⟩ := S2 (by omega)
  have hcell := hcell k hk
  rw [i64s_at] at hcell
  subst hAA
  have hcellN : ∀ q, ((w2.setCell ⟨g, k, none⟩ (.int .i64 s)).drewN q).cell? ⟨b, o + k, none⟩ = some (.int .i64 (lf L k)) := fun _ => hcell
  have e3 : (4611686018427387904 < L.sum - lf L k + s) → Hid (rsetErr L k s = 13) := fun h => (by show rsetErr L k s = 13; unfold rsetErr; rw [if_neg c0, if_neg d0, Int.toNat_natCast, if_pos (by omega)])
  have e4 : ¬ (4611686018427387904 < L.sum - lf L k + s) → Hid (rsetErr L k s = 0) := fun h => (by show rsetErr L k s = 0; unfold rsetErr; rw [if_neg c0, if_neg d0, Int.toNat_natCast, if_neg (by omega)])
  have R := Lib.hid run
  have hki : (k : Int) < (L.length : Int) := by omega
  have E2 : Hid (∀ q, LPost w L 13 (.returned (.tuple #[.slice (some ⟨b, o, none⟩) L.length c, .int .i64 13])) ((w2.setCell ⟨g, k, none⟩ (.int .i64 s)).drewN q)) := fun q => E.out _ (below_drawn HB3.out ⟨q, rfl⟩) 13
  have W0 : Hid (∀ q, LPost w (rsetL L k s) 0 (.returned (.tuple #[.slice (some ⟨g, 0, none⟩) L.length c', .int .i64 0])) ((w2.setCell ⟨g, k, none⟩ (.int .i64 s)).drewN q)) := fun q => by
    have hO : Own (w2.setCell ⟨g, k, none⟩ (.int .i64 s)) w.heap.size 2 1 (rsetL L k s).length c' (some ⟨g, 0, none⟩) (i64s (lf (rsetL L k s))) := by
      rw [rset_len hk]
      refine O2.out.congr fun j hj => ?_
      rw [show i64s (lf (rsetL L k s)) j = .int .i64 (lf (rsetL L k s) j) from rfl, lf_rset hk]
      show (if j = k then Value.int .i64 s else .int .i64 (lf L j)) = _
      split <;> rfl
    exact ⟨_, _, by rw [rset_len hk], Sees.drawn hO.seesL ⟨q, rfl⟩, below_drawn HB3.out ⟨q, rfl⟩, hO.le, hcm, .inr ⟨g, 0, rfl⟩⟩
  obtain ⟨v, hv⟩ : ∃ v, v = lf L k := ⟨_, rfl⟩
  obtain ⟨t, ht⟩ : ∃ t, t = L.sum := ⟨_, rfl⟩
  obtain ⟨x, hx⟩ : ∃ x, x = rsetErr L k s := ⟨_, rfl⟩
  have hd1 : ¬ s < 0 := by omega
  have hd2 : ¬ 2305843009213693952 < s := by omega
  rw [← hx] at e3 e4 ⊢
  rw [← ht] at HSum t0 t1 o2 e3 e4
  rw [← hv] at hcellN o1 o1' o2 e3 e4 hcell
  rw [Int.toNat_natCast]
  obtain ⟨n, en⟩ : ∃ n, n = L.length := ⟨_, rfl⟩
  rw [← en] at R HSum hki hl E2 W0 ⊢
  clear hs run O hcells hfz S2 ht hv ok c0 hx d0 E hk en hnc sf
  by_cases d3 : 4611686018427387904 < t - v + s
  · have E3 := e3 d3
    have hne : ¬ x = 0 := by rw [E3.out]; decide
    rw [if_neg hne, E3.out]
    have d4 : 4611686018427387904 - s < t - v := by omega
    clear e3 e4 W0 hne
    go_enter Try.func25, Try.ntmps25
    go_wp2_with (at_builtin; refine Hid.out ?_)
    refine Lib.hid (Lib.wpList_append_run _ rfl _ _ _ _ rfl _ _ rfl rfl _ _ (R.out _) ?_)
    go_wp2_with fail
    go_quiet ((exact quiet_left' (HSum.out _)))
    go_wp2_with fail
    go_ret2
    exact E2.out _
  · have E4 := e4 d3
    have d4 : ¬ 4611686018427387904 - s < t - v := by omega
    rw [if_pos E4.out, E4.out]
    clear e3 e4 E2
    go_enter Try.func25, Try.ntmps25
    go_wp2_with (at_builtin; refine Hid.out ?_)
    refine Lib.hid (Lib.wpList_append_run _ rfl _ _ _ _ rfl _ _ rfl rfl _ _ (R.out _) ?_)
    go_wp2_with fail
    go_quiet ((exact quiet_left' (HSum.out _)))
    go_wp2_with fail
    go_ret2
    exact W0.out _
end Go.Proofs.Ytafgdknfhchnpaa

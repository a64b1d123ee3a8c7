/-
  Contracts of package ropes, sixth: grown, Of, and the methods that only look at the root.
-/
import Derived.Test.YtngbaiijdgmpoaaRopE
import Derived.IntWalk
namespace Go.Proofs.Ytngbaiijdgmpoaa
open Go.RowKit
set_option linter.unusedVariables false
set_option linter.unusedSimpArgs false

theorem toL_split (l : Nat → Int) (n m : Nat) (h : m < n) : toL l n = toL l m ++ l m :: toL (fun j => l (m + 1 + j)) (n - (m + 1)) := by
  apply List.ext_getElem
  · simp [toL]; omega
  · intro i h1 h2
    simp only [toL, List.length_map, List.length_range] at h1
    rw [List.getElem_append]
    simp only [toL, List.length_map, List.length_range, List.getElem_map, List.getElem_range]
    by_cases c : i < m
    · rw [dif_pos c]
    · rw [dif_neg c]
      by_cases d : i = m
      · subst d; simp
      · obtain ⟨k, rfl⟩ : ∃ k, i = m + 1 + k := ⟨i - m - 1, by omega⟩
        simp only [show m + 1 + k - m = k + 1 from by omega, List.getElem_cons_succ, List.getElem_map, List.getElem_range]
theorem Sees.sub {w : World} {B n : Nat} {b o : Nat} {f : Nat → Value} (h : Sees w B (some ⟨b, o, none⟩) n f) {k : Nat} (hk : k ≤ n) : Sees w B (some ⟨b, o + k, none⟩) (n - k) (fun j => f (k + j)) := by
  intro hn
  obtain ⟨b', o', e, hb, hc⟩ := h (by omega)
  injection e with e; injection e with e1 e2
  subst e1 e2
  exact ⟨b, o + k, rfl, hb, fun j hj => by rw [Nat.add_assoc]; exact hc (k + j) (by omega)⟩
theorem Sees.first {w : World} {B n : Nat} {A : Option Addr} {f : Nat → Value} (h : Sees w B A n f) {k : Nat} (hk : k ≤ n) : Sees w B A k f := by
  intro hn
  obtain ⟨b', o', e, hb, hc⟩ := h (by omega)
  exact ⟨b', o', e, hb, fun j hj => hc j (by omega)⟩

/-- What grown leaves. -/
def GrownPost (w : World) (L : List Int) (e : Ending) (w' : World) : Prop := ∃ a t, e = .returned (.pointer a) ∧ Tr w' a t ∧ t.Bal ∧ t.l = L ∧ 2 ^ t.ht ≤ 2 * L.length + 1 ∧ Below w.heap.size w w'

theorem pow_half {h : Nat} {m : Nat} (h1 : 2 ^ h ≤ 2 * m + 1) (h0 : 0 < h) : 2 ^ h ≤ 2 * m := by
  obtain ⟨k, rfl⟩ : ∃ k, h = k + 1 := ⟨h - 1, by omega⟩
  rw [Nat.pow_succ] at h1 ⊢
  omega
theorem pow_cmp {a b : Nat} (h : 2 ^ a < 2 * 2 ^ b) : a ≤ b := by
  rcases Nat.lt_or_ge b a with c | c
  · have := Nat.pow_le_pow_right (show 0 < 2 by decide) (show b + 1 ≤ a from c)
    rw [Nat.pow_succ] at this
    omega
  · exact c

set_option maxRecDepth 100000 in
set_option maxHeartbeats 1600000 in
theorem grown_any : ∀ (n : Nat) (w : World) (A : Option Addr) (c : Nat) (l : Nat → Int) (B : Nat), Sees w B A n (i64s l) → B ≤ w.heap.size → n ≤ c → c ≤ maxLen → n ≤ 8192 → LOk (toL l n) →
    Calls Try.prog 67 #[.slice A n c] w (GrownPost w (toL l n)) := by
  intro n
  induction n using Nat.strongRecOn with
  | ind n ih =>
    intro w A c l B hs hB hnc hc hn ok
    by_cases n0 : n = 0
    · subst n0
      have H : Hid (GrownPost w (toL l 0) (.returned (.pointer none)) w) := ⟨none, .nil, rfl, rfl, trivial, rfl, (by show 1 ≤ 1; decide), Below.refl _ _⟩
      go_enter Try.func67, Try.ntmps67
      go_wp2_with fail
      go_ret
      exact H.out
    obtain ⟨b, o, rfl, hb, hcell⟩ := hs (by omega)
    have hne : ((n : Int) == 0) = false := by simp; omega
    unfold maxLen at hc
    obtain ⟨m, hm⟩ : ∃ m, m = n / 2 := ⟨_, rfl⟩
    have hmi : (n : Int) / 2 = (m : Int) := by omega
    have hmn : m < n := by omega
    have hx := hcell m hmn
    rw [i64s_at] at hx
    have hbw : b < w.heap.size := by omega
    have EL := Lib.hid (toL_split l n m hmn)
    have S1 : Hid (Below w.heap.size w w.drew) := (Below.refl _ _).drew
    have ok2 : LOk (toL l m ++ l m :: toL (fun j => l (m + 1 + j)) (n - (m + 1))) := by rw [← EL.out]; exact ok
    have K1 : Hid (∀ W c', Below w.heap.size w W → m ≤ c' → c' ≤ maxLen → Calls Try.prog 67 #[.slice (some ⟨b, o, none⟩) m c'] W (GrownPost W (toL l m))) := fun W c' hbW hc1 hc2 =>
      ih m hmn W _ c' l B ((hs.first (by omega)).below (hbW.mono hB)) (by have := hbW.size; omega) hc1 hc2 (by omega) ok2.left
    have hki : (m : Int) < (n : Int) := by omega
    have hk0 : (0 : Int) ≤ (m : Int) := by omega
    have hi1 : (m : Int) ≤ (c : Int) := by omega
    have hi2 : (m : Int) + 1 ≤ (n : Int) := by omega
    have hi3 : (n : Int) ≤ (c : Int) := by omega
    have hi4 : (0 : Int) ≤ (m : Int) + 1 := by omega
    have hi5 : (m : Int) ≤ 8192 := by omega
    have hi6 : IntKind.i64.wrap ((m : Int) + 1) = (m : Int) + 1 := IntWalk.i64_in _ (by omega)
    have hi7 : ((m : Int) + 1).toNat = m + 1 := by omega
    have K2 : Hid (∀ W A' c', Below w.heap.size w W → (0 < n - (m + 1) → A' = some ⟨b, o + (m + 1), none⟩) → n - (m + 1) ≤ c' → c' ≤ maxLen → Calls Try.prog 67 #[.slice A' (n - (m + 1)) c'] W (GrownPost W (toL (fun j => l (m + 1 + j)) (n - (m + 1))))) := fun W A' c' hbW hA' hc' hm' =>
      ih (n - (m + 1)) (by omega) W A' c' _ B (fun h0 => by rw [hA' h0]; exact ((hs.sub (show m + 1 ≤ n by omega)).below (hbW.mono hB)) (by omega)) (by have := hbW.size; omega) hc' hm' (by omega) ok2.right.tail
    have K3 : Hid (∀ W a1 a2 t1 t2, Tr W a1 t1 → Tr W a2 t2 → t1.l = toL l m → t2.l = toL (fun j => l (m + 1 + j)) (n - (m + 1)) → Calls Try.prog 74 #[.pointer a1, .int .i64 (l m), .pointer a2] W (TrPost W (.node t1 (l m) t2))) := fun W a1 a2 t1 t2 h1 h2 e1 e2 => over_any W a1 a2 t1 t2 (l m) h1 h2 (by rw [T.l_node, e1, e2]; exact ok2)
    have KF : Hid (∀ t1 t2 : T, t1.Bal → t2.Bal → t1.l = toL l m → t2.l = toL (fun j => l (m + 1 + j)) (n - (m + 1)) → 2 ^ t1.ht ≤ 2 * (toL l m).length + 1 → 2 ^ t2.ht ≤ 2 * (toL (fun j => l (m + 1 + j)) (n - (m + 1))).length + 1 → (T.node t1 (l m) t2).Bal ∧ (T.node t1 (l m) t2).l = toL l n ∧ 2 ^ (T.node t1 (l m) t2).ht ≤ 2 * (toL l n).length + 1) := by
      intro t1 t2 b1 b2 e1 e2 p1 p2
      have g1 := t1.len_lt
      have g2 := t2.len_lt
      rw [e1] at g1
      rw [e2] at g2
      rw [toL_length] at g1 g2 p1 p2
      have f1 : t2.ht ≤ t1.ht := pow_cmp (by omega)
      have f2 : t1.ht ≤ t2.ht + 1 := pow_cmp (by rw [Nat.pow_succ]; omega)
      refine ⟨⟨b1, b2, by omega, by omega⟩, by rw [T.l_node, e1, e2, EL.out], ?_⟩
      rw [T.ht_node, Nat.max_eq_left f1, Nat.pow_succ, toL_length]
      by_cases z : t1.ht = 0
      · rw [z]; omega
      · have := pow_half p1 (by omega); omega
    clear ih hs hm EL ok ok2 hcell hb
    by_cases hcap : c = m + 1
    · have hcn : (c : Int) = (m : Int) + 1 := by omega
      have hz1 : (m : Int) ≤ (m : Int) + 1 := by omega
      have hz2 : (n : Int) ≤ (m : Int) + 1 := by omega
      have hz3 : n - (m + 1) ≤ 0 := by omega
      go_enter Try.func67, Try.ntmps67
      go_wp2_with fail
      refine wp_region_plan [(false, 0), (false, 1), (false, 2), (false, 4), (false, 5), (false, 6), (false, 7), (false, 8), (false, 9), (false, 10), (false, 11), (true, 3), (true, 12), (true, 13), (false, 14)] (Below w.heap.size w) (by kernel_rfl) (by kernel_rfl) (S1.out) _ (by simp only [pickH, List.getElem?_toArray, List.getElem?_cons_succ, List.getElem?_cons_zero]; rfl) ?_
      repeat (refine HWalk.step (fun K hK => ?_); first | (apply held_yes; (focus rfl); (focus (intro w' hw; obtain ⟨hc', hf'⟩ := below_cells hw; go_simp; rfl)); (go_simp; refine hK _ ?_; clear hK K)) | (refine ite_no (by decide) ?_; go_simp; refine hK _ ?_; clear hK K))
      refine HWalk.mark ?_
      go_wp2_with fail
      refine (K1.out _ _ S1.out (by omega) (by unfold maxLen; omega)).mono ?_
      rintro e w1 ⟨a1, t1, rfl, p1, p2, p3, p4, p5⟩
      have B1 := Lib.hid (S1.out.trans (p5.mono S1.out.size))
      have P1 := Lib.hid (And.intro p1 (And.intro p2 (And.intro p3 p4)))
      clear p1 p2 p3 p4 p5
      go_wp2_with fail
      refine ⟨B1.out, ?_⟩
      repeat (refine HWalk.step (fun K hK => ?_); first | (apply held_yes; (focus rfl); (focus (intro w' hw; obtain ⟨hc', hf'⟩ := below_cells hw; go_simp; rfl)); (go_simp; refine hK _ ?_; clear hK K)) | (refine ite_no (by decide) ?_; go_simp; refine hK _ ?_; clear hK K))
      refine HWalk.mark ?_
      go_wp2_with fail
      refine (K2.out _ _ _ B1.out (fun h => absurd h (by omega)) (by omega) (by unfold maxLen; omega)).mono ?_
      rintro e w2 ⟨a2, t2, rfl, p1, p2, p3, p4, p5⟩
      have B2 := Lib.hid (B1.out.trans (p5.mono B1.out.size))
      have HO := Lib.hid (K3.out w2 a1 a2 t1 t2 (P1.out.1.below p5) p1 P1.out.2.2.1 p3)
      have HT := Lib.hid (KF.out t1 t2 P1.out.2.1 p2 P1.out.2.2.1 p3 P1.out.2.2.2 p4)
      clear p1 p2 p3 p4 p5
      go_wp2_with fail
      refine ⟨B2.out, ?_⟩
      repeat (refine HWalk.step (fun K hK => ?_); first | (apply held_yes; (focus rfl); (focus (intro w' hw; obtain ⟨hc', hf'⟩ := below_cells hw; go_simp; rfl)); (go_simp; refine hK _ ?_; clear hK K)) | (refine ite_no (by decide) ?_; go_simp; refine hK _ ?_; clear hK K))
      refine HWalk.mark ?_
      go_wp2_with fail
      refine (HO.out).mono ?_
      rintro e w3 ⟨a3, rfl, p1, p2⟩
      have B3 := Lib.hid (B2.out.trans (p2.mono B2.out.size))
      have H : Hid (GrownPost w (toL l n) (.returned (.pointer a3)) w3) := ⟨a3, _, rfl, p1, HT.out.1, HT.out.2.1, HT.out.2.2, B3.out⟩
      clear p1 p2
      go_wp2_with fail
      refine ⟨B3.out, ?_⟩
      repeat (refine HWalk.step (fun K hK => ?_); first | (apply held_yes; (focus rfl); (focus (intro w' hw; obtain ⟨hc', hf'⟩ := below_cells hw; go_simp; rfl)); (go_simp; refine hK _ ?_; clear hK K)) | (refine ite_no (by decide) ?_; go_simp; refine hK _ ?_; clear hK K))
      refine HWalk.done ?_
      go_wp2_with fail
      go_ret
      exact H.out
    · have hcn : ¬ (c : Int) = (m : Int) + 1 := by omega
      go_enter Try.func67, Try.ntmps67
      go_wp2_with fail
      refine wp_region_plan [(false, 0), (false, 1), (false, 2), (false, 4), (false, 5), (false, 6), (false, 7), (false, 8), (false, 9), (false, 10), (false, 11), (true, 3), (true, 12), (true, 13), (false, 14)] (Below w.heap.size w) (by kernel_rfl) (by kernel_rfl) (S1.out) _ (by simp only [pickH, List.getElem?_toArray, List.getElem?_cons_succ, List.getElem?_cons_zero]; rfl) ?_
      repeat (refine HWalk.step (fun K hK => ?_); first | (apply held_yes; (focus rfl); (focus (intro w' hw; obtain ⟨hc', hf'⟩ := below_cells hw; go_simp; rfl)); (go_simp; refine hK _ ?_; clear hK K)) | (refine ite_no (by decide) ?_; go_simp; refine hK _ ?_; clear hK K))
      refine HWalk.mark ?_
      go_wp2_with fail
      refine (K1.out _ _ S1.out (by omega) (by unfold maxLen; omega)).mono ?_
      rintro e w1 ⟨a1, t1, rfl, p1, p2, p3, p4, p5⟩
      have B1 := Lib.hid (S1.out.trans (p5.mono S1.out.size))
      have P1 := Lib.hid (And.intro p1 (And.intro p2 (And.intro p3 p4)))
      clear p1 p2 p3 p4 p5
      go_wp2_with fail
      refine ⟨B1.out, ?_⟩
      repeat (refine HWalk.step (fun K hK => ?_); first | (apply held_yes; (focus rfl); (focus (intro w' hw; obtain ⟨hc', hf'⟩ := below_cells hw; go_simp; rfl)); (go_simp; refine hK _ ?_; clear hK K)) | (refine ite_no (by decide) ?_; go_simp; refine hK _ ?_; clear hK K))
      refine HWalk.mark ?_
      go_wp2_with fail
      refine (K2.out _ _ _ B1.out (fun _ => rfl) (by omega) (by unfold maxLen; omega)).mono ?_
      rintro e w2 ⟨a2, t2, rfl, p1, p2, p3, p4, p5⟩
      have B2 := Lib.hid (B1.out.trans (p5.mono B1.out.size))
      have HO := Lib.hid (K3.out w2 a1 a2 t1 t2 (P1.out.1.below p5) p1 P1.out.2.2.1 p3)
      have HT := Lib.hid (KF.out t1 t2 P1.out.2.1 p2 P1.out.2.2.1 p3 P1.out.2.2.2 p4)
      clear p1 p2 p3 p4 p5
      go_wp2_with fail
      refine ⟨B2.out, ?_⟩
      repeat (refine HWalk.step (fun K hK => ?_); first | (apply held_yes; (focus rfl); (focus (intro w' hw; obtain ⟨hc', hf'⟩ := below_cells hw; go_simp; rfl)); (go_simp; refine hK _ ?_; clear hK K)) | (refine ite_no (by decide) ?_; go_simp; refine hK _ ?_; clear hK K))
      refine HWalk.mark ?_
      go_wp2_with fail
      refine (HO.out).mono ?_
      rintro e w3 ⟨a3, rfl, p1, p2⟩
      have B3 := Lib.hid (B2.out.trans (p2.mono B2.out.size))
      have H : Hid (GrownPost w (toL l n) (.returned (.pointer a3)) w3) := ⟨a3, _, rfl, p1, HT.out.1, HT.out.2.1, HT.out.2.2, B3.out⟩
      clear p1 p2
      go_wp2_with fail
      refine ⟨B3.out, ?_⟩
      repeat (refine HWalk.step (fun K hK => ?_); first | (apply held_yes; (focus rfl); (focus (intro w' hw; obtain ⟨hc', hf'⟩ := below_cells hw; go_simp; rfl)); (go_simp; refine hK _ ?_; clear hK K)) | (refine ite_no (by decide) ?_; go_simp; refine hK _ ?_; clear hK K))
      refine HWalk.done ?_
      go_wp2_with fail
      go_ret
      exact H.out
end Go.Proofs.Ytngbaiijdgmpoaa

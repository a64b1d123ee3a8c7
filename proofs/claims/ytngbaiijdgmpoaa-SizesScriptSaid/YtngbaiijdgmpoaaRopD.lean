/-
  Contracts of package ropes, fourth: joined.
-/
import Derived.Test.YtngbaiijdgmpoaaRopC
namespace Go.Proofs.Ytngbaiijdgmpoaa
open Go.RowKit
set_option linter.unusedVariables false
set_option linter.unusedSimpArgs false

/-- What balanced leaves, of two trees whose heights differ by at most 2. -/
theorem bal_join {w w' : World} {l r : T} {s : Int} {e : Ending} {h : Nat} (bl : l.Bal) (br : r.Bal) (hp : BalPost w (l.l ++ s :: r.l) (max l.ht r.ht) e w' ∧ (l.ht ≤ r.ht + 1 → r.ht ≤ l.ht + 1 → ∃ a, e = .returned (.pointer a) ∧ Tr w' a (.node l s r)))
    (h1 : h ≤ max l.ht r.ht + 1) (h2 : max l.ht r.ht ≤ h) (h3 : l.ht ≤ r.ht + 1 ∧ r.ht ≤ l.ht + 1 ∨ h ≤ max l.ht r.ht) : BalPost w (l.l ++ s :: r.l) h e w' := by
  by_cases c : l.ht ≤ r.ht + 1 ∧ r.ht ≤ l.ht + 1
  · obtain ⟨a, rfl, ht⟩ := hp.2 c.1 c.2
    obtain ⟨_, _, _, _, _, _, _, _, hb⟩ := hp.1
    exact ⟨a, _, rfl, ht, ⟨bl, br, c.1, c.2⟩, rfl, by rw [T.ht_node]; omega, by rw [T.ht_node]; omega, hb⟩
  · obtain ⟨a, t, q1, q2, q3, q4, q5, q6, q7⟩ := hp.1
    exact ⟨a, t, q1, q2, q3, q4, by omega, by omega, q7⟩

set_option maxRecDepth 100000 in
set_option maxHeartbeats 1600000 in
theorem joined_any : ∀ (n : Nat) (l r : T), l.ht + r.ht ≤ n → ∀ (w : World) (al ar : Option Addr) (s : Int), Tr w al l → Tr w ar r → l.Bal → r.Bal → LOk (l.l ++ s :: r.l) →
    Calls Try.prog 63 #[.pointer al, .int .i64 s, .pointer ar] w (BalPost w (l.l ++ s :: r.l) (max l.ht r.ht)) := by
  intro n
  induction n with
  | zero =>
    intro l r hn w al ar s hl hr bl br ok
    have z1 : l.ht = 0 := by omega
    have z2 : r.ht = 0 := by omega
    have C1 := Lib.hid (tall_any w al l hl)
    have C2 := Lib.hid (tall_any w ar r hr)
    have KO := Lib.hid (over_any w al ar l r s hl hr ok)
    have HB : Hid ((T.node l s r).Bal ∧ (T.node l s r).ht = max l.ht r.ht + 1) := ⟨⟨bl, br, by omega, by omega⟩, rfl⟩
    rw [z1] at C1
    rw [z2] at C2
    clear hl hr bl br ok hn z1 z2
    go_enter Try.func63, Try.ntmps63
    go_wp2_with fail
    refine (C1.out).mono ?_
    rintro e w' ⟨rfl, rfl⟩
    go_wp2_with fail
    refine (C2.out).mono ?_
    rintro e w' ⟨rfl, rfl⟩
    go_wp2_with fail
    refine (C2.out).mono ?_
    rintro e w' ⟨rfl, rfl⟩
    go_wp2_with fail
    refine (C1.out).mono ?_
    rintro e w' ⟨rfl, rfl⟩
    go_wp2_with fail
    refine (KO.out).mono ?_
    rintro e w1 ⟨a, rfl, q1, q2⟩
    have H : Hid (BalPost w (l.l ++ s :: r.l) (max l.ht r.ht) (.returned (.pointer a)) w1) := ⟨a, _, rfl, q1, HB.out.1, rfl, by rw [HB.out.2]; omega, by rw [HB.out.2]; omega, q2⟩
    clear q1 q2
    go_wp2_with fail
    go_ret
    exact H.out
  | succ n ih =>
    intro l r hn w al ar s hl hr bl br ok
    have C1 := Lib.hid (tall_any w al l hl)
    have C2 := Lib.hid (tall_any w ar r hr)
    have b1 : l.ht ≤ 8192 := by have := l.ht_le; have := ok.left.len; omega
    have b2 : r.ht ≤ 8192 := by have := r.ht_le; have := ok.right.tail.len; omega
    have S1 : Hid (Below w.heap.size w w.drew) := (Below.refl _ w).drew
    have IH := Lib.hid ih
    clear ih
    by_cases c1 : r.ht + 1 < l.ht
    · obtain ⟨ll, sl, lr, rfl⟩ := T.ht_pos (t := l) (by omega)
      obtain ⟨b, all, alr, rfl, hrow, h1, h2⟩ := hl
      obtain ⟨d0, d1, d2, _, _, _⟩ := ncells_of hrow
      have ltb := hrow.lt
      obtain ⟨q1, q2, q3, q4⟩ := bl
      have EL : ll.l ++ sl :: (lr.l ++ s :: r.l) = (T.node ll sl lr).l ++ s :: r.l := by simp [T.l_node]
      have ok2 : LOk (ll.l ++ sl :: (lr.l ++ s :: r.l)) := by rw [EL]; exact ok
      have hht : (T.node ll sl lr).ht = max ll.ht lr.ht + 1 := rfl
      have K1 : Hid (Calls Try.prog 63 #[.pointer alr, .int .i64 s, .pointer ar] w.drew (BalPost w.drew (lr.l ++ s :: r.l) (max lr.ht r.ht))) := IH.out lr r (by omega) w.drew alr ar s (h2.below S1.out) (hr.below S1.out) q2 br ok2.right.tail
      have K2 : Hid (∀ W a1 t1, Below w.heap.size w W → Tr W a1 t1 → t1.Bal → t1.l = lr.l ++ s :: r.l → max lr.ht r.ht ≤ t1.ht → t1.ht ≤ max lr.ht r.ht + 1 → Calls Try.prog 73 #[.pointer all, .int .i64 sl, .pointer a1] W (BalPost W ((T.node ll sl lr).l ++ s :: r.l) (max (T.node ll sl lr).ht r.ht))) := fun W a1 t1 hb ht1 bt1 el g1 g2 => by
        refine (balanced_any W all a1 ll t1 sl (h1.below hb) ht1 q1 bt1 (by rw [el]; exact ok2) (by omega) (by omega)).mono ?_
        intro e w' hp
        rw [← EL, ← el]
        exact bal_join q1 bt1 hp (by omega) (by omega) (by omega)
      obtain ⟨n1, e1⟩ : ∃ n, n = (T.node ll sl lr).ht := ⟨_, rfl⟩
      obtain ⟨n2, e2⟩ : ∃ n, n = r.ht := ⟨_, rfl⟩
      obtain ⟨L, e3⟩ : ∃ L, L = (T.node ll sl lr).l ++ s :: r.l := ⟨_, rfl⟩
      rw [← e1] at C1 b1 c1 K2 ⊢
      rw [← e2] at C2 b2 c1 K2 K1 ⊢
      rw [← e3] at K2 ⊢
      have hci : (n2 : Int) + 1 < (n1 : Int) := by omega
      clear e1 e2 e3 hht EL ok2 hrow h1 h2 hr q1 q2 q3 q4 br ok hn
      go_enter Try.func63, Try.ntmps63
      go_wp2_with fail
      refine (C1.out).mono ?_
      rintro e w' ⟨rfl, rfl⟩
      go_wp2_with fail
      refine (C2.out).mono ?_
      rintro e w' ⟨rfl, rfl⟩
      go_wp2_with fail
      refine wp_region_plan [(false, 0), (false, 1), (false, 2), (false, 3), (false, 4), (false, 5), (false, 6), (false, 7), (false, 8), (false, 9), (false, 10), (false, 11), (false, 12), (false, 13), (true, 14), (true, 15), (false, 16)] (Below w.heap.size w) (by kernel_rfl) (by kernel_rfl) (S1.out) _ (by simp only [pickH, List.getElem?_toArray, List.getElem?_cons_succ, List.getElem?_cons_zero]; rfl) ?_
      repeat (refine HWalk.step (fun K hK => ?_); first | (apply held_yes; (focus rfl); (focus (intro w' hw; obtain ⟨hc', hf'⟩ := below_cells hw; go_simp; rfl)); (go_simp; refine hK _ ?_; clear hK K)) | (refine ite_no (by decide) ?_; go_simp; refine hK _ ?_; clear hK K))
      refine HWalk.mark ?_
      go_wp2_with fail
      refine (K1.out).mono ?_
      rintro e w1 ⟨a1, t1, rfl, p1, p2, p3, p4, p5, p6⟩
      have B1 := Lib.hid (S1.out.trans (p6.mono S1.out.size))
      have HX := Lib.hid (K2.out w1 a1 t1 B1.out p1 p2 p3 p4 p5)
      clear p1 p2 p3 p4 p5 p6
      go_wp2_with fail
      refine ⟨B1.out, ?_⟩
      repeat (refine HWalk.step (fun K hK => ?_); first | (apply held_yes; (focus rfl); (focus (intro w' hw; obtain ⟨hc', hf'⟩ := below_cells hw; go_simp; rfl)); (go_simp; refine hK _ ?_; clear hK K)) | (refine ite_no (by decide) ?_; go_simp; refine hK _ ?_; clear hK K))
      refine HWalk.mark ?_
      go_wp2_with fail
      refine (HX.out).mono ?_
      rintro e w2 hp
      have HP := Lib.hid (hp.more B1.out)
      obtain ⟨a2, t2, rfl, p1, p2, p3, p4, p5, p6⟩ := hp
      have B2 := Lib.hid (B1.out.trans (p6.mono B1.out.size))
      clear p1 p2 p3 p4 p5 p6
      go_wp2_with fail
      refine ⟨B2.out, ?_⟩
      repeat (refine HWalk.step (fun K hK => ?_); first | (apply held_yes; (focus rfl); (focus (intro w' hw; obtain ⟨hc', hf'⟩ := below_cells hw; go_simp; rfl)); (go_simp; refine hK _ ?_; clear hK K)) | (refine ite_no (by decide) ?_; go_simp; refine hK _ ?_; clear hK K))
      refine HWalk.done ?_
      go_wp2_with fail
      go_ret
      exact HP.out
    by_cases c2 : l.ht + 1 < r.ht
    · obtain ⟨rl, sr, rr, rfl⟩ := T.ht_pos (t := r) (by omega)
      obtain ⟨b, arl, arr, rfl, hrow, h1, h2⟩ := hr
      obtain ⟨d0, d1, d2, _, _, _⟩ := ncells_of hrow
      have ltb := hrow.lt
      obtain ⟨q1, q2, q3, q4⟩ := br
      have EL : (l.l ++ s :: rl.l) ++ sr :: rr.l = l.l ++ s :: (T.node rl sr rr).l := by simp [T.l_node]
      have ok2 : LOk ((l.l ++ s :: rl.l) ++ sr :: rr.l) := by rw [EL]; exact ok
      have hht : (T.node rl sr rr).ht = max rl.ht rr.ht + 1 := rfl
      have K1 : Hid (Calls Try.prog 63 #[.pointer al, .int .i64 s, .pointer arl] w.drew (BalPost w.drew (l.l ++ s :: rl.l) (max l.ht rl.ht))) := IH.out l rl (by omega) w.drew al arl s (hl.below S1.out) (h1.below S1.out) bl q1 ok2.left
      have K2 : Hid (∀ W a1 t1, Below w.heap.size w W → Tr W a1 t1 → t1.Bal → t1.l = l.l ++ s :: rl.l → max l.ht rl.ht ≤ t1.ht → t1.ht ≤ max l.ht rl.ht + 1 → Calls Try.prog 73 #[.pointer a1, .int .i64 sr, .pointer arr] W (BalPost W (l.l ++ s :: (T.node rl sr rr).l) (max l.ht (T.node rl sr rr).ht))) := fun W a1 t1 hb ht1 bt1 el g1 g2 => by
        refine (balanced_any W a1 arr t1 rr sr ht1 (h2.below hb) bt1 q2 (by rw [el]; exact ok2) (by omega) (by omega)).mono ?_
        intro e w' hp
        rw [← EL, ← el]
        exact bal_join bt1 q2 hp (by omega) (by omega) (by omega)
      obtain ⟨n2, e2⟩ : ∃ n, n = (T.node rl sr rr).ht := ⟨_, rfl⟩
      obtain ⟨n1, e1⟩ : ∃ n, n = l.ht := ⟨_, rfl⟩
      obtain ⟨L, e3⟩ : ∃ L, L = l.l ++ s :: (T.node rl sr rr).l := ⟨_, rfl⟩
      rw [← e1] at C1 b1 c1 c2 K2 K1 ⊢
      rw [← e2] at C2 b2 c1 c2 K2 ⊢
      rw [← e3] at K2 ⊢
      have hci : (n1 : Int) + 1 < (n2 : Int) := by omega
      have hcj : ¬ (n2 : Int) + 1 < (n1 : Int) := by omega
      clear e1 e2 e3 hht EL ok2 hrow h1 h2 hl q1 q2 q3 q4 bl ok hn
      go_enter Try.func63, Try.ntmps63
      go_wp2_with fail
      refine (C1.out).mono ?_
      rintro e w' ⟨rfl, rfl⟩
      go_wp2_with fail
      refine (C2.out).mono ?_
      rintro e w' ⟨rfl, rfl⟩
      go_wp2_with fail
      refine (C2.out).mono ?_
      rintro e w' ⟨rfl, rfl⟩
      go_wp2_with fail
      refine (C1.out).mono ?_
      rintro e w' ⟨rfl, rfl⟩
      go_wp2_with fail
      refine wp_region_plan [(false, 0), (false, 1), (false, 2), (false, 3), (false, 4), (false, 5), (false, 7), (false, 8), (false, 9), (false, 10), (false, 11), (false, 12), (false, 13), (false, 14), (true, 6), (true, 15), (false, 16)] (Below w.heap.size w) (by kernel_rfl) (by kernel_rfl) (S1.out) _ (by simp only [pickH, List.getElem?_toArray, List.getElem?_cons_succ, List.getElem?_cons_zero]; rfl) ?_
      repeat (refine HWalk.step (fun K hK => ?_); first | (apply held_yes; (focus rfl); (focus (intro w' hw; obtain ⟨hc', hf'⟩ := below_cells hw; go_simp; rfl)); (go_simp; refine hK _ ?_; clear hK K)) | (refine ite_no (by decide) ?_; go_simp; refine hK _ ?_; clear hK K))
      refine HWalk.mark ?_
      go_wp2_with fail
      refine (K1.out).mono ?_
      rintro e w1 ⟨a1, t1, rfl, p1, p2, p3, p4, p5, p6⟩
      have B1 := Lib.hid (S1.out.trans (p6.mono S1.out.size))
      have HX := Lib.hid (K2.out w1 a1 t1 B1.out p1 p2 p3 p4 p5)
      clear p1 p2 p3 p4 p5 p6
      go_wp2_with fail
      refine ⟨B1.out, ?_⟩
      repeat (refine HWalk.step (fun K hK => ?_); first | (apply held_yes; (focus rfl); (focus (intro w' hw; obtain ⟨hc', hf'⟩ := below_cells hw; go_simp; rfl)); (go_simp; refine hK _ ?_; clear hK K)) | (refine ite_no (by decide) ?_; go_simp; refine hK _ ?_; clear hK K))
      refine HWalk.mark ?_
      go_wp2_with fail
      refine (HX.out).mono ?_
      rintro e w2 hp
      have HP := Lib.hid (hp.more B1.out)
      obtain ⟨a2, t2, rfl, p1, p2, p3, p4, p5, p6⟩ := hp
      have B2 := Lib.hid (B1.out.trans (p6.mono B1.out.size))
      clear p1 p2 p3 p4 p5 p6
      go_wp2_with fail
      refine ⟨B2.out, ?_⟩
      repeat (refine HWalk.step (fun K hK => ?_); first | (apply held_yes; (focus rfl); (focus (intro w' hw; obtain ⟨hc', hf'⟩ := below_cells hw; go_simp; rfl)); (go_simp; refine hK _ ?_; clear hK K)) | (refine ite_no (by decide) ?_; go_simp; refine hK _ ?_; clear hK K))
      refine HWalk.done ?_
      go_wp2_with fail
      go_ret
      exact HP.out
    · have KO := Lib.hid (over_any w al ar l r s hl hr ok)
      have HB : Hid ((T.node l s r).Bal ∧ (T.node l s r).ht = max l.ht r.ht + 1) := ⟨⟨bl, br, by omega, by omega⟩, rfl⟩
      obtain ⟨n1, e1⟩ : ∃ n, n = l.ht := ⟨_, rfl⟩
      obtain ⟨n2, e2⟩ : ∃ n, n = r.ht := ⟨_, rfl⟩
      rw [← e1] at C1 b1 c1 c2 HB ⊢
      rw [← e2] at C2 b2 c1 c2 HB ⊢
      have hci : ¬ (n1 : Int) + 1 < (n2 : Int) := by omega
      have hcj : ¬ (n2 : Int) + 1 < (n1 : Int) := by omega
      clear hl hr bl br ok hn e1 e2
      go_enter Try.func63, Try.ntmps63
      go_wp2_with fail
      refine (C1.out).mono ?_
      rintro e w' ⟨rfl, rfl⟩
      go_wp2_with fail
      refine (C2.out).mono ?_
      rintro e w' ⟨rfl, rfl⟩
      go_wp2_with fail
      refine (C2.out).mono ?_
      rintro e w' ⟨rfl, rfl⟩
      go_wp2_with fail
      refine (C1.out).mono ?_
      rintro e w' ⟨rfl, rfl⟩
      go_wp2_with fail
      refine (KO.out).mono ?_
      rintro e w1 ⟨a, rfl, q1, q2⟩
      have H : Hid (BalPost w (l.l ++ s :: r.l) (max n1 n2) (.returned (.pointer a)) w1) := ⟨a, _, rfl, q1, HB.out.1, rfl, by rw [HB.out.2]; omega, by rw [HB.out.2]; omega, q2⟩
      clear q1 q2
      go_wp2_with fail
      go_ret
      exact H.out
end Go.Proofs.Ytngbaiijdgmpoaa

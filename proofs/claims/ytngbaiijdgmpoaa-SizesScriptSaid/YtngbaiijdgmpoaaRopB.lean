/-
  Contracts of package ropes, second: balanced.
-/
import Derived.Test.YtngbaiijdgmpoaaRopA
namespace Go.Proofs.Ytngbaiijdgmpoaa
open Go.RowKit
set_option linter.unusedVariables false
set_option linter.unusedSimpArgs false

/-- A balanced tree with these sizes, of about that height. -/
def BalPost (w : World) (L : List Int) (h : Nat) (e : Ending) (w' : World) : Prop := ∃ a t, e = .returned (.pointer a) ∧ Tr w' a t ∧ t.Bal ∧ t.l = L ∧ h ≤ t.ht ∧ t.ht ≤ h + 1 ∧ Below w.heap.size w w'

theorem straight_any (w : World) (p0 p1 p2 : Nat) (al ar : Option Addr) (l r : T) (s : Int) (d0 : w.cell? ⟨p0, 0, none⟩ = some (.pointer al)) (d1 : w.cell? ⟨p1, 0, none⟩ = some (.int .i64 s)) (d2 : w.cell? ⟨p2, 0, none⟩ = some (.pointer ar)) (hl : Tr w al l) (hr : Tr w ar r) (ok : LOk (T.node l s r).l) :
    Calls Try.prog 77 #[.pointer (some ⟨p0, 0, none⟩), .pointer (some ⟨p1, 0, none⟩), .pointer (some ⟨p2, 0, none⟩)] w (TrPost w (.node l s r)) := by
  have HO := Lib.hid (over_any w al ar l r s hl hr ok)
  clear hl hr ok
  go_enter Try.func77, Try.ntmps77
  go_wp2_with fail
  refine (HO.out).mono ?_
  rintro e w1 ⟨a, rfl, h1, h2⟩
  have H : Hid (TrPost w (.node l s r) (.returned (.pointer a)) w1) := ⟨a, rfl, h1, h2⟩
  clear h1 h2
  go_wp2_with fail
  go_ret
  exact H.out

set_option maxRecDepth 100000 in
set_option maxHeartbeats 1600000 in
theorem leftwards_any (w : World) (p0 p1 p2 : Nat) (al ar : Option Addr) (l rl rr : T) (s sr : Int) (d0 : w.cell? ⟨p0, 0, none⟩ = some (.pointer al)) (d1 : w.cell? ⟨p1, 0, none⟩ = some (.int .i64 s)) (d2 : w.cell? ⟨p2, 0, none⟩ = some (.pointer ar)) (hl : Tr w al l) (hr : Tr w ar (.node rl sr rr)) (bl : l.Bal) (br : (T.node rl sr rr).Bal) (hh : (T.node rl sr rr).ht = l.ht + 2) (ok : LOk (l.l ++ s :: (T.node rl sr rr).l)) :
    Calls Try.prog 78 #[.pointer (some ⟨p2, 0, none⟩), .pointer (some ⟨p0, 0, none⟩), .pointer (some ⟨p1, 0, none⟩)] w (BalPost w (l.l ++ s :: (T.node rl sr rr).l) (T.node rl sr rr).ht) := by
  have lt0 := block_lt_of_cell d0
  have lt1 := block_lt_of_cell d1
  have lt2 := block_lt_of_cell d2
  obtain ⟨b, bl_, br_, rfl, hrow, h1, h2⟩ := hr
  obtain ⟨c0, c1, c2, c3, c4, c5⟩ := ncells_of hrow
  have ltb := hrow.lt
  clear c3 c4 c5 hrow
  have HL := Lib.hid hl
  have H1 := Lib.hid h1
  have H2 := Lib.hid h2
  have OK := Lib.hid ok
  have BB := Lib.hid br
  have BL := Lib.hid bl
  have HH := Lib.hid hh
  have C1 := Lib.hid (fun q => tall_any (w.drewN q) _ _ (h1.drawn ⟨q, rfl⟩))
  have C2 := Lib.hid (fun q => tall_any (w.drewN q) _ _ (h2.drawn ⟨q, rfl⟩))
  clear hl h1 h2 ok br bl hh
  obtain ⟨n1, e1⟩ : ∃ n, n = rl.ht := ⟨_, rfl⟩
  obtain ⟨n2, e2⟩ : ∃ n, n = rr.ht := ⟨_, rfl⟩
  rw [← e1] at C1
  rw [← e2] at C2
  have S0 : Hid (Below w.heap.size w (w.drewN 1)) := below_drewN (Below.refl _ w) 1
  have S1 : Hid (Below w.heap.size w (w.drewN 2)) := below_drewN (Below.refl _ w) 2
  by_cases hc : n2 < n1
  · have hci : (n2 : Int) < (n1 : Int) := by omega
    obtain ⟨m1, sm, m2, rfl⟩ := T.ht_pos (t := rl) (by omega)
    obtain ⟨bm, am1, am2, rfl, hmrow, hm1, hm2⟩ := H1.out
    obtain ⟨g0, g1, g2, _, _, _⟩ := ncells_of hmrow
    have ltm := hmrow.lt
    have HM1 := Lib.hid hm1
    have HM2 := Lib.hid hm2
    have EL : Hid ((l.l ++ s :: m1.l) ++ sm :: (m2.l ++ sr :: rr.l) = l.l ++ s :: (T.node (T.node m1 sm m2) sr rr).l) := by show _ = _; simp [T.l_node]
    have ok2 : LOk ((l.l ++ s :: m1.l) ++ sm :: (m2.l ++ sr :: rr.l)) := by rw [EL.out]; exact OK.out
    have K1 : Hid (∀ W, Below w.heap.size w W → Calls Try.prog 74 #[.pointer al, .int .i64 s, .pointer am1] W (TrPost W (.node l s m1))) := fun W hb => over_any W al am1 l m1 s (HL.out.below hb) (hm1.below hb) ok2.left
    have K2 : Hid (∀ W, Below w.heap.size w W → Calls Try.prog 74 #[.pointer am2, .int .i64 sr, .pointer br_] W (TrPost W (.node m2 sr rr))) := fun W hb => over_any W am2 br_ m2 rr sr (hm2.below hb) (H2.out.below hb) ok2.right.tail
    have K3 : Hid (∀ W a1 a2, Tr W a1 (.node l s m1) → Tr W a2 (.node m2 sr rr) → Calls Try.prog 74 #[.pointer a1, .int .i64 sm, .pointer a2] W (TrPost W (.node (.node l s m1) sm (.node m2 sr rr)))) := fun W a1 a2 h1 h2 => over_any W a1 a2 _ _ sm h1 h2 ok2
    have HB : Hid ((T.node (.node l s m1) sm (.node m2 sr rr)).Bal ∧ (T.node (.node l s m1) sm (.node m2 sr rr)).ht = (T.node (T.node m1 sm m2) sr rr).ht) := by
      obtain ⟨⟨q1, q2, q3, q4⟩, q5, q6, q7⟩ := BB.out
      have hh := HH.out
      simp only [T.ht_node] at hh q3 q4 q6 q7 e1
      refine ⟨⟨⟨BL.out, q1, ?_, ?_⟩, ⟨q2, q5, ?_, ?_⟩, ?_, ?_⟩, ?_⟩ <;> (try simp only [T.ht_node]) <;> omega
    clear e1 e2 hm1 hm2 hmrow ok2
    go_enter Try.func78, Try.ntmps78
    go_wp2_with fail
    refine wp_region_plan [(false, 0), (false, 1), (false, 2), (false, 3), (false, 5), (false, 6), (false, 7), (false, 8), (true, 4), (true, 9), (false, 10)] (Below w.heap.size w) (by kernel_rfl) (by kernel_rfl) ((Below.refl _ w).drew) _ (by simp only [pickH, List.getElem?_toArray, List.getElem?_cons_succ, List.getElem?_cons_zero]; rfl) ?_
    repeat (refine HWalk.step (fun K hK => ?_); first | (apply held_yes; (focus rfl); (focus (intro w' hw; obtain ⟨hc', hf'⟩ := below_cells hw; go_simp; rfl)); (go_simp; refine hK _ ?_; clear hK K)) | (refine ite_no (by decide) ?_; go_simp; refine hK _ ?_; clear hK K))
    refine HWalk.mark ?_
    go_wp2_with fail
    refine (C1.out 1).mono ?_
    rintro e w' ⟨rfl, rfl⟩
    go_wp2_with fail
    refine ⟨S0.out, ?_⟩
    repeat (refine HWalk.step (fun K hK => ?_); first | (apply held_yes; (focus rfl); (focus (intro w' hw; obtain ⟨hc', hf'⟩ := below_cells hw; go_simp; rfl)); (go_simp; refine hK _ ?_; clear hK K)) | (refine ite_no (by decide) ?_; go_simp; refine hK _ ?_; clear hK K))
    refine HWalk.mark ?_
    go_wp2_with fail
    refine (C2.out 1).mono ?_
    rintro e w' ⟨rfl, rfl⟩
    go_wp2_with fail
    refine ⟨S0.out, ?_⟩
    repeat (refine HWalk.step (fun K hK => ?_); first | (apply held_yes; (focus rfl); (focus (intro w' hw; obtain ⟨hc', hf'⟩ := below_cells hw; go_simp; rfl)); (go_simp; refine hK _ ?_; clear hK K)) | (refine ite_no (by decide) ?_; go_simp; refine hK _ ?_; clear hK K))
    refine HWalk.done ?_
    go_wp2_with fail
    refine wp_region_plan [(false, 0), (false, 1), (false, 2), (false, 3), (false, 4), (false, 5), (false, 7), (false, 8), (false, 9), (false, 10), (false, 11), (false, 12), (false, 13), (false, 14), (false, 15), (false, 16), (false, 17), (false, 18), (false, 19), (false, 20), (false, 21), (false, 22), (true, 6), (true, 23), (true, 24), (false, 25)] (Below w.heap.size w) (by kernel_rfl) (by kernel_rfl) (S1.out) _ (by simp only [pickH, List.getElem?_toArray, List.getElem?_cons_succ, List.getElem?_cons_zero]; rfl) ?_
    repeat (refine HWalk.step (fun K hK => ?_); first | (apply held_yes; (focus rfl); (focus (intro w' hw; obtain ⟨hc', hf'⟩ := below_cells hw; go_simp; rfl)); (go_simp; refine hK _ ?_; clear hK K)) | (refine ite_no (by decide) ?_; go_simp; refine hK _ ?_; clear hK K))
    refine HWalk.mark ?_
    go_wp2_with fail
    refine (K1.out _ S1.out).mono ?_
    rintro e w1 ⟨a1, rfl, ht1, hb1⟩
    have B1 := Lib.hid (S1.out.trans (hb1.mono S1.out.size))
    have T1 := Lib.hid ht1
    clear ht1 hb1
    go_wp2_with fail
    refine ⟨B1.out, ?_⟩
    repeat (refine HWalk.step (fun K hK => ?_); first | (apply held_yes; (focus rfl); (focus (intro w' hw; obtain ⟨hc', hf'⟩ := below_cells hw; go_simp; rfl)); (go_simp; refine hK _ ?_; clear hK K)) | (refine ite_no (by decide) ?_; go_simp; refine hK _ ?_; clear hK K))
    refine HWalk.mark ?_
    go_wp2_with fail
    refine (K2.out _ B1.out).mono ?_
    rintro e w2 ⟨a2, rfl, ht2, hb2⟩
    have B2 := Lib.hid (B1.out.trans (hb2.mono B1.out.size))
    have T2 := Lib.hid ht2
    have T12 := Lib.hid (T1.out.below hb2)
    clear ht2 hb2
    go_wp2_with fail
    refine ⟨B2.out, ?_⟩
    repeat (refine HWalk.step (fun K hK => ?_); first | (apply held_yes; (focus rfl); (focus (intro w' hw; obtain ⟨hc', hf'⟩ := below_cells hw; go_simp; rfl)); (go_simp; refine hK _ ?_; clear hK K)) | (refine ite_no (by decide) ?_; go_simp; refine hK _ ?_; clear hK K))
    refine HWalk.mark ?_
    go_wp2_with fail
    refine (K3.out _ _ _ T12.out T2.out).mono ?_
    rintro e w3 ⟨a3, rfl, ht3, hb3⟩
    have B3 := Lib.hid (B2.out.trans (hb3.mono B2.out.size))
    have H : Hid (BalPost w (l.l ++ s :: (T.node (T.node m1 sm m2) sr rr).l) (T.node (T.node m1 sm m2) sr rr).ht (.returned (.pointer a3)) w3) := ⟨a3, _, rfl, ht3, HB.out.1, EL.out, by rw [HB.out.2]; exact Nat.le_refl _, by rw [HB.out.2]; omega, B3.out⟩
    clear ht3 hb3
    go_wp2_with fail
    refine ⟨B3.out, ?_⟩
    repeat (refine HWalk.step (fun K hK => ?_); first | (apply held_yes; (focus rfl); (focus (intro w' hw; obtain ⟨hc', hf'⟩ := below_cells hw; go_simp; rfl)); (go_simp; refine hK _ ?_; clear hK K)) | (refine ite_no (by decide) ?_; go_simp; refine hK _ ?_; clear hK K))
    refine HWalk.done ?_
    go_wp2_with fail
    go_ret
    exact H.out
  · have hci : ¬ (n2 : Int) < (n1 : Int) := by omega
    have EL : Hid ((l.l ++ s :: rl.l) ++ sr :: rr.l = l.l ++ s :: (T.node rl sr rr).l) := by show _ = _; simp [T.l_node]
    have ok2 : LOk ((l.l ++ s :: rl.l) ++ sr :: rr.l) := by rw [EL.out]; exact OK.out
    have K1 : Hid (∀ W, Below w.heap.size w W → Calls Try.prog 74 #[.pointer al, .int .i64 s, .pointer bl_] W (TrPost W (.node l s rl))) := fun W hb => over_any W al bl_ l rl s (HL.out.below hb) (H1.out.below hb) ok2.left
    have K2 : Hid (∀ W a1, Below w.heap.size w W → Tr W a1 (.node l s rl) → Calls Try.prog 74 #[.pointer a1, .int .i64 sr, .pointer br_] W (TrPost W (.node (.node l s rl) sr rr))) := fun W a1 hb h1 => over_any W a1 br_ _ rr sr h1 (H2.out.below hb) ok2
    have HB : Hid ((T.node (.node l s rl) sr rr).Bal ∧ (T.node rl sr rr).ht ≤ (T.node (.node l s rl) sr rr).ht ∧ (T.node (.node l s rl) sr rr).ht ≤ (T.node rl sr rr).ht + 1) := by
      obtain ⟨q1, q2, q3, q4⟩ := BB.out
      have hh := HH.out
      simp only [T.ht_node] at hh
      refine ⟨⟨⟨BL.out, q1, ?_, ?_⟩, q2, ?_, ?_⟩, ?_, ?_⟩ <;> (try simp only [T.ht_node]) <;> omega
    clear e1 e2 ok2
    go_enter Try.func78, Try.ntmps78
    go_wp2_with fail
    refine wp_region_plan [(false, 0), (false, 1), (false, 2), (false, 3), (false, 5), (false, 6), (false, 7), (false, 8), (true, 4), (true, 9), (false, 10)] (Below w.heap.size w) (by kernel_rfl) (by kernel_rfl) ((Below.refl _ w).drew) _ (by simp only [pickH, List.getElem?_toArray, List.getElem?_cons_succ, List.getElem?_cons_zero]; rfl) ?_
    repeat (refine HWalk.step (fun K hK => ?_); first | (apply held_yes; (focus rfl); (focus (intro w' hw; obtain ⟨hc', hf'⟩ := below_cells hw; go_simp; rfl)); (go_simp; refine hK _ ?_; clear hK K)) | (refine ite_no (by decide) ?_; go_simp; refine hK _ ?_; clear hK K))
    refine HWalk.mark ?_
    go_wp2_with fail
    refine (C1.out 1).mono ?_
    rintro e w' ⟨rfl, rfl⟩
    go_wp2_with fail
    refine ⟨S0.out, ?_⟩
    repeat (refine HWalk.step (fun K hK => ?_); first | (apply held_yes; (focus rfl); (focus (intro w' hw; obtain ⟨hc', hf'⟩ := below_cells hw; go_simp; rfl)); (go_simp; refine hK _ ?_; clear hK K)) | (refine ite_no (by decide) ?_; go_simp; refine hK _ ?_; clear hK K))
    refine HWalk.mark ?_
    go_wp2_with fail
    refine (C2.out 1).mono ?_
    rintro e w' ⟨rfl, rfl⟩
    go_wp2_with fail
    refine ⟨S0.out, ?_⟩
    repeat (refine HWalk.step (fun K hK => ?_); first | (apply held_yes; (focus rfl); (focus (intro w' hw; obtain ⟨hc', hf'⟩ := below_cells hw; go_simp; rfl)); (go_simp; refine hK _ ?_; clear hK K)) | (refine ite_no (by decide) ?_; go_simp; refine hK _ ?_; clear hK K))
    refine HWalk.done ?_
    go_wp2_with fail
    refine wp_region_plan [(false, 0), (false, 1), (false, 2), (false, 3), (false, 4), (false, 5), (false, 7), (false, 8), (false, 9), (false, 10), (false, 11), (false, 12), (false, 13), (false, 14), (true, 6), (true, 15), (false, 16)] (Below w.heap.size w) (by kernel_rfl) (by kernel_rfl) (S1.out) _ (by simp only [pickH, List.getElem?_toArray, List.getElem?_cons_succ, List.getElem?_cons_zero]; rfl) ?_
    repeat (refine HWalk.step (fun K hK => ?_); first | (apply held_yes; (focus rfl); (focus (intro w' hw; obtain ⟨hc', hf'⟩ := below_cells hw; go_simp; rfl)); (go_simp; refine hK _ ?_; clear hK K)) | (refine ite_no (by decide) ?_; go_simp; refine hK _ ?_; clear hK K))
    refine HWalk.mark ?_
    go_wp2_with fail
    refine (K1.out _ S1.out).mono ?_
    rintro e w1 ⟨a1, rfl, ht1, hb1⟩
    have B1 := Lib.hid (S1.out.trans (hb1.mono S1.out.size))
    have T1 := Lib.hid ht1
    clear ht1 hb1
    go_wp2_with fail
    refine ⟨B1.out, ?_⟩
    repeat (refine HWalk.step (fun K hK => ?_); first | (apply held_yes; (focus rfl); (focus (intro w' hw; obtain ⟨hc', hf'⟩ := below_cells hw; go_simp; rfl)); (go_simp; refine hK _ ?_; clear hK K)) | (refine ite_no (by decide) ?_; go_simp; refine hK _ ?_; clear hK K))
    refine HWalk.mark ?_
    go_wp2_with fail
    refine (K2.out _ _ B1.out T1.out).mono ?_
    rintro e w2 ⟨a2, rfl, ht2, hb2⟩
    have B2 := Lib.hid (B1.out.trans (hb2.mono B1.out.size))
    have H : Hid (BalPost w (l.l ++ s :: (T.node rl sr rr).l) (T.node rl sr rr).ht (.returned (.pointer a2)) w2) := ⟨a2, _, rfl, ht2, HB.out.1, EL.out, HB.out.2.1, HB.out.2.2, B2.out⟩
    clear ht2 hb2
    go_wp2_with fail
    refine ⟨B2.out, ?_⟩
    repeat (refine HWalk.step (fun K hK => ?_); first | (apply held_yes; (focus rfl); (focus (intro w' hw; obtain ⟨hc', hf'⟩ := below_cells hw; go_simp; rfl)); (go_simp; refine hK _ ?_; clear hK K)) | (refine ite_no (by decide) ?_; go_simp; refine hK _ ?_; clear hK K))
    refine HWalk.done ?_
    go_wp2_with fail
    go_ret
    exact H.out
end Go.Proofs.Ytngbaiijdgmpoaa

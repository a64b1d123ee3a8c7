/-
  Contracts of package ropes, third: balanced, the other way round, and whole.
-/
import Derived.Test.YtngbaiijdgmpoaaRopB
namespace Go.Proofs.Ytngbaiijdgmpoaa
open Go.RowKit
set_option linter.unusedVariables false
set_option linter.unusedSimpArgs false

set_option maxRecDepth 100000 in
set_option maxHeartbeats 1600000 in
theorem rightwards_any (w : World) (p0 p1 p2 : Nat) (al ar : Option Addr) (ll lr r : T) (s sl : Int) (d0 : w.cell? ⟨p0, 0, none⟩ = some (.pointer al)) (d1 : w.cell? ⟨p1, 0, none⟩ = some (.int .i64 s)) (d2 : w.cell? ⟨p2, 0, none⟩ = some (.pointer ar)) (hl : Tr w al (.node ll sl lr)) (hr : Tr w ar r) (bl : (T.node ll sl lr).Bal) (br : r.Bal) (hh : (T.node ll sl lr).ht = r.ht + 2) (ok : LOk ((T.node ll sl lr).l ++ s :: r.l)) :
    Calls Try.prog 79 #[.pointer (some ⟨p0, 0, none⟩), .pointer (some ⟨p1, 0, none⟩), .pointer (some ⟨p2, 0, none⟩)] w (BalPost w ((T.node ll sl lr).l ++ s :: r.l) (T.node ll sl lr).ht) := by
  have lt0 := block_lt_of_cell d0
  have lt1 := block_lt_of_cell d1
  have lt2 := block_lt_of_cell d2
  obtain ⟨b, bl_, br_, rfl, hrow, h1, h2⟩ := hl
  obtain ⟨c0, c1, c2, c3, c4, c5⟩ := ncells_of hrow
  have ltb := hrow.lt
  clear c3 c4 c5 hrow
  have HR := Lib.hid hr
  have H1 := Lib.hid h1
  have H2 := Lib.hid h2
  have OK := Lib.hid ok
  have BB := Lib.hid bl
  have BR := Lib.hid br
  have HH := Lib.hid hh
  have C1 := Lib.hid (fun q => tall_any (w.drewN q) _ _ (h1.drawn ⟨q, rfl⟩))
  have C2 := Lib.hid (fun q => tall_any (w.drewN q) _ _ (h2.drawn ⟨q, rfl⟩))
  clear hr h1 h2 ok br bl hh
  obtain ⟨n1, e1⟩ : ∃ n, n = ll.ht := ⟨_, rfl⟩
  obtain ⟨n2, e2⟩ : ∃ n, n = lr.ht := ⟨_, rfl⟩
  rw [← e1] at C1
  rw [← e2] at C2
  have S0 : Hid (Below w.heap.size w (w.drewN 1)) := below_drewN (Below.refl _ w) 1
  have S1 : Hid (Below w.heap.size w (w.drewN 2)) := below_drewN (Below.refl _ w) 2
  by_cases hc : n1 < n2
  · have hci : (n1 : Int) < (n2 : Int) := by omega
    obtain ⟨m1, sm, m2, rfl⟩ := T.ht_pos (t := lr) (by omega)
    obtain ⟨bm, am1, am2, rfl, hmrow, hm1, hm2⟩ := H2.out
    obtain ⟨g0, g1, g2, _, _, _⟩ := ncells_of hmrow
    have ltm := hmrow.lt
    have EL : Hid ((ll.l ++ sl :: m1.l) ++ sm :: (m2.l ++ s :: r.l) = (T.node ll sl (T.node m1 sm m2)).l ++ s :: r.l) := by show _ = _; simp [T.l_node]
    have ok2 : LOk ((ll.l ++ sl :: m1.l) ++ sm :: (m2.l ++ s :: r.l)) := by rw [EL.out]; exact OK.out
    have K1 : Hid (∀ W, Below w.heap.size w W → Calls Try.prog 74 #[.pointer bl_, .int .i64 sl, .pointer am1] W (TrPost W (.node ll sl m1))) := fun W hb => over_any W bl_ am1 ll m1 sl (H1.out.below hb) (hm1.below hb) ok2.left
    have K2 : Hid (∀ W, Below w.heap.size w W → Calls Try.prog 74 #[.pointer am2, .int .i64 s, .pointer ar] W (TrPost W (.node m2 s r))) := fun W hb => over_any W am2 ar m2 r s (hm2.below hb) (HR.out.below hb) ok2.right.tail
    have K3 : Hid (∀ W a1 a2, Tr W a1 (.node ll sl m1) → Tr W a2 (.node m2 s r) → Calls Try.prog 74 #[.pointer a1, .int .i64 sm, .pointer a2] W (TrPost W (.node (.node ll sl m1) sm (.node m2 s r)))) := fun W a1 a2 h1 h2 => over_any W a1 a2 _ _ sm h1 h2 ok2
    have HB : Hid ((T.node (.node ll sl m1) sm (.node m2 s r)).Bal ∧ (T.node (.node ll sl m1) sm (.node m2 s r)).ht = (T.node ll sl (T.node m1 sm m2)).ht) := by
      obtain ⟨q5, ⟨q1, q2, q3, q4⟩, q6, q7⟩ := BB.out
      have hh := HH.out
      simp only [T.ht_node] at hh q3 q4 q6 q7 e2
      refine ⟨⟨⟨q5, q1, ?_, ?_⟩, ⟨q2, BR.out, ?_, ?_⟩, ?_, ?_⟩, ?_⟩ <;> (try simp only [T.ht_node]) <;> omega
    clear e1 e2 hm1 hm2 hmrow ok2
    go_enter Try.func79, Try.ntmps79
    go_wp2_with fail
    refine wp_region_plan [(false, 0), (false, 1), (false, 2), (false, 3), (false, 5), (false, 6), (false, 7), (false, 8), (true, 4), (true, 9), (false, 10)] (Below w.heap.size w) (by kernel_rfl) (by kernel_rfl) ((Below.refl _ w).drew) _ (by simp only [pickH, List.getElem?_toArray, List.getElem?_cons_succ, List.getElem?_cons_zero]; rfl) ?_
    repeat (refine HWalk.step (fun K hK => ?_); first | (apply held_yes; (focus rfl); (focus (intro w' hw; obtain ⟨hc', hf'⟩ := below_cells hw; go_simp; rfl)); (go_simp; refine hK _ ?_; clear hK K)) | (refine ite_no (by decide) ?_; go_simp; refine hK _ ?_; clear hK K))
    refine HWalk.mark ?_
    go_wp2_with fail
    refine (C2.out 1).mono ?_
    rintro e w' ⟨rfl, rfl⟩
    go_wp2_with fail
    refine ⟨S0.out, ?_⟩
    repeat (refine HWalk.step (fun K hK => ?_); first | (apply held_yes; (focus rfl); (focus (intro w' hw; obtain ⟨hc', hf'⟩ := below_cells hw; go_simp; rfl)); (go_simp; refine hK _ ?_; clear hK K)) | (refine ite_no (by decide) ?_; go_simp; refine hK _ ?_; clear hK K))
    refine HWalk.mark ?_
    go_wp2_with fail
    refine (C1.out 1).mono ?_
    rintro e w' ⟨rfl, rfl⟩
    go_wp2_with fail
    refine ⟨S0.out, ?_⟩
    repeat (refine HWalk.step (fun K hK => ?_); first | (apply held_yes; (focus rfl); (focus (intro w' hw; obtain ⟨hc', hf'⟩ := below_cells hw; go_simp; rfl)); (go_simp; refine hK _ ?_; clear hK K)) | (refine ite_no (by decide) ?_; go_simp; refine hK _ ?_; clear hK K))
    refine HWalk.done ?_
    go_wp2_with fail
    refine wp_region_plan [(false, 0), (false, 1), (false, 2), (false, 3), (false, 4), (false, 5), (false, 6), (false, 7), (false, 8), (false, 9), (false, 10), (false, 11), (false, 13), (false, 14), (false, 15), (false, 16), (false, 17), (false, 18), (false, 19), (false, 20), (false, 21), (false, 22), (true, 12), (true, 23), (true, 24), (false, 25)] (Below w.heap.size w) (by kernel_rfl) (by kernel_rfl) (S1.out) _ (by simp only [pickH, List.getElem?_toArray, List.getElem?_cons_succ, List.getElem?_cons_zero]; rfl) ?_
    repeat (refine HWalk.step (fun K hK => ?_); first | (apply held_yes; (focus rfl); (focus (intro w' hw; obtain ⟨hc', hf'⟩ := below_cells hw; go_simp; rfl)); (go_simp; refine hK _ ?_; clear hK K)) | (refine ite_no (by decide) ?_; go_simp; refine hK _ ?_; clear hK K))
    refine HWalk.mark ?_
    go_wp2_with fail
    refine (K1.out _ S1.out).mono ?_
    rintro e w1 ⟨a1, rfl, ht1, hb1⟩
    have B1 := Lib.hid (S1.out.trans (hb1.mono S1.out.size))
    have T1 := Lib.hid ht1
    clear ht1 hb1
    go_wp2_with fail
    refine ⟨B1.out, ?_⟩
    repeat (refine HWalk.step (fun K hK => ?_); first | (apply held_yes; (focus rfl); (focus (intro w' hw; obtain ⟨hc', hf'⟩ := below_cells hw; go_simp; rfl)); (go_simp; refine hK _ ?_; clear hK K)) | (refine ite_no (by decide) ?_; go_simp; refine hK _ ?_; clear hK K))
    refine HWalk.mark ?_
    go_wp2_with fail
    refine (K2.out _ B1.out).mono ?_
    rintro e w2 ⟨a2, rfl, ht2, hb2⟩
    have B2 := Lib.hid (B1.out.trans (hb2.mono B1.out.size))
    have T2 := Lib.hid ht2
    have T12 := Lib.hid (T1.out.below hb2)
    clear ht2 hb2
    go_wp2_with fail
    refine ⟨B2.out, ?_⟩
    repeat (refine HWalk.step (fun K hK => ?_); first | (apply held_yes; (focus rfl); (focus (intro w' hw; obtain ⟨hc', hf'⟩ := below_cells hw; go_simp; rfl)); (go_simp; refine hK _ ?_; clear hK K)) | (refine ite_no (by decide) ?_; go_simp; refine hK _ ?_; clear hK K))
    refine HWalk.mark ?_
    go_wp2_with fail
    refine (K3.out _ _ _ T12.out T2.out).mono ?_
    rintro e w3 ⟨a3, rfl, ht3, hb3⟩
    have B3 := Lib.hid (B2.out.trans (hb3.mono B2.out.size))
    have H : Hid (BalPost w ((T.node ll sl (T.node m1 sm m2)).l ++ s :: r.l) (T.node ll sl (T.node m1 sm m2)).ht (.returned (.pointer a3)) w3) := ⟨a3, _, rfl, ht3, HB.out.1, EL.out, by rw [HB.out.2]; exact Nat.le_refl _, by rw [HB.out.2]; omega, B3.out⟩
    clear ht3 hb3
    go_wp2_with fail
    refine ⟨B3.out, ?_⟩
    repeat (refine HWalk.step (fun K hK => ?_); first | (apply held_yes; (focus rfl); (focus (intro w' hw; obtain ⟨hc', hf'⟩ := below_cells hw; go_simp; rfl)); (go_simp; refine hK _ ?_; clear hK K)) | (refine ite_no (by decide) ?_; go_simp; refine hK _ ?_; clear hK K))
    refine HWalk.done ?_
    go_wp2_with fail
    go_ret
    exact H.out
  · have hci : ¬ (n1 : Int) < (n2 : Int) := by omega
    have EL : Hid (ll.l ++ sl :: (lr.l ++ s :: r.l) = (T.node ll sl lr).l ++ s :: r.l) := by show _ = _; simp [T.l_node]
    have ok2 : LOk (ll.l ++ sl :: (lr.l ++ s :: r.l)) := by rw [EL.out]; exact OK.out
    have K1 : Hid (∀ W, Below w.heap.size w W → Calls Try.prog 74 #[.pointer br_, .int .i64 s, .pointer ar] W (TrPost W (.node lr s r))) := fun W hb => over_any W br_ ar lr r s (H2.out.below hb) (HR.out.below hb) ok2.right.tail
    have K2 : Hid (∀ W a1, Below w.heap.size w W → Tr W a1 (.node lr s r) → Calls Try.prog 74 #[.pointer bl_, .int .i64 sl, .pointer a1] W (TrPost W (.node ll sl (.node lr s r)))) := fun W a1 hb h1 => over_any W bl_ a1 ll _ sl (H1.out.below hb) h1 ok2
    have HB : Hid ((T.node ll sl (.node lr s r)).Bal ∧ (T.node ll sl lr).ht ≤ (T.node ll sl (.node lr s r)).ht ∧ (T.node ll sl (.node lr s r)).ht ≤ (T.node ll sl lr).ht + 1) := by
      obtain ⟨q1, q2, q3, q4⟩ := BB.out
      have hh := HH.out
      simp only [T.ht_node] at hh
      refine ⟨⟨q1, ⟨q2, BR.out, ?_, ?_⟩, ?_, ?_⟩, ?_, ?_⟩ <;> (try simp only [T.ht_node]) <;> omega
    clear e1 e2 ok2
    go_enter Try.func79, Try.ntmps79
    go_wp2_with fail
    refine wp_region_plan [(false, 0), (false, 1), (false, 2), (false, 3), (false, 5), (false, 6), (false, 7), (false, 8), (true, 4), (true, 9), (false, 10)] (Below w.heap.size w) (by kernel_rfl) (by kernel_rfl) ((Below.refl _ w).drew) _ (by simp only [pickH, List.getElem?_toArray, List.getElem?_cons_succ, List.getElem?_cons_zero]; rfl) ?_
    repeat (refine HWalk.step (fun K hK => ?_); first | (apply held_yes; (focus rfl); (focus (intro w' hw; obtain ⟨hc', hf'⟩ := below_cells hw; go_simp; rfl)); (go_simp; refine hK _ ?_; clear hK K)) | (refine ite_no (by decide) ?_; go_simp; refine hK _ ?_; clear hK K))
    refine HWalk.mark ?_
    go_wp2_with fail
    refine (C2.out 1).mono ?_
    rintro e w' ⟨rfl, rfl⟩
    go_wp2_with fail
    refine ⟨S0.out, ?_⟩
    repeat (refine HWalk.step (fun K hK => ?_); first | (apply held_yes; (focus rfl); (focus (intro w' hw; obtain ⟨hc', hf'⟩ := below_cells hw; go_simp; rfl)); (go_simp; refine hK _ ?_; clear hK K)) | (refine ite_no (by decide) ?_; go_simp; refine hK _ ?_; clear hK K))
    refine HWalk.mark ?_
    go_wp2_with fail
    refine (C1.out 1).mono ?_
    rintro e w' ⟨rfl, rfl⟩
    go_wp2_with fail
    refine ⟨S0.out, ?_⟩
    repeat (refine HWalk.step (fun K hK => ?_); first | (apply held_yes; (focus rfl); (focus (intro w' hw; obtain ⟨hc', hf'⟩ := below_cells hw; go_simp; rfl)); (go_simp; refine hK _ ?_; clear hK K)) | (refine ite_no (by decide) ?_; go_simp; refine hK _ ?_; clear hK K))
    refine HWalk.done ?_
    go_wp2_with fail
    refine wp_region_plan [(false, 0), (false, 1), (false, 2), (false, 3), (false, 4), (false, 5), (false, 6), (false, 7), (false, 8), (false, 9), (false, 10), (false, 11), (false, 12), (false, 13), (true, 14), (true, 15), (false, 16)] (Below w.heap.size w) (by kernel_rfl) (by kernel_rfl) (S1.out) _ (by simp only [pickH, List.getElem?_toArray, List.getElem?_cons_succ, List.getElem?_cons_zero]; rfl) ?_
    repeat (refine HWalk.step (fun K hK => ?_); first | (apply held_yes; (focus rfl); (focus (intro w' hw; obtain ⟨hc', hf'⟩ := below_cells hw; go_simp; rfl)); (go_simp; refine hK _ ?_; clear hK K)) | (refine ite_no (by decide) ?_; go_simp; refine hK _ ?_; clear hK K))
    refine HWalk.mark ?_
    go_wp2_with fail
    refine (K1.out _ S1.out).mono ?_
    rintro e w1 ⟨a1, rfl, ht1, hb1⟩
    have B1 := Lib.hid (S1.out.trans (hb1.mono S1.out.size))
    have T1 := Lib.hid ht1
    clear ht1 hb1
    go_wp2_with fail
    refine ⟨B1.out, ?_⟩
    repeat (refine HWalk.step (fun K hK => ?_); first | (apply held_yes; (focus rfl); (focus (intro w' hw; obtain ⟨hc', hf'⟩ := below_cells hw; go_simp; rfl)); (go_simp; refine hK _ ?_; clear hK K)) | (refine ite_no (by decide) ?_; go_simp; refine hK _ ?_; clear hK K))
    refine HWalk.mark ?_
    go_wp2_with fail
    refine (K2.out _ _ B1.out T1.out).mono ?_
    rintro e w2 ⟨a2, rfl, ht2, hb2⟩
    have B2 := Lib.hid (B1.out.trans (hb2.mono B1.out.size))
    have H : Hid (BalPost w ((T.node ll sl lr).l ++ s :: r.l) (T.node ll sl lr).ht (.returned (.pointer a2)) w2) := ⟨a2, _, rfl, ht2, HB.out.1, EL.out, HB.out.2.1, HB.out.2.2, B2.out⟩
    clear ht2 hb2
    go_wp2_with fail
    refine ⟨B2.out, ?_⟩
    repeat (refine HWalk.step (fun K hK => ?_); first | (apply held_yes; (focus rfl); (focus (intro w' hw; obtain ⟨hc', hf'⟩ := below_cells hw; go_simp; rfl)); (go_simp; refine hK _ ?_; clear hK K)) | (refine ite_no (by decide) ?_; go_simp; refine hK _ ?_; clear hK K))
    refine HWalk.done ?_
    go_wp2_with fail
    go_ret
    exact H.out

theorem BalPost.more {w w1 w' : World} {L : List Int} {h : Nat} {e : Ending} (p : BalPost w1 L h e w') (hb : Below w.heap.size w w1) : BalPost w L h e w' := by
  obtain ⟨a, t, h1, h2, h3, h4, h5, h6, h7⟩ := p
  exact ⟨a, t, h1, h2, h3, h4, h5, h6, hb.trans (h7.mono hb.size)⟩

/-- The world in which balanced has put its variables. -/
def vars3 (w : World) (al ar : Option Addr) (s : Int) : World := ((w.alloc (.cells #[.pointer al] 27)).alloc (.cells #[.int .i64 s] 2)).alloc (.cells #[.pointer ar] 27)

set_option maxRecDepth 100000 in
set_option maxHeartbeats 1600000 in
theorem balanced_any (w : World) (al ar : Option Addr) (l r : T) (s : Int) (hl : Tr w al l) (hr : Tr w ar r) (bl : l.Bal) (br : r.Bal) (ok : LOk (l.l ++ s :: r.l)) (h1 : l.ht ≤ r.ht + 2) (h2 : r.ht ≤ l.ht + 2) :
    Calls Try.prog 73 #[.pointer al, .int .i64 s, .pointer ar] w (fun e w' => BalPost w (l.l ++ s :: r.l) (max l.ht r.ht) e w' ∧ (l.ht ≤ r.ht + 1 → r.ht ≤ l.ht + 1 → ∃ a, e = .returned (.pointer a) ∧ Tr w' a (.node l s r))) := by
  have V0 : Hid (Below w.heap.size w (vars3 w al ar s)) := (((Below.refl _ w).alloc (Nat.le_refl _) _).alloc (by simp) _).alloc (by simp; omega) _
  have d0 : (vars3 w al ar s).cell? ⟨w.heap.size, 0, none⟩ = some (.pointer al) := by unfold vars3; go_simp
  have d1 : (vars3 w al ar s).cell? ⟨w.heap.size + 1, 0, none⟩ = some (.int .i64 s) := by unfold vars3; go_simp
  have d2 : (vars3 w al ar s).cell? ⟨w.heap.size + 1 + 1, 0, none⟩ = some (.pointer ar) := by unfold vars3; go_simp
  have HL := Lib.hid (hl.below V0.out)
  have HR := Lib.hid (hr.below V0.out)
  have C1 := Lib.hid (fun q => tall_any ((vars3 w al ar s).drewN q) _ _ (HL.out.drawn ⟨q, rfl⟩))
  have C2 := Lib.hid (fun q => tall_any ((vars3 w al ar s).drewN q) _ _ (HR.out.drawn ⟨q, rfl⟩))
  obtain ⟨n1, e1⟩ : ∃ n, n = l.ht := ⟨_, rfl⟩
  obtain ⟨n2, e2⟩ : ∃ n, n = r.ht := ⟨_, rfl⟩
  have b1 : n1 ≤ 8192 := by have := l.ht_le; have := ok.left.len; omega
  have b2 : n2 ≤ 8192 := by have := r.ht_le; have := ok.right.tail.len; omega
  have E1 := Lib.hid e1
  have E2 := Lib.hid e2
  rw [← e1] at C1 h1 h2
  rw [← e2] at C2 h1 h2
  have BL := Lib.hid bl
  have BR := Lib.hid br
  have OK := Lib.hid ok
  clear hl hr bl br ok e1 e2
  go_enter Try.func73, Try.ntmps73
  go_wp2_with fail
  obtain ⟨w3, e3⟩ : ∃ w3, w3 = vars3 w al ar s := ⟨_, rfl⟩
  have e3' : ((w.alloc (.cells #[.pointer al] 27)).alloc (.cells #[.int .i64 s] 2)).alloc (.cells #[.pointer ar] 27) = w3 := e3.symm
  rw [e3']
  rw [← e3] at V0 d0 d1 d2 HL HR C1 C2
  clear e3 e3'
  have lt0 := block_lt_of_cell d0
  have lt1 := block_lt_of_cell d1
  have lt2 := block_lt_of_cell d2
  have S0 : Hid (Below w3.heap.size w3 (w3.drewN 1)) := below_drewN (Below.refl _ w3) 1
  have KS : Hid (n1 ≤ n2 + 1 → n2 ≤ n1 + 1 → Calls Try.prog 77 #[.pointer (some ⟨w.heap.size, 0, none⟩), .pointer (some ⟨w.heap.size + 1, 0, none⟩), .pointer (some ⟨w.heap.size + 1 + 1, 0, none⟩)] (w3.drewN 1) (TrPost (w3.drewN 1) (.node l s r))) := fun _ _ =>
    straight_any (w3.drewN 1) _ _ _ al ar l r s d0 d1 d2 (HL.out.drawn ⟨1, rfl⟩) (HR.out.drawn ⟨1, rfl⟩) OK.out
  have KL : Hid (n2 = n1 + 2 → Calls Try.prog 78 #[.pointer (some ⟨w.heap.size + 1 + 1, 0, none⟩), .pointer (some ⟨w.heap.size, 0, none⟩), .pointer (some ⟨w.heap.size + 1, 0, none⟩)] (w3.drewN 1) (BalPost (w3.drewN 1) (l.l ++ s :: r.l) n2)) := fun h => by
    obtain ⟨rl, sr, rr, rfl⟩ := T.ht_pos (t := r) (by rw [← E2.out]; omega)
    rw [E2.out]
    exact leftwards_any (w3.drewN 1) _ _ _ al ar l rl rr s sr d0 d1 d2 (HL.out.drawn ⟨1, rfl⟩) (HR.out.drawn ⟨1, rfl⟩) BL.out BR.out (by rw [← E2.out, ← E1.out]; exact h) OK.out
  have KR : Hid (n1 = n2 + 2 → Calls Try.prog 79 #[.pointer (some ⟨w.heap.size, 0, none⟩), .pointer (some ⟨w.heap.size + 1, 0, none⟩), .pointer (some ⟨w.heap.size + 1 + 1, 0, none⟩)] (w3.drewN 1) (BalPost (w3.drewN 1) (l.l ++ s :: r.l) n1)) := fun h => by
    obtain ⟨ll, sl, lr, rfl⟩ := T.ht_pos (t := l) (by rw [← E1.out]; omega)
    rw [E1.out]
    exact rightwards_any (w3.drewN 1) _ _ _ al ar ll lr r s sl d0 d1 d2 (HL.out.drawn ⟨1, rfl⟩) (HR.out.drawn ⟨1, rfl⟩) BL.out BR.out (by rw [← E2.out, ← E1.out]; exact h) OK.out
  clear HL HR
  by_cases cL : n1 + 1 < n2
  · have hL := Lib.hid (KL.out (by omega))
    have f1 : (1 : Int) < (n2 : Int) - (n1 : Int) := by omega
    have EM : Hid (max l.ht r.ht = n2) := by show _ = _; rw [← E1.out, ← E2.out]; omega
    clear KS KL KR
    refine wp_region_plan [(false, 0), (false, 2), (true, 1), (true, 3), (false, 4), (false, 5)] (Below w3.heap.size w3) (by kernel_rfl) (by kernel_rfl) ((Below.refl _ w3).drew) _ (by simp only [pickH, List.getElem?_toArray, List.getElem?_cons_succ, List.getElem?_cons_zero]; rfl) ?_
    repeat (refine HWalk.step (fun K hK => ?_); first | (apply held_yes; (focus rfl); (focus (intro w' hw; obtain ⟨hc', hf'⟩ := below_cells hw; go_simp; rfl)); (go_simp; refine hK _ ?_; clear hK K)) | (refine ite_no (by decide) ?_; go_simp; refine hK _ ?_; clear hK K))
    refine HWalk.mark ?_
    go_wp2_with fail
    refine (C2.out 1).mono ?_
    rintro e w' ⟨rfl, rfl⟩
    go_wp2_with fail
    refine ⟨S0.out, ?_⟩
    repeat (refine HWalk.step (fun K hK => ?_); first | (apply held_yes; (focus rfl); (focus (intro w' hw; obtain ⟨hc', hf'⟩ := below_cells hw; go_simp; rfl)); (go_simp; refine hK _ ?_; clear hK K)) | (refine ite_no (by decide) ?_; go_simp; refine hK _ ?_; clear hK K))
    refine HWalk.mark ?_
    go_wp2_with fail
    refine (C1.out 1).mono ?_
    rintro e w' ⟨rfl, rfl⟩
    go_wp2_with fail
    refine ⟨S0.out, ?_⟩
    repeat (refine HWalk.step (fun K hK => ?_); first | (apply held_yes; (focus rfl); (focus (intro w' hw; obtain ⟨hc', hf'⟩ := below_cells hw; go_simp; rfl)); (go_simp; refine hK _ ?_; clear hK K)) | (refine ite_no (by decide) ?_; go_simp; refine hK _ ?_; clear hK K))
    refine HWalk.done ?_
    go_wp2_with fail
    refine (hL.out).mono ?_
    rintro e w4 hp
    obtain ⟨a, t, rfl, q1, q2, q3, q4, q5, q6⟩ := hp.more (w := w3) S0.out
    have H : Hid (BalPost w (l.l ++ s :: r.l) (max l.ht r.ht) (.returned (.pointer a)) w4 ∧ (l.ht ≤ r.ht + 1 → r.ht ≤ l.ht + 1 → ∃ a', Ending.returned (.pointer a) = .returned (.pointer a') ∧ Tr w4 a' (.node l s r))) :=
      ⟨⟨a, t, rfl, q1, q2, q3, by rw [EM.out]; exact q4, by rw [EM.out]; exact q5, V0.out.trans (q6.mono V0.out.size)⟩, fun h1 h2 => by rw [← E1.out, ← E2.out] at h2; omega⟩
    clear hp q1 q2 q3 q4 q5 q6
    go_wp2_with fail
    go_ret
    exact H.out
  by_cases cR : n2 + 1 < n1
  · have hL := Lib.hid (KR.out (by omega))
    have f0 : ¬ (1 : Int) < (n2 : Int) - (n1 : Int) := by omega
    have f1 : (n2 : Int) - (n1 : Int) < -1 := by omega
    have EM : Hid (max l.ht r.ht = n1) := by show _ = _; rw [← E1.out, ← E2.out]; omega
    clear KS KL KR
    refine wp_region_plan [(false, 0), (false, 2), (true, 1), (true, 3), (false, 4), (false, 5)] (Below w3.heap.size w3) (by kernel_rfl) (by kernel_rfl) ((Below.refl _ w3).drew) _ (by simp only [pickH, List.getElem?_toArray, List.getElem?_cons_succ, List.getElem?_cons_zero]; rfl) ?_
    repeat (refine HWalk.step (fun K hK => ?_); first | (apply held_yes; (focus rfl); (focus (intro w' hw; obtain ⟨hc', hf'⟩ := below_cells hw; go_simp; rfl)); (go_simp; refine hK _ ?_; clear hK K)) | (refine ite_no (by decide) ?_; go_simp; refine hK _ ?_; clear hK K))
    refine HWalk.mark ?_
    go_wp2_with fail
    refine (C2.out 1).mono ?_
    rintro e w' ⟨rfl, rfl⟩
    go_wp2_with fail
    refine ⟨S0.out, ?_⟩
    repeat (refine HWalk.step (fun K hK => ?_); first | (apply held_yes; (focus rfl); (focus (intro w' hw; obtain ⟨hc', hf'⟩ := below_cells hw; go_simp; rfl)); (go_simp; refine hK _ ?_; clear hK K)) | (refine ite_no (by decide) ?_; go_simp; refine hK _ ?_; clear hK K))
    refine HWalk.mark ?_
    go_wp2_with fail
    refine (C1.out 1).mono ?_
    rintro e w' ⟨rfl, rfl⟩
    go_wp2_with fail
    refine ⟨S0.out, ?_⟩
    repeat (refine HWalk.step (fun K hK => ?_); first | (apply held_yes; (focus rfl); (focus (intro w' hw; obtain ⟨hc', hf'⟩ := below_cells hw; go_simp; rfl)); (go_simp; refine hK _ ?_; clear hK K)) | (refine ite_no (by decide) ?_; go_simp; refine hK _ ?_; clear hK K))
    refine HWalk.done ?_
    go_wp2_with fail
    refine (hL.out).mono ?_
    rintro e w4 hp
    obtain ⟨a, t, rfl, q1, q2, q3, q4, q5, q6⟩ := hp.more (w := w3) S0.out
    have H : Hid (BalPost w (l.l ++ s :: r.l) (max l.ht r.ht) (.returned (.pointer a)) w4 ∧ (l.ht ≤ r.ht + 1 → r.ht ≤ l.ht + 1 → ∃ a', Ending.returned (.pointer a) = .returned (.pointer a') ∧ Tr w4 a' (.node l s r))) :=
      ⟨⟨a, t, rfl, q1, q2, q3, by rw [EM.out]; exact q4, by rw [EM.out]; exact q5, V0.out.trans (q6.mono V0.out.size)⟩, fun h1 h2 => by rw [← E1.out, ← E2.out] at h1; omega⟩
    clear hp q1 q2 q3 q4 q5 q6
    go_wp2_with fail
    go_ret
    exact H.out
  · have hL := Lib.hid (KS.out (by omega) (by omega))
    have f0 : ¬ (1 : Int) < (n2 : Int) - (n1 : Int) := by omega
    have f1 : ¬ (n2 : Int) - (n1 : Int) < -1 := by omega
    clear KS KL KR
    refine wp_region_plan [(false, 0), (false, 2), (true, 1), (true, 3), (false, 4), (false, 5)] (Below w3.heap.size w3) (by kernel_rfl) (by kernel_rfl) ((Below.refl _ w3).drew) _ (by simp only [pickH, List.getElem?_toArray, List.getElem?_cons_succ, List.getElem?_cons_zero]; rfl) ?_
    repeat (refine HWalk.step (fun K hK => ?_); first | (apply held_yes; (focus rfl); (focus (intro w' hw; obtain ⟨hc', hf'⟩ := below_cells hw; go_simp; rfl)); (go_simp; refine hK _ ?_; clear hK K)) | (refine ite_no (by decide) ?_; go_simp; refine hK _ ?_; clear hK K))
    refine HWalk.mark ?_
    go_wp2_with fail
    refine (C2.out 1).mono ?_
    rintro e w' ⟨rfl, rfl⟩
    go_wp2_with fail
    refine ⟨S0.out, ?_⟩
    repeat (refine HWalk.step (fun K hK => ?_); first | (apply held_yes; (focus rfl); (focus (intro w' hw; obtain ⟨hc', hf'⟩ := below_cells hw; go_simp; rfl)); (go_simp; refine hK _ ?_; clear hK K)) | (refine ite_no (by decide) ?_; go_simp; refine hK _ ?_; clear hK K))
    refine HWalk.mark ?_
    go_wp2_with fail
    refine (C1.out 1).mono ?_
    rintro e w' ⟨rfl, rfl⟩
    go_wp2_with fail
    refine ⟨S0.out, ?_⟩
    repeat (refine HWalk.step (fun K hK => ?_); first | (apply held_yes; (focus rfl); (focus (intro w' hw; obtain ⟨hc', hf'⟩ := below_cells hw; go_simp; rfl)); (go_simp; refine hK _ ?_; clear hK K)) | (refine ite_no (by decide) ?_; go_simp; refine hK _ ?_; clear hK K))
    refine HWalk.done ?_
    go_wp2_with fail
    refine (hL.out).mono ?_
    rintro e w4 ⟨a, rfl, q1, q6⟩
    have H : Hid (BalPost w (l.l ++ s :: r.l) (max l.ht r.ht) (.returned (.pointer a)) w4 ∧ (l.ht ≤ r.ht + 1 → r.ht ≤ l.ht + 1 → ∃ a', Ending.returned (.pointer a) = .returned (.pointer a') ∧ Tr w4 a' (.node l s r))) :=
      ⟨⟨a, .node l s r, rfl, q1, ⟨BL.out, BR.out, by rw [← E1.out, ← E2.out]; omega, by rw [← E1.out, ← E2.out]; omega⟩, rfl, by rw [T.ht_node]; omega, by rw [T.ht_node]; omega, V0.out.trans ((S0.out.trans (q6.mono S0.out.size)).mono V0.out.size)⟩, fun _ _ => ⟨a, rfl, q1⟩⟩
    clear q1 q6
    go_wp2_with fail
    go_ret
    exact H.out
end Go.Proofs.Ytngbaiijdgmpoaa

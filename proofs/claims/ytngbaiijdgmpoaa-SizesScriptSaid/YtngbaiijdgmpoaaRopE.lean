/-
  Contracts of package ropes, fifth: split, put, grown.
-/
import Derived.Test.YtngbaiijdgmpoaaRopD
namespace Go.Proofs.Ytngbaiijdgmpoaa
open Go.RowKit
set_option linter.unusedVariables false
set_option linter.unusedSimpArgs false

/-- A rope's root, its sizes. -/
def Rp (w : World) (a : Option Addr) (L : List Int) : Prop := ∃ t, Tr w a t ∧ t.Bal ∧ t.l = L
theorem Rp.below {w w' : World} {a : Option Addr} {L : List Int} (h : Rp w a L) (hb : Below w.heap.size w w') : Rp w' a L := by
  obtain ⟨t, h1, h2, h3⟩ := h
  exact ⟨t, h1.below hb, h2, h3⟩
theorem Rp.drawn {w w' : World} {a : Option Addr} {L : List Int} (h : Rp w a L) (hd : Drawn w w') : Rp w' a L := by
  obtain ⟨t, h1, h2, h3⟩ := h
  exact ⟨t, h1.drawn hd, h2, h3⟩
theorem Rp.nil (w : World) : Rp w none [] := ⟨.nil, rfl, trivial, rfl⟩
theorem BalPost.rp {w w' : World} {L : List Int} {h : Nat} {e : Ending} (p : BalPost w L h e w') : ∃ a, e = .returned (.pointer a) ∧ Rp w' a L ∧ Below w.heap.size w w' := by
  obtain ⟨a, t, h1, h2, h3, h4, _, _, h7⟩ := p
  exact ⟨a, h1, ⟨t, h2, h3, h4⟩, h7⟩
/-- joined, of two roots. -/
theorem joinRp (w : World) (al ar : Option Addr) (A B : List Int) (s : Int) (hl : Rp w al A) (hr : Rp w ar B) (ok : LOk (A ++ s :: B)) :
    Calls Try.prog 63 #[.pointer al, .int .i64 s, .pointer ar] w (fun e w' => ∃ a, e = .returned (.pointer a) ∧ Rp w' a (A ++ s :: B) ∧ Below w.heap.size w w') := by
  obtain ⟨l, h1, h2, rfl⟩ := hl
  obtain ⟨r, h3, h4, rfl⟩ := hr
  exact (joined_any _ l r (Nat.le_refl _) w al ar s h1 h3 h2 h4 ok).mono fun e w' hp => hp.rp

def SplitPost (w : World) (A B : List Int) (e : Ending) (w' : World) : Prop := ∃ a1 a2, e = .returned (.tuple #[.pointer a1, .pointer a2]) ∧ Rp w' a1 A ∧ Rp w' a2 B ∧ Below w.heap.size w w'

set_option maxRecDepth 100000 in
set_option maxHeartbeats 1600000 in
theorem split_tr : ∀ (t : T) (w : World) (a : Option Addr) (k : Nat) (x : Int), Tr w a t → t.Bal → LOk t.l → k ≤ t.l.length → x = (k : Int) →
    Calls Try.prog 62 #[.pointer a, .int .i64 x] w (SplitPost w (t.l.take k) (t.l.drop k)) := by
  intro t
  induction t with
  | nil =>
    intro w a k x ht bt ok hk hx
    subst hx
    obtain rfl : a = none := ht
    have H : Hid (SplitPost w (T.nil.l.take k) (T.nil.l.drop k) (.returned (.tuple #[.pointer none, .pointer none])) w) := ⟨none, none, rfl, by rw [T.l_nil, List.take_nil]; exact Rp.nil w, by rw [T.l_nil, List.drop_nil]; exact Rp.nil w, Below.refl _ _⟩
    go_enter Try.func62, Try.ntmps62
    go_wp2_with fail
    go_ret2
    exact H.out
  | node l s r ihl ihr =>
    intro w a k x ht bt ok hk hx
    subst hx
    obtain ⟨b, al, ar, rfl, hrow, h1, h2⟩ := ht
    obtain ⟨d0, d1, d2, _, _, _⟩ := ncells_of hrow
    have ltb := hrow.lt
    obtain ⟨q1, q2, q3, q4⟩ := bt
    have CL := Lib.hid (count_any w al l h1)
    have okn : LOk (l.l ++ s :: r.l) := ok
    have hlen : (T.node l s r).l.length = l.l.length + (r.l.length + 1) := by rw [T.l_node]; simp
    have n1 := ok.len
    have hkl : k ≤ l.l.length + (r.l.length + 1) := by omega
    have n2 : l.l.length + (r.l.length + 1) ≤ 8192 := by omega
    obtain ⟨m, hm⟩ : ∃ m, m = l.l.length := ⟨_, rfl⟩
    by_cases c : m < k
    · have E1 : Hid ((T.node l s r).l.take k = l.l ++ s :: r.l.take (k - m - 1)) := by
        show _ = _
        rw [T.l_node, List.take_append, List.take_of_length_le (by omega), ← hm, show k - m = (k - m - 1) + 1 from by omega, List.take_succ_cons]
        simp
      have E2 : Hid ((T.node l s r).l.drop k = r.l.drop (k - m - 1)) := by
        show _ = _
        rw [T.l_node, List.drop_append, List.drop_of_length_le (by omega), ← hm, show k - m = (k - m - 1) + 1 from by omega, List.drop_succ_cons]
        simp
      have K1 := Lib.hid (ihr w ar (k - m - 1) ((k : Int) - (m : Int) - 1) h2 q2 okn.right.tail (by omega) (by omega))
      have K2 : Hid (∀ W a1, Below w.heap.size w W → Rp W a1 (r.l.take (k - m - 1)) → Calls Try.prog 63 #[.pointer al, .int .i64 s, .pointer a1] W (fun e w' => ∃ a, e = .returned (.pointer a) ∧ Rp w' a (l.l ++ s :: r.l.take (k - m - 1)) ∧ Below W.heap.size W w')) := fun W a1 hb h3 => joinRp W al a1 l.l _ s ⟨l, h1.below hb, q1, rfl⟩ h3 (by
        have := ok.take k
        rwa [E1.out] at this)
      rw [← hm] at CL
      have hci : (m : Int) < (k : Int) := by omega
      have n3 : m ≤ 8192 := by omega
      have n4 : k ≤ 8192 := by omega
      clear ihl ihr h1 h2 hrow ok okn hlen n1 hkl n2 hm hk q1 q2 q3 q4
      go_enter Try.func62, Try.ntmps62
      go_wp2_with fail
      refine (CL.out).mono ?_
      rintro e w' ⟨rfl, rfl⟩
      go_wp2_with fail
      refine (K1.out).mono ?_
      rintro e w1 ⟨a1, a2, rfl, p1, p2, p3⟩
      have B1 := Lib.hid p3
      have c0 := (p3.cell (p := ⟨b, 0, none⟩) ltb).trans d0
      have c2 := (p3.cell (p := ⟨b, 2, none⟩) ltb).trans d2
      have ltb1 : b < w1.heap.size := Nat.lt_of_lt_of_le ltb p3.size
      have S1 : Hid (Below w1.heap.size w1 w1.drew) := (Below.refl _ _).drew
      have HX := Lib.hid (K2.out w1.drew a1 (p3.drew) (p1.drawn ⟨1, rfl⟩))
      have P2 := Lib.hid p2
      clear p1 p2 p3
      go_wp2_with fail
      refine wp_region_plan [(false, 0), (false, 1), (false, 2), (false, 3), (false, 4), (false, 5), (false, 6), (false, 7), (false, 8), (false, 10), (true, 9), (false, 11), (false, 12)] (Below w1.heap.size w1) (by kernel_rfl) (by kernel_rfl) (S1.out) _ (by simp only [pickH, List.getElem?_toArray, List.getElem?_cons_succ, List.getElem?_cons_zero]; rfl) ?_
      repeat (refine HWalk.step (fun K hK => ?_); first | (apply held_yes; (focus rfl); (focus (intro w' hw; obtain ⟨hc', hf'⟩ := below_cells hw; go_simp; rfl)); (go_simp; refine hK _ ?_; clear hK K)) | (refine ite_no (by decide) ?_; go_simp; refine hK _ ?_; clear hK K))
      refine HWalk.mark ?_
      go_wp2_with fail
      refine (HX.out).mono ?_
      rintro e w2 ⟨a3, rfl, p1, p3⟩
      have B2 := Lib.hid (S1.out.trans p3)
      have H : Hid (SplitPost w ((T.node l s r).l.take k) ((T.node l s r).l.drop k) (.returned (.tuple #[.pointer a3, .pointer a2])) w2) := ⟨a3, a2, rfl, by rw [E1.out]; exact p1, by rw [E2.out]; exact P2.out.below B2.out, B1.out.trans (B2.out.mono B1.out.size)⟩
      clear p1 p3
      go_wp2_with fail
      refine ⟨B2.out, ?_⟩
      repeat (refine HWalk.step (fun K hK => ?_); first | (apply held_yes; (focus rfl); (focus (intro w' hw; obtain ⟨hc', hf'⟩ := below_cells hw; go_simp; rfl)); (go_simp; refine hK _ ?_; clear hK K)) | (refine ite_no (by decide) ?_; go_simp; refine hK _ ?_; clear hK K))
      refine HWalk.done ?_
      go_wp2_with fail
      go_ret2
      exact H.out
    · have E1 : Hid ((T.node l s r).l.take k = l.l.take k) := by
        show _ = _
        rw [T.l_node, List.take_append_of_le_length (by omega)]
      have E2 : Hid ((T.node l s r).l.drop k = l.l.drop k ++ s :: r.l) := by
        show _ = _
        rw [T.l_node, List.drop_append_of_le_length (by omega)]
      have K1 := Lib.hid (ihl w al k (k : Int) h1 q1 okn.left (by omega) rfl)
      have K2 : Hid (∀ W a2, Below w.heap.size w W → Rp W a2 (l.l.drop k) → Calls Try.prog 63 #[.pointer a2, .int .i64 s, .pointer ar] W (fun e w' => ∃ a, e = .returned (.pointer a) ∧ Rp w' a (l.l.drop k ++ s :: r.l) ∧ Below W.heap.size W w')) := fun W a2 hb h3 => joinRp W a2 ar _ r.l s h3 ⟨r, h2.below hb, q2, rfl⟩ (by
        have := ok.drop k
        rwa [E2.out] at this)
      rw [← hm] at CL
      have hci : ¬ (m : Int) < (k : Int) := by omega
      have n3 : m ≤ 8192 := by omega
      have n4 : k ≤ 8192 := by omega
      clear ihl ihr h1 h2 hrow ok okn hlen n1 hkl n2 hm hk q1 q2 q3 q4
      go_enter Try.func62, Try.ntmps62
      go_wp2_with fail
      refine (CL.out).mono ?_
      rintro e w' ⟨rfl, rfl⟩
      go_wp2_with fail
      refine (K1.out).mono ?_
      rintro e w1 ⟨a1, a2, rfl, p1, p2, p3⟩
      have B1 := Lib.hid p3
      have c1 := (p3.cell (p := ⟨b, 1, none⟩) ltb).trans d1
      have c2 := (p3.cell (p := ⟨b, 2, none⟩) ltb).trans d2
      have ltb1 : b < w1.heap.size := Nat.lt_of_lt_of_le ltb p3.size
      have S1 : Hid (Below w1.heap.size w1 w1.drew) := (Below.refl _ _).drew
      have HX := Lib.hid (K2.out w1.drew a2 (p3.drew) (p2.drawn ⟨1, rfl⟩))
      have P1 := Lib.hid p1
      clear p1 p2 p3
      go_wp2_with fail
      refine wp_region_plan [(false, 0), (false, 1), (false, 2), (false, 3), (false, 4), (false, 5), (false, 6), (false, 7), (false, 8), (false, 9), (true, 10), (false, 11), (false, 12)] (Below w1.heap.size w1) (by kernel_rfl) (by kernel_rfl) (S1.out) _ (by simp only [pickH, List.getElem?_toArray, List.getElem?_cons_succ, List.getElem?_cons_zero]; rfl) ?_
      repeat (refine HWalk.step (fun K hK => ?_); first | (apply held_yes; (focus rfl); (focus (intro w' hw; obtain ⟨hc', hf'⟩ := below_cells hw; go_simp; rfl)); (go_simp; refine hK _ ?_; clear hK K)) | (refine ite_no (by decide) ?_; go_simp; refine hK _ ?_; clear hK K))
      refine HWalk.mark ?_
      go_wp2_with fail
      refine (HX.out).mono ?_
      rintro e w2 ⟨a3, rfl, p2, p3⟩
      have B2 := Lib.hid (S1.out.trans p3)
      have H : Hid (SplitPost w ((T.node l s r).l.take k) ((T.node l s r).l.drop k) (.returned (.tuple #[.pointer a1, .pointer a3])) w2) := ⟨a1, a3, rfl, by rw [E1.out]; exact P1.out.below B2.out, by rw [E2.out]; exact p2, B1.out.trans (B2.out.mono B1.out.size)⟩
      clear p2 p3
      go_wp2_with fail
      refine ⟨B2.out, ?_⟩
      repeat (refine HWalk.step (fun K hK => ?_); first | (apply held_yes; (focus rfl); (focus (intro w' hw; obtain ⟨hc', hf'⟩ := below_cells hw; go_simp; rfl)); (go_simp; refine hK _ ?_; clear hK K)) | (refine ite_no (by decide) ?_; go_simp; refine hK _ ?_; clear hK K))
      refine HWalk.done ?_
      go_wp2_with fail
      go_ret2
      exact H.out
/-- split, of a root. -/
theorem split_any (w : World) (a : Option Addr) (L : List Int) (k : Nat) (x : Int) (h : Rp w a L) (ok : LOk L) (hk : k ≤ L.length) (hx : x = (k : Int)) :
    Calls Try.prog 62 #[.pointer a, .int .i64 x] w (SplitPost w (L.take k) (L.drop k)) := by
  obtain ⟨t, h1, h2, rfl⟩ := h
  exact split_tr t w a k x h1 h2 ok hk hx

set_option maxRecDepth 100000 in
set_option maxHeartbeats 1600000 in
theorem put_any (w : World) (al ar : Option Addr) (A B : List Int) (hl : Rp w al A) (hr : Rp w ar B) (ok : LOk (A ++ B)) :
    Calls Try.prog 56 #[.pointer al, .pointer ar] w (fun e w' => ∃ a, e = .returned (.pointer a) ∧ Rp w' a (A ++ B) ∧ Below w.heap.size w w') := by
  cases B with
  | nil =>
    obtain ⟨t, h1, h2, h3⟩ := hr
    obtain rfl := T.l_empty h3
    obtain rfl : ar = none := h1
    have H : Hid (∃ a, Ending.returned (.pointer al) = .returned (.pointer a) ∧ Rp w a (A ++ []) ∧ Below w.heap.size w w) := ⟨al, rfl, by rw [List.append_nil]; exact hl, Below.refl _ _⟩
    clear hl h2 h3
    go_enter Try.func56, Try.ntmps56
    go_wp2_with fail
    go_ret
    exact H.out
  | cons y B =>
    obtain ⟨t, h1, h2, h3⟩ := hr
    obtain ⟨tl, ts, tr, rfl⟩ := T.l_pos (t := t) (by rw [h3]; simp)
    have hsome : ∃ ad, ar = some ad := by obtain ⟨b, _, _, e, _⟩ := h1; exact ⟨_, e⟩
    obtain ⟨ad, rfl⟩ := hsome
    have KS := Lib.hid (split_any w (some ad) (y :: B) 1 1 ⟨_, h1, h2, h3⟩ ok.right (by simp) rfl)
    have HL := Lib.hid hl
    have OK := Lib.hid ok
    clear hl ok h1 h2 h3
    go_enter Try.func56, Try.ntmps56
    go_wp2_with fail
    refine (KS.out).mono ?_
    rintro e w1 ⟨a1, a2, rfl, p1, p2, p3⟩
    obtain ⟨t1, g1, g2, g3⟩ := p1
    obtain ⟨ul, us, ur, rfl⟩ := T.l_pos (t := t1) (by rw [g3]; simp)
    obtain ⟨b, _, _, rfl, hrow, _, _⟩ := g1
    obtain ⟨_, _, c2, _, _, _⟩ := ncells_of hrow
    have e0 : us = y := by
      rw [T.l_node] at g3
      have hl0 := congrArg List.length g3
      simp at hl0
      obtain ⟨z1, z2⟩ : ul.l = [] ∧ ur.l = [] := ⟨by apply List.eq_nil_of_length_eq_zero; omega, by apply List.eq_nil_of_length_eq_zero; omega⟩
      rw [z1, z2] at g3
      simpa using g3
    subst e0
    have HJ := Lib.hid (joinRp w1 al a2 A B us (HL.out.below p3) p2 OK.out)
    have B1 := Lib.hid p3
    clear hrow g2 g3 p2 p3
    go_wp2_with fail
    refine (HJ.out).mono ?_
    rintro e w2 ⟨a3, rfl, p1, p2⟩
    have H : Hid (∃ a, Ending.returned (.pointer a3) = .returned (.pointer a) ∧ Rp w2 a (A ++ us :: B) ∧ Below w.heap.size w w2) := ⟨a3, rfl, p1, B1.out.trans (p2.mono B1.out.size)⟩
    clear p1 p2
    go_wp2_with fail
    go_ret
    exact H.out
end Go.Proofs.Ytngbaiijdgmpoaa

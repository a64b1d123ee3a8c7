/-
  Contracts of package ropes, eleventh: find, At.
-/
import Derived.Test.YtngbaiijdgmpoaaRopJ
namespace Go.Proofs.Ytngbaiijdgmpoaa
open Go.RowKit
set_option linter.unusedVariables false
set_option linter.unusedSimpArgs false

theorem lf_l_lt {l r : T} {s : Int} {k : Nat} (h : k < l.l.length) : lf (T.node l s r).l k = lf l.l k := by
  unfold lf; rw [T.l_node, List.getD_eq_getElem?_getD, List.getD_eq_getElem?_getD, List.getElem?_append_left h]
theorem lf_l_mid {l r : T} {s : Int} : lf (T.node l s r).l l.l.length = s := by
  unfold lf; rw [T.l_node, List.getD_eq_getElem?_getD, List.getElem?_append_right (Nat.le_refl _)]; simp
theorem lf_l_gt {l r : T} {s : Int} {k : Nat} (h : l.l.length < k) : lf (T.node l s r).l k = lf r.l (k - l.l.length - 1) := by
  unfold lf
  rw [T.l_node, List.getD_eq_getElem?_getD, List.getD_eq_getElem?_getD, List.getElem?_append_right (by omega)]
  obtain ⟨m, rfl⟩ : ∃ m, k = l.l.length + 1 + m := ⟨k - l.l.length - 1, by omega⟩
  rw [show l.l.length + 1 + m - l.l.length = m + 1 from by omega, show m + 1 - 1 = m from by omega, List.getElem?_cons_succ]
def FindPost (w : World) (x : Int) (e : Ending) (w' : World) : Prop := (∃ b, e = .returned (.pointer (some ⟨b, 0, none⟩)) ∧ w.cell? ⟨b, 2, none⟩ = some (.int .i64 x)) ∧ w = w'
set_option maxRecDepth 100000 in
set_option maxHeartbeats 800000 in
theorem find_tr (t : T) : ∀ (w : World) (a : Option Addr) (k : Nat), Tr w a t → t.l.length ≤ 8192 → k < t.l.length → ∀ x : Int, x = (k : Int) → Calls Try.prog 49 #[.pointer a, .int .i64 x] w (FindPost w (lf t.l k)) := by
  induction t with
  | nil => intro w a k _ _ hk; exact absurd hk (by simp [T.l])
  | node l s r ihl ihr =>
    intro w a k h hb hk x hx
    obtain ⟨b, al, ar, rfl, hr, h1, h2⟩ := h
    obtain ⟨c0, c1, c2, c3, c4, c5⟩ := ncells_of hr
    have el : (T.node l s r).l.length = l.l.length + (r.l.length + 1) := by rw [T.l_node]; simp
    rw [el] at hk hb
    have C := Lib.hid (count_any w al l h1)
    rcases Nat.lt_trichotomy k l.l.length with c | c | c
    · have K := Lib.hid (ihl w al k h1 (by omega) c x hx)
      rw [lf_l_lt c]
      obtain ⟨n, hn⟩ : ∃ n, n = l.l.length := ⟨_, rfl⟩
      rw [← hn] at C c
      subst hx
      clear hr c3 c4 c5 hn ihl ihr el hk h1 h2
      go_enter Try.func49, Try.ntmps49
      go_wp2_with fail
      refine (C.out).mono ?_
      rintro e w' ⟨rfl, rfl⟩
      go_wp2_with fail
      refine (K.out).mono ?_
      rintro e w' ⟨⟨b', rfl, g⟩, rfl⟩
      go_wp2_with fail
      go_ret
      exact ⟨⟨b', rfl, g⟩, rfl⟩
    · subst c
      rw [lf_l_mid]
      obtain ⟨n, hn⟩ : ∃ n, n = l.l.length := ⟨_, rfl⟩
      rw [← hn] at C hx
      subst hx
      clear hr c3 c4 c5 hn ihl ihr el hk h1 h2
      go_enter Try.func49, Try.ntmps49
      go_wp2_with fail
      refine (C.out).mono ?_
      rintro e w' ⟨rfl, rfl⟩
      go_wp2_with fail
      go_ret
      exact ⟨⟨b, rfl, c2⟩, rfl⟩
    · have K := Lib.hid (ihr w ar (k - l.l.length - 1) h2 (by omega) (by omega) ((k : Int) - (l.l.length : Int) - 1) (by omega))
      rw [lf_l_gt c]
      obtain ⟨n, hn⟩ : ∃ n, n = l.l.length := ⟨_, rfl⟩
      rw [← hn] at C c K ⊢
      subst hx
      clear hr c3 c4 c5 hn ihl ihr el h1 h2
      go_enter Try.func49, Try.ntmps49
      go_wp2_with fail
      refine (C.out).mono ?_
      rintro e w' ⟨rfl, rfl⟩
      go_wp2_with fail
      refine (K.out).mono ?_
      rintro e w' ⟨⟨b', rfl, g⟩, rfl⟩
      go_wp2_with fail
      go_ret
      exact ⟨⟨b', rfl, g⟩, rfl⟩

def atErr (L : List Int) (x : Int) : Int := if x < 0 ∨ (L.length : Int) ≤ x then 4 else 0
def atVal (L : List Int) (x : Int) : Int := if x < 0 ∨ (L.length : Int) ≤ x then 0 else lf L x.toNat
set_option maxRecDepth 100000 in
set_option maxHeartbeats 800000 in
theorem rat_any (w : World) (a : Option Addr) (L : List Int) (h : Rp w a L) (hl : L.length ≤ 8192) (x : Int) (hx : Fits x) :
    Calls Try.prog 32 #[.agg #[.pointer a], .int .i64 x] w fun e w' => e = .returned (.tuple #[.int .i64 (atVal L x), .int .i64 (atErr L x)]) ∧ Below w.heap.size w w' := by
  have B : Hid (Below w.heap.size w (w.alloc (.cells #[.pointer a] 29))) := (Below.refl _ w).alloc (Nat.le_refl _) _
  have C := Lib.hid (rlen_any _ a L (h.below B.out))
  obtain ⟨t, h1, _, rfl⟩ := h
  have HT := Lib.hid (h1.below B.out)
  clear h1
  by_cases c0 : x < 0
  · have e1 : atVal t.l x = 0 := by unfold atVal; rw [if_pos (.inl c0)]
    have e2 : atErr t.l x = 4 := by unfold atErr; rw [if_pos (.inl c0)]
    rw [e1, e2]
    clear e1 e2
    go_enter Try.func32, Try.ntmps32
    go_wp2_with fail
    go_ret2
    exact ⟨rfl, B.out⟩
  obtain ⟨k, rfl⟩ : ∃ k : Nat, x = (k : Int) := ⟨x.toNat, by omega⟩
  by_cases c1 : t.l.length ≤ k
  · have e1 : atVal t.l k = 0 := by unfold atVal; rw [if_pos (.inr (by omega))]
    have e2 : atErr t.l k = 4 := by unfold atErr; rw [if_pos (.inr (by omega))]
    rw [e1, e2]
    obtain ⟨n, hn⟩ : ∃ n, n = t.l.length := ⟨_, rfl⟩
    rw [← hn] at C c1 hl
    clear e1 e2 HT hn
    go_enter Try.func32, Try.ntmps32
    go_wp2_with fail
    refine (C.out).mono ?_
    rintro e w1 ⟨rfl, hb⟩
    have H := Lib.hid (B.out.trans (hb.mono B.out.size))
    clear hb
    go_wp2_with fail
    go_ret2
    exact ⟨rfl, H.out⟩
  · have e1 : atVal t.l k = lf t.l k := by unfold atVal; rw [if_neg (by omega), Int.toNat_natCast]
    have e2 : atErr t.l k = 0 := by unfold atErr; rw [if_neg (by omega)]
    rw [e1, e2]
    have K : Hid (∀ W, Tr W a t → Calls Try.prog 49 #[.pointer a, .int .i64 k] W (FindPost W (lf t.l k))) := fun W hW => find_tr t W a k hW hl (by omega) k rfl
    obtain ⟨n, hn⟩ : ∃ n, n = t.l.length := ⟨_, rfl⟩
    obtain ⟨v, hv⟩ : ∃ v, v = lf t.l k := ⟨_, rfl⟩
    rw [← hv] at K ⊢
    rw [← hn] at C c1 hl
    clear e1 e2 hn hv
    go_enter Try.func32, Try.ntmps32
    go_wp2_with fail
    refine (C.out).mono ?_
    rintro e w1 ⟨rfl, hb⟩
    have H := Lib.hid (B.out.trans (hb.mono B.out.size))
    have d1 := (World.rowIs.of_block (Var.mk w 29 (.pointer a)) (hb.block _ (by rw [World.size_alloc]; omega))).cell (i := 0) (by omega)
    have HT1 := Lib.hid (HT.out.below hb)
    clear hb
    go_wp2_with fail
    refine (K.out w1 HT1.out).mono ?_
    rintro e w2 ⟨⟨b, rfl, g⟩, rfl⟩
    go_wp2_with fail
    go_ret2
    exact ⟨rfl, H.out⟩
end Go.Proofs.Ytngbaiijdgmpoaa

/-
  Contracts of package ropes, thirteenth: Sum.
-/
import Derived.Test.YtngbaiijdgmpoaaRopL
namespace Go.Proofs.Ytngbaiijdgmpoaa
open Go.RowKit
set_option linter.unusedVariables false
set_option linter.unusedSimpArgs false

/-- How many sizes a node says that it has. -/
def cntOf (w : World) (v : Value) : Nat := match v with
  | .pointer (some p) => match w.cell? ⟨p.block, 3, none⟩ with
    | some u => (intOf u).toNat
    | none => 0
  | _ => 0
theorem cntOf_tr {w : World} {a : Option Addr} {t : T} (h : Tr w a t) : cntOf w (.pointer a) = t.l.length := by
  cases t with
  | nil =>
    obtain rfl : a = none := h
    rfl
  | node l s r =>
    obtain ⟨b, al, ar, rfl, hr, _, _⟩ := h
    obtain ⟨_, _, _, c3, _, _⟩ := ncells_of hr
    simp only [cntOf, c3]
    simp [intOf]
theorem take_l_le {l r : T} {s : Int} {m : Nat} (h : m ≤ l.l.length) : (T.node l s r).l.take m = l.l.take m := by
  rw [T.l_node, List.take_append_of_le_length h]
theorem take_l_gt {l r : T} {s : Int} {q : Nat} : ((T.node l s r).l.take (l.l.length + 1 + q)).sum = l.l.sum + s + (r.l.take q).sum := by
  rw [T.l_node, show l.l.length + 1 + q = l.l.length + (1 + q) from by omega, List.take_length_add_append, show 1 + q = q + 1 from by omega, List.take_succ_cons, List.sum_append, List.sum_cons]; omega
def sumErr (L : List Int) (x : Int) : Int := if x < 0 ∨ (L.length : Int) < x then 4 else 0
def sumVal (L : List Int) (x : Int) : Int := if x < 0 ∨ (L.length : Int) < x then 0 else psum (lf L) x.toNat

set_option maxRecDepth 100000 in
set_option maxHeartbeats 1600000 in
theorem rsum_any (w : World) (a : Option Addr) (L : List Int) (h : Rp w a L) (ok : LOk L) (x : Int) (fx : Fits x) :
    Calls Try.prog 30 #[.agg #[.pointer a], .int .i64 x] w fun e w' => e = .returned (.tuple #[.int .i64 (sumVal L x), .int .i64 (sumErr L x)]) ∧ Below w.heap.size w w' := by
  have B : Hid (Below w.heap.size w (w.alloc (.cells #[.pointer a] 29))) := (Below.refl _ w).alloc (Nat.le_refl _) _
  have hl := ok.len
  have C := Lib.hid (rlen_any _ a L (h.below B.out))
  obtain ⟨t, h1, _, rfl⟩ := h
  have HT := Lib.hid (h1.below B.out)
  clear h1
  by_cases c0 : x < 0
  · have e1 : sumVal t.l x = 0 := by unfold sumVal; rw [if_pos (.inl c0)]
    have e2 : sumErr t.l x = 4 := by unfold sumErr; rw [if_pos (.inl c0)]
    rw [e1, e2]
    clear e1 e2
    go_enter Try.func30, Try.ntmps30
    go_wp2_with fail
    go_ret2
    exact ⟨rfl, B.out⟩
  obtain ⟨k, rfl⟩ : ∃ k : Nat, x = (k : Int) := ⟨x.toNat, by omega⟩
  by_cases c1 : t.l.length < k
  · have e1 : sumVal t.l k = 0 := by unfold sumVal; rw [if_pos (.inr (by omega))]
    have e2 : sumErr t.l k = 4 := by unfold sumErr; rw [if_pos (.inr (by omega))]
    rw [e1, e2]
    obtain ⟨n, hn⟩ : ∃ n, n = t.l.length := ⟨_, rfl⟩
    rw [← hn] at C c1 hl
    clear e1 e2 HT hn ok
    go_enter Try.func30, Try.ntmps30
    go_wp2_with fail
    refine (C.out).mono ?_
    rintro e w1 ⟨rfl, hb⟩
    have H := Lib.hid (B.out.trans (hb.mono B.out.size))
    clear hb
    go_wp2_with fail
    go_ret2
    exact ⟨rfl, H.out⟩
  have e1 : sumVal t.l k = (t.l.take k).sum := by unfold sumVal; rw [if_neg (by omega), Int.toNat_natCast, psum_lf _ _ (by omega)]
  have e2 : sumErr t.l k = 0 := by unfold sumErr; rw [if_neg (by omega)]
  rw [e1, e2]
  have OK := Lib.hid ok
  have hS0 := (ok.take k).sum0
  have hS1 := (ok.take k).top
  obtain ⟨S, eS⟩ : ∃ S, S = (t.l.take k).sum := ⟨_, rfl⟩
  have ES := Lib.hid eS
  rw [← eS] at hS0 hS1 ⊢
  have C1 := Lib.hid c1
  obtain ⟨n, hn⟩ : ∃ n, n = t.l.length := ⟨_, rfl⟩
  rw [← hn] at C c1 hl
  clear e1 e2 eS hn ok
  go_enter Try.func30, Try.ntmps30
  go_wp2_with fail
  refine (C.out).mono ?_
  rintro e w1 ⟨rfl, hb⟩
  have H := Lib.hid (B.out.trans (hb.mono B.out.size))
  have d1 := (World.rowIs.of_block (Var.mk w 29 (.pointer a)) (hb.block _ (by rw [World.size_alloc]; omega))).cell (i := 0) (by omega)
  have HT1 := Lib.hid (HT.out.below hb)
  clear hb HT C
  go_wp2_with fail
  clear d1
  go_loopw [1, 6, 7] (fun i s p wr => ∃ (m : Nat) (acc : Int) (a' : Option Addr) (u : T), i = .int .i64 m ∧ s = .int .i64 acc ∧ p = .pointer a' ∧ m ≤ 8192 ∧ 0 ≤ acc ∧ Hid (Tr wr a' u ∧ LOk u.l ∧ m ≤ u.l.length ∧ acc + (u.l.take m).sum = S) ∧ Hid (Below w.heap.size w wr)) (fun _ _ p wr => cntOf wr p)
  case atStart => exact ⟨k, 0, a, t, rfl, rfl, rfl, by omega, by omega, ⟨HT1.out, OK.out, by have := C1.out; omega, by rw [← ES.out]; omega⟩, H.out⟩
  case round =>
    obtain ⟨m, acc, a', u, rfl, rfl, rfl, hm, hacc, hU, hB⟩ := hrel
    clear HT1 H OK ES C1
    obtain ⟨u1, u2, u3, u4⟩ := hU.out
    clear hU
    cases u with
    | nil =>
      obtain rfl : a' = none := u1
      have em : m = 0 := by simpa [T.l] using u3
      subst em
      have ea : acc = S := by simpa [T.l] using u4
      subst ea
      clear u2 u3 u4
      go_wp2_with fail
      go_ret2
      exact ⟨rfl, hB.out⟩
    | node l s r =>
      have M := Lib.hid (cntOf_tr u1)
      obtain ⟨b, al, ar, rfl, hr, h1, h2⟩ := u1
      obtain ⟨c0', c1', c2', c3', c4', c5'⟩ := ncells_of hr
      have hlt := World.rowIs.lt hr
      have C := Lib.hid (count_any wr al l h1)
      have hlen : l.l.length ≤ 8192 := by have := u2.len; rw [T.l_node] at this; simp at this; omega
      clear hr c3' c4' c5'
      by_cases m0 : m = 0
      · subst m0
        have ea : acc = S := by simpa using u4
        subst ea
        clear u2 u3 u4 h1 h2 C hlen c0' c1' c2' hlt
        go_wp2_with fail
        go_ret2
        exact ⟨rfl, hB.out⟩
      by_cases c : m ≤ l.l.length
      · rw [take_l_le c] at u4
        rw [T.l_node] at u2
        have R := Lib.hid (And.intro h1 (And.intro u2.left (And.intro c u4)))
        have MM := Lib.hid (And.intro (cntOf_tr h1) M.out)
        obtain ⟨nl, enl⟩ : ∃ nl, nl = l.l.length := ⟨_, rfl⟩
        rw [← enl] at C c hlen
        clear u2 u3 u4 h1 h2 enl c1' c2' M
        go_wp2_with fail
        refine (C.out).mono ?_
        rintro e w' ⟨rfl, rfl⟩
        go_wp2_with fail
        go_roundw
        case rel => exact ⟨m, acc, al, l, rfl, rfl, rfl, hm, hacc, R.out, hB.out⟩
        case measure =>
          rw [MM.out.1, MM.out.2, T.l_node]; simp
      · obtain ⟨q, rfl⟩ : ∃ q, m = l.l.length + 1 + q := ⟨m - l.l.length - 1, by omega⟩
        rw [take_l_gt] at u4
        rw [T.l_node] at u2 u3
        have hs0 : 0 ≤ s := u2.nn s (by simp)
        have hl0 := u2.left.sum0
        have or' : LOk r.l := u2.right.of (fun x hx => by simp [hx]) (by simp) (by rw [List.sum_cons]; omega)
        have hr0 := (or'.take q).sum0
        have hq : q ≤ r.l.length := by simp at u3; omega
        have R := Lib.hid (And.intro h2 (And.intro or' (And.intro hq u4)))
        have MM := Lib.hid (And.intro (cntOf_tr h2) M.out)
        have S0 : Hid (Below wr.heap.size wr wr.drew) := (Below.refl _ _).drew
        have KT := Lib.hid (total_any wr.drew al l (h1.below S0.out))
        have hsum : acc + (l.l.sum + s) ≤ 4611686018427387904 := by omega
        clear u4 u3 u2
        obtain ⟨nl, enl⟩ : ∃ nl, nl = l.l.length := ⟨_, rfl⟩
        obtain ⟨tl, etl⟩ : ∃ tl, tl = l.l.sum := ⟨_, rfl⟩
        rw [← enl] at C c hlen m0 hm ⊢
        rw [← etl] at KT hl0 hsum R
        have HW1 : Hid (IntKind.i64.wrap (tl + s) = tl + s) := IntWalk.i64_in _ (by omega)
        have HW2 : Hid (IntKind.i64.wrap (acc + (tl + s)) = acc + (tl + s)) := IntWalk.i64_in _ (by omega)
        clear enl etl h1 h2 M or' hr0 hq
        go_wp2_with fail
        refine (C.out).mono ?_
        rintro e w' ⟨rfl, rfl⟩
        go_wp2_with fail
        refine wp_region_plan [(false, 0), (false, 1), (false, 2), (false, 3), (false, 4), (false, 6), (false, 7), (false, 8), (false, 9), (true, 5), (false, 10), (false, 11), (false, 12)] (Below wr.heap.size wr) (by kernel_rfl) (by kernel_rfl) (S0.out) _ (by simp only [pickH, List.getElem?_toArray, List.getElem?_cons_succ, List.getElem?_cons_zero]; rfl) ?_
        repeat (refine HWalk.step (fun K hK => ?_); first | (apply held_yes; (focus rfl); (focus (intro w' hw; obtain ⟨hc', hf'⟩ := below_cells hw; go_simp; rfl)); (go_simp; refine hK _ ?_; clear hK K)) | (refine ite_no (by decide) ?_; go_simp; refine hK _ ?_; clear hK K))
        refine HWalk.mark ?_
        go_wp2_with fail
        refine (KT.out).mono ?_
        rintro e w2 ⟨rfl, rfl⟩
        go_wp2_with fail
        have hw1 := HW1.out
        have hw2 := HW2.out
        refine ⟨S0.out, ?_⟩
        repeat (refine HWalk.step (fun K hK => ?_); first | (apply held_yes; (focus rfl); (focus (intro w' hw; obtain ⟨hc', hf'⟩ := below_cells hw; go_simp; rfl)); (go_simp; refine hK _ ?_; clear hK K)) | (refine ite_no (by decide) ?_; go_simp; refine hK _ ?_; clear hK K))
        clear hw1 hw2
        refine HWalk.done ?_
        go_wp2_with fail
        go_wp2_with fail
        go_roundw
        case rel => exact ⟨q, acc + (tl + s), ar, r, by go_num, rfl, rfl, by omega, by omega, ⟨R.out.1.below S0.out, R.out.2.1, R.out.2.2.1, by have := R.out.2.2.2; omega⟩, hB.out.drew⟩
        case measure =>
          rw [cntOf_tr (R.out.1.below S0.out), MM.out.2, T.l_node]; simp; omega
end Go.Proofs.Ytngbaiijdgmpoaa

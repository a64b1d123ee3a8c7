/-
  Contracts of package ropes, fourteenth: Find.
-/
import Derived.Test.YtngbaiijdgmpoaaRopM
namespace Go.Proofs.Ytngbaiijdgmpoaa
open Go.RowKit
set_option linter.unusedVariables false
set_option linter.unusedSimpArgs false

/-- The place of an offset in a list. -/
def Place (L : List Int) (y : Int) (j : Nat) (rest : Int) : Prop := j < L.length ∧ (L.take j).sum ≤ y ∧ y < (L.take (j + 1)).sum ∧ y - (L.take j).sum = rest
theorem sum_take_le {L : List Int} (h : ∀ x ∈ L, 0 ≤ x) (k : Nat) : (L.take k).sum ≤ L.sum := by
  have e := congrArg List.sum (List.take_append_drop k L)
  rw [List.sum_append] at e
  have := sum_nn (fun x (hx : x ∈ L.drop k) => h x (List.mem_of_mem_drop hx))
  omega
theorem Place.left {l r : T} {s y rest : Int} {j : Nat} (ok : LOk (T.node l s r).l) (h : Place (T.node l s r).l y j rest) (hy : y < l.l.sum) : Place l.l y j rest := by
  obtain ⟨h1, h2, h3, h4⟩ := h
  have hj : j < l.l.length := by
    rcases Nat.lt_or_ge j l.l.length with c | c
    · exact c
    · exfalso
      have e : (l.l ++ s :: r.l).take j = l.l ++ (s :: r.l).take (j - l.l.length) := by rw [List.take_append]; rw [List.take_of_length_le c]
      rw [T.l_node, e, List.sum_append] at h2
      rw [T.l_node] at ok
      have := (ok.right.take (j - l.l.length)).sum0
      omega
  rw [take_l_le (by omega)] at h2 h4
  rw [take_l_le (by omega)] at h3
  exact ⟨hj, h2, h3, h4⟩
theorem Place.mid {l r : T} {s y rest : Int} {j : Nat} (ok : LOk (T.node l s r).l) (h : Place (T.node l s r).l y j rest) (h0 : l.l.sum ≤ y) (h1 : y < l.l.sum + s) : j = l.l.length ∧ y - l.l.sum = rest := by
  obtain ⟨g1, g2, g3, g4⟩ := h
  rw [T.l_node] at ok
  rcases Nat.lt_trichotomy j l.l.length with c | c | c
  · exfalso
    rw [take_l_le (by omega)] at g3
    have := sum_take_le ok.left.nn (j + 1)
    omega
  · subst c
    rw [take_l_le (Nat.le_refl _), List.take_length] at g4
    exact ⟨rfl, g4⟩
  · exfalso
    obtain ⟨q, rfl⟩ : ∃ q, j = l.l.length + 1 + q := ⟨j - l.l.length - 1, by omega⟩
    rw [take_l_gt] at g2
    have := sum_nn (fun x (hx : x ∈ r.l.take q) => ok.right.nn x (by have := List.mem_of_mem_take hx; simp [this]))
    omega
theorem Place.right {l r : T} {s y rest : Int} {j : Nat} (ok : LOk (T.node l s r).l) (h : Place (T.node l s r).l y j rest) (h1 : l.l.sum + s ≤ y) : ∃ q, j = l.l.length + 1 + q ∧ Place r.l (y - (l.l.sum + s)) q rest := by
  obtain ⟨g1, g2, g3, g4⟩ := h
  have hn := ok.nn
  rw [T.l_node] at ok
  have hs0 : 0 ≤ s := ok.nn s (by simp)
  rcases Nat.lt_or_ge l.l.length j with c | c
  · obtain ⟨q, rfl⟩ : ∃ q, j = l.l.length + 1 + q := ⟨j - l.l.length - 1, by omega⟩
    refine ⟨q, rfl, ?_⟩
    rw [take_l_gt] at g2 g4
    rw [show l.l.length + 1 + q + 1 = l.l.length + 1 + (q + 1) from by omega, take_l_gt] at g3
    rw [T.l_node] at g1
    simp at g1
    exact ⟨by omega, by omega, by omega, by omega⟩
  · exfalso
    have : ((T.node l s r).l.take (j + 1)).sum ≤ ((T.node l s r).l.take (l.l.length + 1 + 0)).sum := by
      have e := sum_take_le (L := (T.node l s r).l.take (l.l.length + 1 + 0)) (fun x hx => hn x (List.mem_of_mem_take hx)) (j + 1)
      rwa [List.take_take, Nat.min_eq_left (by omega)] at e
    rw [take_l_gt] at this
    simp at this
    omega

set_option maxRecDepth 100000 in
set_option maxHeartbeats 1600000 in
theorem rfind_bad (w : World) (a : Option Addr) (L : List Int) (h : Rp w a L) (ok : LOk L) (x : Int) (fx : Fits x) (hx : x < 0 ∨ L.sum ≤ x) :
    Calls Try.prog 31 #[.agg #[.pointer a], .int .i64 x] w fun e w' => e = .returned (.tuple #[.int .i64 0, .int .i64 0, .int .i64 4]) ∧ Below w.heap.size w w' := by
  have B : Hid (Below w.heap.size w (w.alloc (.cells #[.pointer a] 29))) := (Below.refl _ w).alloc (Nat.le_refl _) _
  have C := Lib.hid (rtotal_any _ a L (h.below B.out))
  have hs0 := ok.sum0
  have hs1 := ok.top
  obtain ⟨n, hn⟩ : ∃ n, n = L.sum := ⟨_, rfl⟩
  rw [← hn] at C hx hs0 hs1
  clear hn h ok
  by_cases c0 : x < 0
  · clear hx
    go_enter Try.func31, Try.ntmps31
    go_wp2_with fail
    go_ret3
    exact ⟨rfl, B.out⟩
  · have c1 : n ≤ x := by omega
    clear hx
    go_enter Try.func31, Try.ntmps31
    go_wp2_with fail
    refine (C.out).mono ?_
    rintro e w1 ⟨rfl, hb⟩
    have H := Lib.hid (B.out.trans (hb.mono B.out.size))
    clear hb
    go_wp2_with fail
    go_ret3
    exact ⟨rfl, H.out⟩
set_option maxRecDepth 100000 in
set_option maxHeartbeats 1600000 in
theorem rfind_ok (w : World) (a : Option Addr) (L : List Int) (h : Rp w a L) (ok : LOk L) (x : Int) (I : Nat) (rest : Int) (hp : Place L x I rest) (hx0 : 0 ≤ x) (hx1 : x < L.sum) :
    Calls Try.prog 31 #[.agg #[.pointer a], .int .i64 x] w fun e w' => e = .returned (.tuple #[.int .i64 I, .int .i64 rest, .int .i64 0]) ∧ Below w.heap.size w w' := by
  have B : Hid (Below w.heap.size w (w.alloc (.cells #[.pointer a] 29))) := (Below.refl _ w).alloc (Nat.le_refl _) _
  have hl := ok.len
  have hs1 := ok.top
  have C := Lib.hid (rtotal_any _ a L (h.below B.out))
  obtain ⟨t, h1, _, rfl⟩ := h
  have HT := Lib.hid (h1.below B.out)
  have hI : I ≤ 8192 := by have := hp.1; omega
  have HP := Lib.hid hp
  have OK := Lib.hid ok
  clear h1 hp ok
  obtain ⟨n, hn⟩ : ∃ n, n = t.l.sum := ⟨_, rfl⟩
  rw [← hn] at C hx1 hs1
  have HN := Lib.hid hn
  clear hn hl
  go_enter Try.func31, Try.ntmps31
  go_wp2_with fail
  refine (C.out).mono ?_
  rintro e w1 ⟨rfl, hb⟩
  have H := Lib.hid (B.out.trans (hb.mono B.out.size))
  have d1 := (World.rowIs.of_block (Var.mk w 29 (.pointer a)) (hb.block _ (by rw [World.size_alloc]; omega))).cell (i := 0) (by omega)
  have HT1 := Lib.hid (HT.out.below hb)
  clear hb HT C
  go_wp2_with fail
  clear d1
  go_loopw [4, 5, 7] (fun i s p wr => ∃ (c : Nat) (y : Int) (a' : Option Addr) (u : T) (j : Nat), i = .int .i64 c ∧ s = .int .i64 y ∧ p = .pointer a' ∧ c + j = I ∧ 0 ≤ y ∧ y ≤ 4611686018427387904 ∧ Hid (Tr wr a' u ∧ LOk u.l ∧ Place u.l y j rest) ∧ Hid (Below w.heap.size w wr)) (fun _ _ p wr => cntOf wr p)
  case atStart => exact ⟨0, x, a, t, I, rfl, rfl, rfl, by omega, by omega, by omega, ⟨HT1.out, OK.out, HP.out⟩, H.out⟩
  case round =>
    obtain ⟨c, y, a', u, j, rfl, rfl, rfl, hcj, hy0, hy1, hU, hB⟩ := hrel
    clear HT1 H OK HP HN
    obtain ⟨u1, u2, u3⟩ := hU.out
    clear hU
    cases u with
    | nil => exact absurd u3.1 (by simp [T.l])
    | node l s r =>
      have M := Lib.hid (cntOf_tr u1)
      obtain ⟨b, al, ar, rfl, hr, h1, h2⟩ := u1
      obtain ⟨c0', c1', c2', c3', c4', c5'⟩ := ncells_of hr
      have KT := Lib.hid (total_any wr al l h1)
      have KC := Lib.hid (count_any wr al l h1)
      have u2' := u2
      rw [T.l_node] at u2'
      have hlen : l.l.length ≤ 8192 := u2'.left.len
      have hs0 : 0 ≤ s := u2'.nn s (by simp)
      have hl0 := u2'.left.sum0
      have or' : LOk r.l := u2'.right.of (fun x hx => by simp [hx]) (by simp) (by rw [List.sum_cons]; omega)
      have hr0 := or'.sum0
      have ht : l.l.sum + s ≤ 4611686018427387904 := by have := u2'.top; rw [List.sum_append, List.sum_cons] at this; omega
      clear hr c3' c4' c5' u2'
      by_cases q1 : y < l.l.sum
      · have R := Lib.hid (And.intro h1 (And.intro (show LOk l.l from by rw [T.l_node] at u2; exact u2.left) (u3.left u2 q1)))
        have MM := Lib.hid (And.intro (cntOf_tr h1) M.out)
        obtain ⟨tl, etl⟩ : ∃ tl, tl = l.l.sum := ⟨_, rfl⟩
        rw [← etl] at KT hl0 ht q1
        clear u2 u3 h1 h2 etl c1' c2' M or' hr0 KC hlen
        go_wp2_with fail
        refine (KT.out).mono ?_
        rintro e w' ⟨rfl, rfl⟩
        go_wp2_with fail
        go_roundw
        case rel => exact ⟨c, y, al, l, j, rfl, rfl, rfl, hcj, hy0, hy1, R.out, hB.out⟩
        case measure => rw [MM.out.1, MM.out.2, T.l_node]; simp
      by_cases q2 : y < l.l.sum + s
      · obtain ⟨rfl, er⟩ := u3.mid u2 (by omega) q2
        obtain ⟨tl, etl⟩ : ∃ tl, tl = l.l.sum := ⟨_, rfl⟩
        rw [← etl] at KT hl0 ht q1 q2 er
        subst er
        obtain ⟨nl, enl⟩ : ∃ nl, nl = l.l.length := ⟨_, rfl⟩
        rw [← enl] at KC hlen hcj
        subst hcj
        clear u2 u3 h1 h2 etl enl c1' M or' hr0
        go_wp2_with fail
        refine (KT.out).mono ?_
        rintro e w' ⟨rfl, rfl⟩
        go_wp2_with fail
        refine (KC.out).mono ?_
        rintro e w' ⟨rfl, rfl⟩
        go_wp2_with fail
        go_ret3
        exact ⟨rfl, hB.out⟩
      · obtain ⟨q, rfl, hq⟩ := u3.right u2 (by omega)
        have MM := Lib.hid (And.intro (cntOf_tr h2) M.out)
        have R := Lib.hid (And.intro h2 (And.intro or' hq))
        obtain ⟨tl, etl⟩ : ∃ tl, tl = l.l.sum := ⟨_, rfl⟩
        rw [← etl] at KT hl0 ht q1 q2 R
        obtain ⟨nl, enl⟩ : ∃ nl, nl = l.l.length := ⟨_, rfl⟩
        rw [← enl] at KC hlen hcj
        clear u2 u3 h1 h2 etl enl M or' hr0 hq
        go_wp2_with fail
        refine (KT.out).mono ?_
        rintro e w' ⟨rfl, rfl⟩
        go_wp2_with fail
        refine (KC.out).mono ?_
        rintro e w' ⟨rfl, rfl⟩
        go_wp2_with fail
        go_roundw
        case rel => exact ⟨c + (nl + 1), y - (tl + s), ar, r, q, by go_num, rfl, rfl, by omega, by omega, by omega, R.out, hB.out⟩
        case measure => rw [MM.out.1, MM.out.2, T.l_node]; simp; omega
end Go.Proofs.Ytngbaiijdgmpoaa

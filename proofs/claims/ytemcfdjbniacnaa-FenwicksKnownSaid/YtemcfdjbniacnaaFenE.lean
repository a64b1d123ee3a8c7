/-
  Contracts of package fenwicks, fifth: Find's refusals, Set.
-/
import Derived.Test.YtemcfdjbniacnaaFenD
import Derived.LoopTactic
import Derived.BigQuiet
import Derived.WalkMore
import Derived.Scope
namespace Go.Proofs.Ytemcfdjbniacnaa
open Go.RowKit
set_option linter.unusedVariables false

set_option maxRecDepth 100000 in
set_option maxHeartbeats 1600000 in
theorem fFind_bad (w : World) (B p n : Nat) (l : Nat → Int) (h : Fen w B p n l) (x : Int) (hx : x < 0 ∨ psum l n ≤ x) :
    Calls Try.prog 13 #[.pointer (some ⟨p, 0, none⟩), .int .i64 x] w fun e w' => e = .returned (.tuple #[.int .i64 0, .int .i64 0, .int .i64 4]) ∧ w = w' := by
  obtain ⟨gs, gt, hg, _⟩ := h
  obtain ⟨c0, c1, c2, c3, fz⟩ := tcells_of hg.hp
  have ht := (hg.ok.bd (Nat.le_refl n)).1
  obtain ⟨tot, htot⟩ : ∃ tot, tot = psum l n := ⟨_, rfl⟩
  rw [← htot] at c3 hx ht
  clear hg fz htot
  by_cases d : x < 0
  · clear hx
    go_enter Try.func13, Try.ntmps13
    go_wp2_with fail
    go_step3
    go_wp2_with fail
    refine (none_no w p c0).mono ?_
    rintro e w' ⟨rfl, rfl⟩
    go_wp2_with fail
    rw [Exit.noGoto_ret]
    go_ret3
    exact ⟨rfl, rfl⟩
  · have hx : tot ≤ x := by omega
    go_enter Try.func13, Try.ntmps13
    go_wp2_with fail
    go_step3
    go_wp2_with fail
    refine (none_no w p c0).mono ?_
    rintro e w' ⟨rfl, rfl⟩
    go_wp2_with fail
    rw [Exit.noGoto_ret]
    go_ret3
    exact ⟨rfl, rfl⟩

set_option maxHeartbeats 800000 in
theorem fSet_range (w : World) (B p n : Nat) (l : Nat → Int) (h : Fen w B p n l) (i s : Int) (hi : i < 0 ∨ (n : Int) ≤ i) :
    Calls Try.prog 16 #[.pointer (some ⟨p, 0, none⟩), .int .i64 i, .int .i64 s] w fun e w' => e = .returned (.int .i64 4) ∧ w = w' := by
  have HF := Lib.hid h
  obtain ⟨gs, gt, h1, _⟩ := h
  obtain ⟨c0, c1, c2, c3, fz⟩ := tcells_of h1.hp
  have hn := h1.ok.le
  have HI := Lib.hid hi
  clear fz h1 hi
  go_enter Try.func16, Try.ntmps16
  go_wp2_with fail
  refine (flen_any w B p n l HF.out).mono ?_
  rintro e w' ⟨rfl, rfl⟩
  go_wp2_with fail
  refine (fat_bad w p c0 _ _ (by have := HI.out; omega)).mono ?_
  rintro e w' ⟨rfl, rfl⟩
  go_wp2_with fail
  go_ret
  exact ⟨rfl, rfl⟩

set_option maxHeartbeats 800000 in
theorem fSet_height (w : World) (B p n : Nat) (l : Nat → Int) (h : Fen w B p n l) (i : Nat) (hi : i < n) (s : Int) (hs : s < 0 ∨ 2305843009213693952 < s) :
    Calls Try.prog 16 #[.pointer (some ⟨p, 0, none⟩), .int .i64 i, .int .i64 s] w fun e w' => e = .returned (.int .i64 12) ∧ w = w' := by
  have HF := Lib.hid h
  obtain ⟨gs, gt, h1, _⟩ := h
  obtain ⟨c0, c1, c2, c3, fz⟩ := tcells_of h1.hp
  have hn := h1.ok.le
  clear fz h1
  by_cases d : s < 0
  · clear hs
    go_enter Try.func16, Try.ntmps16
    go_wp2_with fail
    refine (flen_any w B p n l HF.out).mono ?_
    rintro e w' ⟨rfl, rfl⟩
    go_wp2_with fail
    refine (fat_ok w p c0 _ _ (by omega) (by omega)).mono ?_
    rintro e w' ⟨rfl, rfl⟩
    go_wp2_with fail
    go_ret
    exact ⟨rfl, rfl⟩
  · have hs : 2305843009213693952 < s := by omega
    go_enter Try.func16, Try.ntmps16
    go_wp2_with fail
    refine (flen_any w B p n l HF.out).mono ?_
    rintro e w' ⟨rfl, rfl⟩
    go_wp2_with fail
    refine (fat_ok w p c0 _ _ (by omega) (by omega)).mono ?_
    rintro e w' ⟨rfl, rfl⟩
    go_wp2_with fail
    go_ret
    exact ⟨rfl, rfl⟩

set_option maxHeartbeats 800000 in
theorem fSet_over (w : World) (B p n : Nat) (l : Nat → Int) (h : Fen w B p n l) (i : Nat) (hi : i < n) (s : Int) (h1 : 0 ≤ s) (h2 : s ≤ 2305843009213693952) (hs : 4611686018427387904 < psum l n - l i + s) :
    Calls Try.prog 16 #[.pointer (some ⟨p, 0, none⟩), .int .i64 i, .int .i64 s] w fun e w' => e = .returned (.int .i64 13) ∧ Drawn w w' := by
  have HF := Lib.hid h
  obtain ⟨gs, gt, hg, _⟩ := h
  obtain ⟨c0, c1, c2, c3, fz⟩ := tcells_of hg.hp
  have hc := hg.hs.cell hi
  rw [i64s_at] at hc
  have hn := hg.ok.le
  have o1 := hg.ok.nn i hi
  obtain ⟨t0, t1⟩ := hg.ok.bd (Nat.le_refl n)
  have o2 : l i ≤ psum l n := by
    have := hg.ok.mono (a := i + 1) (b := n) hi (Nat.le_refl n); have := (hg.ok.bd (a := i) (by omega)).1; rw [psum_succ] at *; omega
  obtain ⟨tot, htot⟩ : ∃ tot, tot = psum l n := ⟨_, rfl⟩
  obtain ⟨v, hv⟩ : ∃ v, v = l i := ⟨_, rfl⟩
  rw [← htot] at c3 hs t0 t1 o2
  rw [← hv] at hc hs o1 o2
  have hs2 : 4611686018427387904 - (tot - v) < s := by omega
  clear fz hg htot hv
  go_enter Try.func16, Try.ntmps16
  go_wp2_with fail
  refine (flen_any w B p n l HF.out).mono ?_
  rintro e w' ⟨rfl, rfl⟩
  go_wp2_with fail
  refine (fat_ok w p c0 _ _ (by omega) (by omega)).mono ?_
  rintro e w' ⟨rfl, rfl⟩
  go_wp2_with fail
  go_quiet (fail)
  go_wp2_with fail
  go_ret
  exact ⟨rfl, ⟨_, rfl⟩⟩

/-- The list with another size. -/
def setAt (l : Nat → Int) (i : Nat) (s : Int) : Nat → Int := fun j => if j = i then s else l j
theorem plusAt_setAt (l : Nat → Int) (i : Nat) (s : Int) : plusAt l i (s - l i) = setAt l i s := by
  funext j; unfold plusAt setAt
  by_cases c : j = i
  · rw [if_pos c, if_pos c]; omega
  · rw [if_neg c, if_neg c]
theorem psum_setAt (l : Nat → Int) (i n : Nat) (s : Int) (hi : i < n) : psum (setAt l i s) n = psum l n - l i + s := by
  rw [← plusAt_setAt, psum_plusAt, if_pos hi]; omega
theorem sizes_setAt (l : Nat → Int) (i n : Nat) (s : Int) (hi : i < n) (ok : Sizes l n) (h1 : 0 ≤ s) (h2 : psum l n - l i + s ≤ 4611686018427387904) : Sizes (setAt l i s) n :=
  ⟨fun j hj => by
    unfold setAt
    by_cases c : j = i
    · rw [if_pos c]; exact h1
    · rw [if_neg c]; exact ok.nn j hj, by rw [psum_setAt l i n s hi]; exact h2, ok.le⟩

set_option maxHeartbeats 800000 in
theorem fSet_ok (w : World) (B p n : Nat) (l : Nat → Int) (h : Fen w B p n l) (hB : B ≤ w.heap.size) (i : Nat) (hi : i < n) (s : Int) (h1 : 0 ≤ s) (h2 : s ≤ 2305843009213693952) (hs : psum l n - l i + s ≤ 4611686018427387904) :
    Calls Try.prog 16 #[.pointer (some ⟨p, 0, none⟩), .int .i64 i, .int .i64 s] w fun e w' => e = .returned (.int .i64 0) ∧ Fen w' B p n (setAt l i s) ∧ Below B w w' := by
  have HF := Lib.hid h
  obtain ⟨gs, gt, hg, _⟩ := h
  obtain ⟨c0, c1, c2, c3, fz⟩ := tcells_of hg.hp
  have hc := hg.hs.cell hi
  rw [i64s_at] at hc
  have hn := hg.ok.le
  have o1 := hg.ok.nn i hi
  obtain ⟨t0, t1⟩ := hg.ok.bd (Nat.le_refl n)
  have o2 : l i ≤ psum l n := by
    have := hg.ok.mono (a := i + 1) (b := n) hi (Nat.le_refl n); have := (hg.ok.bd (a := i) (by omega)).1; rw [psum_succ] at *; omega
  have HA : Hid (∀ k, Calls Try.prog 24 #[.pointer (some ⟨p, 0, none⟩), .int .i64 i, .int .i64 (s - l i)] (w.drewN k) fun e w' => e = .returned (.tuple #[]) ∧ Fen w' B p n (setAt l i s) ∧ Below B w w') := by
    intro k
    refine (add_any (w.drewN k) B p n l (HF.out.drawn ⟨k, rfl⟩) hB i hi (s - l i) ⟨by omega, by omega⟩ (by rw [plusAt_setAt]; exact sizes_setAt l i n s hi hg.ok h1 hs)).mono ?_
    rintro e w' ⟨rfl, h3, h4⟩
    rw [plusAt_setAt] at h3
    exact ⟨rfl, h3, (below_drewN (Below.refl B w) k).trans h4⟩
  obtain ⟨tot, htot⟩ : ∃ tot, tot = psum l n := ⟨_, rfl⟩
  obtain ⟨v, hv⟩ : ∃ v, v = l i := ⟨_, rfl⟩
  rw [← htot] at c3 hs t0 t1 o2
  rw [← hv] at hc hs o1 o2 HA
  have hs2 : ¬ 4611686018427387904 - (tot - v) < s := by omega
  clear fz hg htot hv
  go_enter Try.func16, Try.ntmps16
  go_wp2_with fail
  refine (flen_any w B p n l HF.out).mono ?_
  rintro e w' ⟨rfl, rfl⟩
  go_wp2_with fail
  refine (fat_ok w p c0 _ _ (by omega) (by omega)).mono ?_
  rintro e w' ⟨rfl, rfl⟩
  go_wp2_with fail
  go_quiet (fail)
  go_wp2_with fail
  refine (HA.out _).mono ?_
  rintro e w2 ⟨rfl, h3, h4⟩
  have HH := Lib.hid (And.intro h3 h4)
  clear h3 h4
  go_wp2_with fail
  go_ret
  exact ⟨rfl, HH.out⟩
end Go.Proofs.Ytemcfdjbniacnaa

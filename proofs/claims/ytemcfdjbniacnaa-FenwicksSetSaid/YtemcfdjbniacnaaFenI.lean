/-
  The reference's Set of layer 2.
-/
import Derived.Test.YtemcfdjbniacnaaFenH
import Derived.Test.YtemcfdjbniacnaaApp64
import Derived.Test.YtemcfdjbniacnaaSz
import Derived.BigQuiet
import Derived.Lib.AppendZeros
import Derived.OwnWalk
namespace Go.Proofs.Ytemcfdjbniacnaa
open Go.RowKit
set_option linter.unusedVariables false

/-- What the reference's Set returns. -/
def RSetPost (w : World) (A : Option Addr) (n c : Nat) (l : Nat → Int) (i s : Int) (e : Ending) (w' : World) : Prop :=
  ∃ A' c', e = .returned (.tuple #[.slice A' n c', .int .i64 (setErr l n i s)]) ∧ (∀ S : Nat → Prop, (∀ b, S b → b < w.heap.size) → SeesO S w A n (i64s l) → SeesO S w' A' n (i64s (setTo l n i s))) ∧ Below w.heap.size w w'
theorem RSetPost.same {w w' : World} {A : Option Addr} {n c : Nat} {l : Nat → Int} {i s : Int} (h : setErr l n i s ≠ 0) (hb : Below w.heap.size w w') : RSetPost w A n c l i s (.returned (.tuple #[.slice A n c, .int .i64 (setErr l n i s)])) w' :=
  ⟨A, c, rfl, fun S _ h' => by unfold setTo; rw [if_neg h]; exact h'.fr (Fr.of_below hb), hb⟩
theorem RSetPost.of_drawn {w w' : World} {A : Option Addr} {n c q : Nat} {l : Nat → Int} {i s : Int} {e : Ending} (h : RSetPost (w.drewN q) A n c l i s e w') : RSetPost w A n c l i s e w' := by
  obtain ⟨A', c', he, h1, h2⟩ := h
  exact ⟨A', c', he, fun S hS hO => h1 S hS hO, (below_drewN (Below.refl _ w) q).trans h2⟩

set_option maxRecDepth 100000 in
set_option maxHeartbeats 1600000 in
theorem refSet_any (w : World) (A : Option Addr) (n c : Nat) (l : Nat → Int) (hs : Sees w w.heap.size A n (i64s l)) (hc : chkTo l n = 0) (hn : n ≤ 4096) (i s : Int) :
    Calls Try.prog 23 #[.slice A n c, .int .i64 i, .int .i64 s] w (RSetPost w A n c l i s) := by
  by_cases c1 : i < 0
  · have e1 : setErr l n i s = 4 := by unfold setErr; rw [if_pos (.inl c1)]
    have H := Lib.hid (RSetPost.same (A := A) (c := c) (l := l) (n := n) (i := i) (s := s) (by rw [e1]; decide) (Below.refl _ w))
    rw [e1] at H
    clear e1 hs hc
    go_enter Try.func23, Try.ntmps23
    go_wp2_with fail
    go_ret2
    exact H.out
  by_cases c2 : (n : Int) ≤ i
  · have e1 : setErr l n i s = 4 := by unfold setErr; rw [if_pos (.inr c2)]
    have H := Lib.hid (RSetPost.same (A := A) (c := c) (l := l) (n := n) (i := i) (s := s) (by rw [e1]; decide) (Below.refl _ w))
    rw [e1] at H
    clear e1 hs hc
    go_enter Try.func23, Try.ntmps23
    go_wp2_with fail
    go_ret2
    exact H.out
  obtain ⟨k, rfl⟩ : ∃ k : Nat, i = (k : Int) := ⟨i.toNat, by omega⟩
  have hk : k < n := by omega
  have cn : ¬ ((k : Int) < 0 ∨ (n : Int) ≤ k) := by omega
  by_cases d1 : s < 0
  · have e1 : setErr l n k s = 12 := by unfold setErr; rw [if_neg cn, if_pos (.inl d1)]
    have H := Lib.hid (RSetPost.same (A := A) (c := c) (l := l) (n := n) (i := k) (s := s) (by rw [e1]; decide) (Below.refl _ w))
    rw [e1] at H
    clear e1 hs hc cn
    go_enter Try.func23, Try.ntmps23
    go_wp2_with fail
    go_ret2
    exact H.out
  by_cases d2 : 2305843009213693952 < s
  · have e1 : setErr l n k s = 12 := by unfold setErr; rw [if_neg cn, if_pos (.inr d2)]
    have H := Lib.hid (RSetPost.same (A := A) (c := c) (l := l) (n := n) (i := k) (s := s) (by rw [e1]; decide) (Below.refl _ w))
    rw [e1] at H
    clear e1 hs hc cn
    go_enter Try.func23, Try.ntmps23
    go_wp2_with fail
    go_ret2
    exact H.out
  have ok := sizes_of_chk l n hn hc
  have o1 := ok.nn k hk
  obtain ⟨t0, t1⟩ := ok.bd (Nat.le_refl n)
  have o2 : l k ≤ psum l n := by
    have := ok.mono (a := k + 1) (b := n) hk (Nat.le_refl n); have := (ok.bd (a := k) (by omega)).1; rw [psum_succ] at *; omega
  obtain ⟨A', c', w2, run, O, hb, hcm⟩ := clone_i64 w (c := c) hs (Nat.le_refl _) (by omega)
  obtain ⟨g, hA, hg1, hg2, hcells, hfz⟩ := O.at_ (by omega)
  subst hA
  have O2 := Lib.hid (O.set k (.int .i64 s))
  have gc := hcells k (by omega)
  have gf := hfz k
  rw [i64s_at] at gc
  have S2 : Sees (w2.setCell ⟨g, k, none⟩ (.int .i64 s)) w.heap.size A n (i64s l) := hs.below (hb.setCell (p := ⟨g, k, none⟩) hg1 _)
  have HB3 := Lib.hid (hb.setCell (p := ⟨g, k, none⟩) hg1 (.int .i64 s))
  have HSum : Hid (∀ q, Calls Try.prog 12 #[.slice A n c, .int .i64 n] ((w2.setCell ⟨g, k, none⟩ (.int .i64 s)).drewN q) fun e w' => e = .returned (.int .i64 (psum l n)) ∧ ((w2.setCell ⟨g, k, none⟩ (.int .i64 s)).drewN q) = w') := fun q => sum_any A n c n l n _ rfl _ (S2.drawn ⟨q, rfl⟩) (Nat.le_refl n) (by omega) hc
  obtain ⟨b, o, hAA, hb', hcell⟩ := S2.at_ hk
  rw [i64s_at] at hcell
  subst hAA
  have hcellN : ∀ q, ((w2.setCell ⟨g, k, none⟩ (.int .i64 s)).drewN q).cell? ⟨b, o + k, none⟩ = some (.int .i64 (l k)) := fun _ => hcell
  have e3 : (4611686018427387904 < psum l n - l k + s) → Hid (setErr l n k s = 13) := fun h => (by show setErr l n k s = 13; unfold setErr; rw [if_neg cn, if_neg (by omega), Int.toNat_natCast, if_pos h])
  have e4 : ¬ (4611686018427387904 < psum l n - l k + s) → Hid (setErr l n k s = 0) := fun h => (by show setErr l n k s = 0; unfold setErr; rw [if_neg cn, if_neg (by omega), Int.toNat_natCast, if_neg h])
  have R := Lib.hid run
  have HS := Lib.hid hs
  have hki : (k : Int) < (n : Int) := by omega
  have W13 : Hid (setErr l n k s = 13 → ∀ q, RSetPost w (some ⟨b, o, none⟩) n c l k s (.returned (.tuple #[.slice (some ⟨b, o, none⟩) n c, .int .i64 13])) ((w2.setCell ⟨g, k, none⟩ (.int .i64 s)).drewN q)) := fun e q => by
    have := RSetPost.same (A := some ⟨b, o, none⟩) (c := c) (l := l) (n := n) (i := k) (s := s) (by rw [e]; decide) (below_drewN HB3.out q)
    rwa [e] at this
  have W0 : Hid (setErr l n k s = 0 → ∀ q, RSetPost w (some ⟨b, o, none⟩) n c l k s (.returned (.tuple #[.slice (some ⟨g, 0, none⟩) n c', .int .i64 0])) ((w2.setCell ⟨g, k, none⟩ (.int .i64 s)).drewN q)) := fun e q => by
    refine ⟨_, _, by rw [e], fun S hS _ => ?_, below_drewN HB3.out q⟩
    refine ((O2.out.seesO (S := S) hS).fr ((Fr.refl S _).drawn ⟨q, rfl⟩)).congr fun j hj => ?_
    unfold setTo
    rw [if_pos e, Int.toNat_natCast]
    show (if j = k then Value.int .i64 s else .int .i64 (l j)) = .int .i64 (setAt l k s j)
    unfold setAt
    split <;> rfl
  obtain ⟨v, hv⟩ : ∃ v, v = l k := ⟨_, rfl⟩
  obtain ⟨t, ht⟩ : ∃ t, t = psum l n := ⟨_, rfl⟩
  rw [← ht] at HSum t0 t1 o2 e3 e4
  rw [← hv] at hcellN o1 o2 e3 e4 hcell
  clear hs hc run O hcells hfz S2 ht hv ok cn c1 c2 HS hb hcell
  go_enter Try.func23, Try.ntmps23
  go_wp2_with (at_builtin; refine Hid.out ?_)
  refine Lib.hid (Lib.wpList_append_run _ rfl _ _ _ _ rfl _ _ rfl rfl _ _ (R.out _) ?_)
  by_cases d3 : 4611686018427387904 < t - v + s
  · have E3 := e3 (by omega)
    have d4 : 4611686018427387904 - s < t - v := by omega
    clear e3 e4
    go_wp2_with fail
    go_quiet ((exact quiet_left' (HSum.out _)))
    go_wp2_with fail
    go_ret2
    exact W13.out E3.out _
  · have E4 := e4 (by omega)
    have d4 : ¬ 4611686018427387904 - s < t - v := by omega
    clear e3 e4
    go_wp2_with fail
    go_quiet ((exact quiet_left' (HSum.out _)))
    go_wp2_with fail
    go_ret2
    exact W0.out E4.out _
end Go.Proofs.Ytemcfdjbniacnaa

/-
  Package sizes: part, the iterator over the spans of a range, shifted. (After the kit's worked proofs on iterators.)
-/
import Derived.RangeFuncBox
import Derived.RangeFuncWrites
import Derived.RangeFuncLeaves
import Derived.RangeFuncNested
import Derived.Shelf.Abstract
import Derived.WalkKit
import Derived.OwnWalkIn
import Derived.TacticsInMore
import Derived.LoopNIn
import Derived.LoopIn
import Derived.Test.YtngbaiijdgmpoaaSizF
import Derived.Test.YtngbaiijdgmpoaaHeld2
namespace Go.Proofs.Ytngbaiijdgmpoaa
open Go.RowKit Go.Shelf
set_option linter.unusedVariables false
set_option linter.unusedSimpArgs false

attribute [local go_sem] Oper.semAt_some

/-- What a round keeps: all below B but for block q. -/
structure Kx (B q : Nat) (w w' : World) : Prop where
  os : w'.os = w.os
  tape : w'.tape = w.tape
  output : w'.output = w.output
  size : w.heap.size ≤ w'.heap.size
  block : ∀ k, k < B → k ≠ q → w'.heap[k]? = w.heap[k]?
theorem Kx.refl (B q : Nat) (w : World) : Kx B q w w := ⟨rfl, rfl, rfl, Nat.le_refl _, fun _ _ _ => rfl⟩
theorem Kx.trans {B q : Nat} {a b c : World} (h : Kx B q a b) (k : Kx B q b c) : Kx B q a c :=
  ⟨k.os.trans h.os, k.tape.trans h.tape, k.output.trans h.output, Nat.le_trans h.size k.size, fun i hi hn => (k.block i hi hn).trans (h.block i hi hn)⟩
theorem Kx.of_below {B q : Nat} {a b : World} (h : Below B a b) : Kx B q a b := ⟨h.os, h.tape, h.output, h.size, fun k hk _ => h.block k hk⟩
theorem Kx.cell {B q : Nat} {w w' : World} (h : Kx B q w w') {p : Addr} (hp : p.block < B) (hq : p.block ≠ q) : w'.cell? p = w.cell? p := by
  unfold World.cell?; rw [h.block _ hp hq]
theorem Kx.grown {B q : Nat} {w w' : World} {row : Option Nat} (hg : w.grownBy w' row) (hB : B ≤ w.heap.size) (hr : ∀ r, row = some r → B ≤ r ∨ r = q) : Kx B q w w' :=
  ⟨hg.os, hg.tape, hg.output, hg.size, fun k hk hq => hg.block k (by omega) (fun e => by rcases hr k e.symm with h | h <;> omega)⟩
theorem grown_none {w w' : World} (h : Below w.heap.size w w') : w.grownBy w' none := ⟨h.os, h.tape, h.output, h.size, fun k hk _ => h.block k hk⟩

/-- The parts of spans in a range, shifted. -/
def partsN (k m t : Nat) (S : Sp) : List (Nat × Nat) := S.filterMap fun s => if max s.1 (k : Int) + ((t : Int) - (k : Int)) < min s.2 ((k : Int) + (m : Int)) + ((t : Int) - (k : Int)) then some ((max s.1 (k : Int) + ((t : Int) - (k : Int))).toNat, (min s.2 ((k : Int) + (m : Int)) + ((t : Int) - (k : Int))).toNat) else none
theorem partsN_snoc (k m t : Nat) {S : Sp} {i : Nat} (h : i < S.length) : partsN k m t (S.take (i + 1)) = partsN k m t (S.take i) ++ (if max (sg S i).1 (k : Int) + ((t : Int) - (k : Int)) < min (sg S i).2 ((k : Int) + (m : Int)) + ((t : Int) - (k : Int)) then [((max (sg S i).1 (k : Int) + ((t : Int) - (k : Int))).toNat, (min (sg S i).2 ((k : Int) + (m : Int)) + ((t : Int) - (k : Int))).toNat)] else []) := by
  rw [List.take_succ_eq_append_getElem h, ← sg_get S h]
  unfold partsN
  rw [List.filterMap_append]
  congr 1
  by_cases c : max (sg S i).1 (k : Int) + ((t : Int) - (k : Int)) < min (sg S i).2 ((k : Int) + (m : Int)) + ((t : Int) - (k : Int))
  · rw [if_pos c, List.filterMap_cons, if_pos c]; rfl
  · rw [if_neg c, List.filterMap_cons, if_neg c]; rfl
theorem partsN_len (k m t : Nat) (S : Sp) : (partsN k m t S).length ≤ S.length := List.length_filterMap_le _ _
theorem partsN_mem {k m t : Nat} {S : Sp} {x : Nat × Nat} (h : x ∈ partsN k m t S) : ∃ s ∈ S, (x.1 : Int) = max s.1 (k : Int) + ((t : Int) - (k : Int)) ∧ (x.2 : Int) = min s.2 ((k : Int) + (m : Int)) + ((t : Int) - (k : Int)) ∧ x.1 < x.2 := by
  unfold partsN at h
  obtain ⟨s, hs, he⟩ := List.mem_filterMap.1 h
  by_cases c : max s.1 (k : Int) + ((t : Int) - (k : Int)) < min s.2 ((k : Int) + (m : Int)) + ((t : Int) - (k : Int))
  · rw [if_pos c] at he
    cases he
    refine ⟨s, hs, ?_, ?_, ?_⟩
    · show (((max s.1 (k : Int) + ((t : Int) - (k : Int))).toNat : Nat) : Int) = _; omega
    · show (((min s.2 ((k : Int) + (m : Int)) + ((t : Int) - (k : Int))).toNat : Nat) : Int) = _; omega
    · show (max s.1 (k : Int) + ((t : Int) - (k : Int))).toNat < (min s.2 ((k : Int) + (m : Int)) + ((t : Int) - (k : Int))).toNat; omega
  · rw [if_neg c] at he; cases he
/-- A set with marks. -/
def pM (p : Nat → Bool) (l : List (Nat × Nat)) : Nat → Bool := l.foldl (fun p x => markF p x.1 x.2 true) p
theorem pM_snoc (p : Nat → Bool) (l : List (Nat × Nat)) (x : Nat × Nat) : pM p (l ++ [x]) = markF (pM p l) x.1 x.2 true := by
  unfold pM; rw [List.foldl_append]; rfl
theorem pM_any : ∀ (l : List (Nat × Nat)) (p : Nat → Bool) (j : Nat), pM p l j = (p j || l.any (fun x => decide (x.1 ≤ j ∧ j < x.2))) := by
  intro l
  induction l with
  | nil => intro p j; show p j = (p j || false); simp
  | cons x r ih =>
    intro p j
    show pM (markF p x.1 x.2 true) r j = _
    rw [ih, List.any_cons]
    unfold markF
    by_cases c : x.1 ≤ j ∧ j < x.2
    · rw [if_pos c, decide_eq_true c]; simp
    · rw [if_neg c, decide_eq_false c]; simp
theorem pM_lt {p : Nat → Bool} {l : List (Nat × Nat)} {n : Nat} (hp : ∀ j, p j = true → j < n) (hl : ∀ x ∈ l, x.2 ≤ n) : ∀ j, pM p l j = true → j < n := by
  intro j hj
  rw [pM_any, Bool.or_eq_true] at hj
  rcases hj with h | h
  · exact hp j h
  · obtain ⟨x, hx, h2⟩ := List.any_eq_true.1 h
    have := hl x hx
    have := of_decide_eq_true h2
    omega
theorem parts_any {k m t : Nat} {S : Sp} {p : Nat → Bool} (hk : KnS S p) (j : Nat) : (partsN k m t S).any (fun x => decide (x.1 ≤ j ∧ j < x.2)) = (decide (t ≤ j ∧ j < t + m) && p (k + (j - t))) := by
  rw [Bool.eq_iff_iff, List.any_eq_true, Bool.and_eq_true, decide_eq_true_iff, ← hk.me]
  constructor
  · rintro ⟨x, hx, h⟩
    have h := of_decide_eq_true h
    obtain ⟨s, hs, e1, e2, _⟩ := partsN_mem hx
    exact ⟨by omega, s, hs, by omega, by omega⟩
  · rintro ⟨h1, s, hs, h2, h3⟩
    have c : max s.1 (k : Int) + ((t : Int) - (k : Int)) < min s.2 ((k : Int) + (m : Int)) + ((t : Int) - (k : Int)) := by omega
    refine ⟨((max s.1 (k : Int) + ((t : Int) - (k : Int))).toNat, (min s.2 ((k : Int) + (m : Int)) + ((t : Int) - (k : Int))).toNat), List.mem_filterMap.2 ⟨s, hs, if_pos c⟩, decide_eq_true ?_⟩
    show (max s.1 (k : Int) + ((t : Int) - (k : Int))).toNat ≤ j ∧ j < (min s.2 ((k : Int) + (m : Int)) + ((t : Int) - (k : Int))).toNat
    omega

/-- A range of places in a list of N rows. -/
abbrev Rg (N : Nat) := { x : Nat × Nat // x.1 ≤ x.2 ∧ x.2 ≤ N }
def encR {N : Nat} (x : Rg N) : Array Value := #[.agg #[.int .i64 x.1.1, .int .i64 x.1.2]]
/-- Spans that lie below B and not in block q. -/
def SK (B q : Nat) (w : World) (A : Option Addr) (S : Sp) : Prop := 0 < S.length → ∃ b o, A = some ⟨b, o, none⟩ ∧ b < B ∧ b ≠ q ∧ ∀ j, j < S.length * 2 → w.cell? ⟨b, o + j, none⟩ = some (spf S j)
theorem SK.keep {B q : Nat} {w w' : World} {A : Option Addr} {S : Sp} (h : SK B q w A S) (hk : Kx B q w w') : SK B q w' A S := fun h0 => by
  obtain ⟨b, o, h1, h2, h3, h4⟩ := h h0
  exact ⟨b, o, h1, h2, h3, fun j hj => (hk.cell (p := ⟨b, o + j, none⟩) h2 h3).trans (h4 j hj)⟩

set_option maxRecDepth 100000 in
set_option maxHeartbeats 8000000 in
theorem part1_in (n : Nat) (hn : 1 ≤ n) (l b1 b2 b3 b4 B q N k m t : Nat) (A : Option Addr) (S : Sp) (hN : NF S) (hS : S.length ≤ 600) (hk : k + m ≤ N) (ht : t + m ≤ N) (h8 : N ≤ 8000)
    (l1 : b1 < B) (l2 : b2 < B) (l3 : b3 < B) (l4 : b4 < B) (q1 : b1 ≠ q) (q2 : b2 ≠ q) (q3 : b3 ≠ q) (q4 : b4 ≠ q) (J Jx : List (Rg N) → World → Prop)
    (hY : ∀ pre x W, J pre W → pre.length < S.length → YieldAt Fence.wide (n - 1) Try.prog l (encR x) W fun e W' =>
      (e = .returned (.bool true) ∧ J (pre ++ [x]) W' ∧ Kx B q W W') ∨ (e = .returned (.bool false) ∧ Jx (pre ++ [x]) W'))
    (W : World) (hB : B ≤ W.heap.size) (hJ : AbidesFrom W.heap.size J) (c1 : W.cell? ⟨b1, 0, none⟩ = some (.slice A S.length S.length)) (c2 : W.cell? ⟨b2, 0, none⟩ = some (.int .i64 k)) (c3 : W.cell? ⟨b3, 0, none⟩ = some (.int .i64 ((t : Int) - k))) (c4 : W.cell? ⟨b4, 0, none⟩ = some (.int .i64 ((k : Int) + m))) (hs : SK B q W A S) (h0 : J [] W) :
    CallsIn Fence.wide n Try.prog 65 #[.func (.yield l) #[] #[], .pointer (some ⟨b1, 0, none⟩), .pointer (some ⟨b2, 0, none⟩), .pointer (some ⟨b3, 0, none⟩), .pointer (some ⟨b4, 0, none⟩)] W fun e W' => (∃ v, e = .returned v) ∧
      ((∃ ys : List (Rg N), ys.map (·.1) = partsN k m t S ∧ J ys W') ∨ (∃ pre : List (Rg N), True ∧ Jx pre W')) := by
  refine callsIn_of_wp Try.func65 rfl trivial ?_ rfl
  simp only [Try.ntmps65, List.size_toArray, List.length_cons, List.length_nil, Nat.reduceAdd, Nat.reduceSub, Array.replicate_succ, Array.replicate_zero, List.push_toArray, List.append_toArray, List.nil_append, List.cons_append]
  gi_wp2
  gi_loopw [10] (fun i wr => ∃ (z : Nat) (pre : List (Rg N)), z ≤ S.length ∧ i = .int .i64 z ∧ pre.map (·.1) = partsN k m t (S.take z) ∧ J pre wr ∧ Kx B q W wr)
    (fun i _ => S.length - (intOf i).toNat)
  case atStart => exact ⟨0, [], Nat.zero_le _, rfl, rfl, h0, Kx.refl _ _ _⟩
  case round =>
    obtain ⟨z, pre, hz, rfl, hpre, hJs, hnx⟩ := hrel
    by_cases hlt : z < S.length
    · obtain ⟨b, o, rfl, hb, hbq, hc⟩ := (hs.keep hnx) (by omega)
      have e0 := hc (z * 2) (by omega)
      have e1 := hc (z * 2 + 1) (by omega)
      rw [spf_0] at e0
      rw [spf_1] at e1
      have e1' : wr.cell? ⟨b, o + z * 2 + 1, none⟩ = some (.int .i64 (sg S z).2) := e1
      obtain ⟨m1, m2, m3, m4⟩ := NFfrom.mem hN _ (sg_mem S hlt)
      have hps := partsN_snoc k m t hlt
      obtain ⟨x, hx⟩ : ∃ x, x = (sg S z).1 := ⟨_, rfl⟩
      obtain ⟨y, hy⟩ : ∃ x, x = (sg S z).2 := ⟨_, rfl⟩
      rw [← hx] at e0 m1 m2 hps
      rw [← hy] at e1 e1' m2 m4 hps
      have d2 := (hnx.cell (p := ⟨b2, 0, none⟩) l2 q2).trans c2
      have d3 := (hnx.cell (p := ⟨b3, 0, none⟩) l3 q3).trans c3
      have d4 := (hnx.cell (p := ⟨b4, 0, none⟩) l4 q4).trans c4
      have hpl : pre.length ≤ z := by
        have h1 := congrArg List.length hpre
        rw [List.length_map] at h1
        have h2 := partsN_len k m t (S.take z)
        rw [List.length_take] at h2
        omega
      clear hx hy hc m3
      obtain ⟨d, hd⟩ : ∃ d, d = (t : Int) - (k : Int) := ⟨_, rfl⟩
      obtain ⟨u, hu⟩ : ∃ u, u = (k : Int) + (m : Int) := ⟨_, rfl⟩
      rw [← hd] at d3 hps
      rw [← hu] at d4 hps
      have dl : -8000 ≤ d ∧ d ≤ 8000 := by omega
      have ul : 0 ≤ u ∧ u ≤ 8000 := by omega
      have HD := Lib.hid hd
      have HU := Lib.hid hu
      have lw := hnx.size
      have lb2 : b2 < wr.heap.size := by omega
      have lb3 : b3 < wr.heap.size := by omega
      have lb4 : b4 < wr.heap.size := by omega
      have kl : k ≤ 8000 := by omega
      clear hd hu
      gi_wp2
      refine wpIn_wide.2 ?_
      have BW : Hid (Below wr.heap.size wr (wr.alloc (.cells #[.int .i64 x, .int .i64 y] 75))) := (Below.refl _ wr).alloc (Nat.le_refl _) _
      have RW := Lib.hid (World.rowIs_alloc wr #[.int .i64 x, .int .i64 y] 75 (fun j => if j = 0 then .int .i64 x else .int .i64 y) (fun j hj => by
        have : j = 0 ∨ j = 1 := by simp at hj; omega
        rcases this with rfl | rfl <;> rfl))
      generalize wr.alloc (.cells #[.int .i64 x, .int .i64 y] 75) = wW at BW RW ⊢
      have t0 : wW.cell? ⟨wr.heap.size, 0, none⟩ = some (.int .i64 x) := World.rowIs.cell RW.out (i := 0) (by simp)
      have t1 : wW.cell? ⟨wr.heap.size, 1, none⟩ = some (.int .i64 y) := World.rowIs.cell RW.out (i := 1) (by simp)
      have z0 : wW.frozen? ⟨wr.heap.size, 0, none⟩ = false := World.rowIs.frozen RW.out 0
      have z1 : wW.frozen? ⟨wr.heap.size, 1, none⟩ = false := World.rowIs.frozen RW.out 1
      have lsz := BW.out.size
      have v2 := (BW.out.cell (p := ⟨b2, 0, none⟩) lb2).trans d2
      have v3 := (BW.out.cell (p := ⟨b3, 0, none⟩) lb3).trans d3
      have v4 := (BW.out.cell (p := ⟨b4, 0, none⟩) lb4).trans d4
      have k2 : b2 < wW.heap.size := by omega
      have k3 : b3 < wW.heap.size := by omega
      have k4 : b4 < wW.heap.size := by omega
      have n2 : ¬ b2 = wr.heap.size := by omega
      have n3 : ¬ b3 = wr.heap.size := by omega
      have n4 : ¬ b4 = wr.heap.size := by omega
      have hf1 : IntKind.i64.wrap (max x (k : Int) + d) = max x (k : Int) + d := IntWalk.i64_in _ (by omega)
      have hf2 : IntKind.i64.wrap (min y u + d) = min y u + d := IntWalk.i64_in _ (by omega)
      have S0 : Hid (Fr (fun b => b = wr.heap.size) wW wW.drew) := (Fr.refl _ _).drawn ⟨1, rfl⟩
      have S1 := Lib.hid (S0.out.setCell (p := ⟨wr.heap.size, 0, none⟩) rfl (.int .i64 (max x (k : Int) + d)))
      have S2 := Lib.hid (S1.out.setCell (p := ⟨wr.heap.size, 1, none⟩) rfl (.int .i64 (min y u + d)))
      have R2 := Lib.hid (World.rowIs.set (World.rowIs.set (show World.rowIs wW.drew _ _ _ _ from RW.out) 0 (.int .i64 (max x (k : Int) + d))) 1 (.int .i64 (min y u + d)))
      have B2 : Hid (Below wr.heap.size wr (((wW.drew).setCell ⟨wr.heap.size, 0, none⟩ (.int .i64 (max x (k : Int) + d))).setCell ⟨wr.heap.size, 1, none⟩ (.int .i64 (min y u + d)))) := (BW.out.drew.setCell (p := ⟨wr.heap.size, 0, none⟩) (Nat.le_refl _) _).setCell (p := ⟨wr.heap.size, 1, none⟩) (Nat.le_refl _) _
      clear BW RW d2 d3 d4 lb2 lb3 lb4
      refine wp_region_two [0, 2, 4, 6, 8, 10] 1 7 [(false, 3), (false, 5), (true, 7), (false, 9), (false, 11), (false, 12), (true, 13), (false, 14), (true, 15)] [(false, 9), (false, 11), (true, 1), (false, 3), (false, 5), (false, 12), (true, 13), (false, 14), (true, 15)] (Fr (fun b => b = wr.heap.size) wW) (by kernel_rfl) (by kernel_rfl) S0.out _ _ (by simp only [List.getElem?_toArray, List.getElem?_cons_succ, List.getElem?_cons_zero]; rfl) (by simp only [List.getElem?_toArray, List.getElem?_cons_succ, List.getElem?_cons_zero]; rfl) _ _ _ (by simp only [pickP, List.getElem?_toArray, List.getElem?_cons_succ, List.getElem?_cons_zero]; rfl) (by simp only [pickH, List.getElem?_toArray, List.getElem?_cons_succ, List.getElem?_cons_zero]; rfl) (by simp only [pickH, List.getElem?_toArray, List.getElem?_cons_succ, List.getElem?_cons_zero]; rfl) ?_
      repeat (refine HPure.step (fun K hK => ?_); first | (apply held_yes; (focus rfl); (focus (intro w' hw; have hc' := fr_cells hw; go_simp; rfl)); (go_simp; refine hK _ ?_; clear hK K)) | (refine ite_no (by decide) ?_; go_simp; refine hK _ ?_; clear hK K))
      refine HPure.two ?_ ?_
      all_goals (go_wp2_with fail)
      · refine ⟨S0.out, ?_⟩
        repeat (refine HWalk.step (fun K hK => ?_); first | (apply held_yes; (focus rfl); (focus (intro w' hw; have hc' := fr_cells hw; go_simp; rfl)); (go_simp; refine hK _ ?_; clear hK K)) | (refine ite_no (by decide) ?_; go_simp; refine hK _ ?_; clear hK K))
        refine HWalk.mark ?_
        go_wp2_with fail
        refine ⟨S0.out, ?_⟩
        repeat (refine HWalk.step (fun K hK => ?_); first | (apply held_yes; (focus rfl); (focus (intro w' hw; have hc' := fr_cells hw; go_simp; rfl)); (go_simp; refine hK _ ?_; clear hK K)) | (refine ite_no (by decide) ?_; go_simp; refine hK _ ?_; clear hK K))
        refine HWalk.mark ?_
        go_wp2_with fail
        refine ⟨S1.out, ?_⟩
        repeat (refine HWalk.step (fun K hK => ?_); first | (apply held_yes; (focus rfl); (focus (intro w' hw; have hc' := fr_cells hw; go_simp; rfl)); (go_simp; refine hK _ ?_; clear hK K)) | (refine ite_no (by decide) ?_; go_simp; refine hK _ ?_; clear hK K))
        refine HWalk.mark ?_
        go_wp2_with fail
        refine ⟨S2.out, ?_⟩
        repeat (refine HWalk.step (fun K hK => ?_); first | (apply held_yes; (focus rfl); (focus (intro w' hw; have hc' := fr_cells hw; go_simp; rfl)); (go_simp; refine hK _ ?_; clear hK K)) | (refine ite_no (by decide) ?_; go_simp; refine hK _ ?_; clear hK K))
        refine HWalk.done ?_
        go_wp2_with fail
        have R3 : World.rowIs (((wW.setCell ⟨wr.heap.size, 0, none⟩ (.int .i64 (max x (k : Int) + d))).setCell ⟨wr.heap.size, 1, none⟩ (.int .i64 (min y u + d))).drew) wr.heap.size _ _ _ := R2.out
        have s0 : (((wW.setCell ⟨wr.heap.size, 0, none⟩ (.int .i64 (max x (k : Int) + d))).setCell ⟨wr.heap.size, 1, none⟩ (.int .i64 (min y u + d))).drew).cell? ⟨wr.heap.size, 0, none⟩ = some (.int .i64 (max x (k : Int) + d)) := World.rowIs.cell R3 (i := 0) (by simp)
        have s1 : (((wW.setCell ⟨wr.heap.size, 0, none⟩ (.int .i64 (max x (k : Int) + d))).setCell ⟨wr.heap.size, 1, none⟩ (.int .i64 (min y u + d))).drew).cell? ⟨wr.heap.size, 1, none⟩ = some (.int .i64 (min y u + d)) := World.rowIs.cell R3 (i := 1) (by simp)
        have B3 : Below wr.heap.size wr (((wW.setCell ⟨wr.heap.size, 0, none⟩ (.int .i64 (max x (k : Int) + d))).setCell ⟨wr.heap.size, 1, none⟩ (.int .i64 (min y u + d))).drew) := B2.out
        clear R3 R2 B2 S0 S1 S2
        generalize ((wW.setCell ⟨wr.heap.size, 0, none⟩ (.int .i64 (max x (k : Int) + d))).setCell ⟨wr.heap.size, 1, none⟩ (.int .i64 (min y u + d))).drew = W2 at s0 s1 B3 ⊢
        have f0 : 0 ≤ max x (k : Int) + d := by have := HD.out; omega
        have g0 : min y u + d ≤ N := by have := HD.out; have := HU.out; omega
        generalize max x (k : Int) + d = f at s0 hps hf1 f0 ⊢
        generalize min y u + d = g' at s1 hps hf2 g0 ⊢
        have hJ2 := hJ pre wr W2 none hJs (grown_none B3) (fun r e => by cases e)
        have K2 : Kx B q wr W2 := Kx.of_below (B3.mono (by omega))
        clear B3 t0 t1 z0 z1 v2 v3 v4 n2 n3 n4 k2 k3 k4 hf1 hf2
        by_cases g : f < g'
        · rw [if_pos g] at hps
          obtain ⟨fn, tmps, assign, body, hy, hR⟩ := hY pre ⟨(f.toNat, g'.toNat), ⟨by show f.toNat ≤ g'.toNat; omega, by show g'.toNat ≤ N; omega⟩⟩ _ hJ2 (by omega)
          have ef : ((f.toNat : Nat) : Int) = f := by omega
          have eg : ((g'.toNat : Nat) : Int) = g' := by omega
          unfold encR at hy
          simp only [ef, eg] at hy
          have hps' := Lib.hid hps
          clear ef eg hps
          gi_wp2
          refine hR.mono ?_
          rintro e W3 (⟨rfl, hJ3, hk3⟩ | ⟨rfl, hJx3⟩)
          · gi_wp2
            go_roundw
            case rel => exact ⟨z + 1, pre ++ [⟨(f.toNat, g'.toNat), ⟨by show f.toNat ≤ g'.toNat; omega, by show g'.toNat ≤ N; omega⟩⟩], by omega, by simp, by rw [hps'.out, List.map_append, hpre]; rfl, hJ3, hnx.trans (K2.trans hk3)⟩
            case measure => simp [intOf]; omega
          · gi_wp2
            refine bodyPost_ret (results_none rfl _ _ _) rfl ?_
            exact ⟨⟨_, rfl⟩, .inr ⟨_, trivial, hJx3⟩⟩
        · rw [if_neg g, List.append_nil] at hps
          have hps' := Lib.hid hps
          clear hps
          gi_wp2
          refine ⟨fun _ h => (nomatch h), ?_⟩
          gi_wp2
          go_roundw
          case rel => exact ⟨z + 1, pre, by omega, by simp, by rw [hps'.out, hpre], hJ2, hnx.trans K2⟩
          case measure => simp [intOf]; omega
      · refine ⟨S0.out, ?_⟩
        repeat (refine HWalk.step (fun K hK => ?_); first | (apply held_yes; (focus rfl); (focus (intro w' hw; have hc' := fr_cells hw; go_simp; rfl)); (go_simp; refine hK _ ?_; clear hK K)) | (refine ite_no (by decide) ?_; go_simp; refine hK _ ?_; clear hK K))
        refine HWalk.mark ?_
        go_wp2_with fail
        refine ⟨S0.out, ?_⟩
        repeat (refine HWalk.step (fun K hK => ?_); first | (apply held_yes; (focus rfl); (focus (intro w' hw; have hc' := fr_cells hw; go_simp; rfl)); (go_simp; refine hK _ ?_; clear hK K)) | (refine ite_no (by decide) ?_; go_simp; refine hK _ ?_; clear hK K))
        refine HWalk.mark ?_
        go_wp2_with fail
        refine ⟨S1.out, ?_⟩
        repeat (refine HWalk.step (fun K hK => ?_); first | (apply held_yes; (focus rfl); (focus (intro w' hw; have hc' := fr_cells hw; go_simp; rfl)); (go_simp; refine hK _ ?_; clear hK K)) | (refine ite_no (by decide) ?_; go_simp; refine hK _ ?_; clear hK K))
        refine HWalk.mark ?_
        go_wp2_with fail
        refine ⟨S2.out, ?_⟩
        repeat (refine HWalk.step (fun K hK => ?_); first | (apply held_yes; (focus rfl); (focus (intro w' hw; have hc' := fr_cells hw; go_simp; rfl)); (go_simp; refine hK _ ?_; clear hK K)) | (refine ite_no (by decide) ?_; go_simp; refine hK _ ?_; clear hK K))
        refine HWalk.done ?_
        go_wp2_with fail
        have R3 : World.rowIs (((wW.setCell ⟨wr.heap.size, 0, none⟩ (.int .i64 (max x (k : Int) + d))).setCell ⟨wr.heap.size, 1, none⟩ (.int .i64 (min y u + d))).drew) wr.heap.size _ _ _ := R2.out
        have s0 : (((wW.setCell ⟨wr.heap.size, 0, none⟩ (.int .i64 (max x (k : Int) + d))).setCell ⟨wr.heap.size, 1, none⟩ (.int .i64 (min y u + d))).drew).cell? ⟨wr.heap.size, 0, none⟩ = some (.int .i64 (max x (k : Int) + d)) := World.rowIs.cell R3 (i := 0) (by simp)
        have s1 : (((wW.setCell ⟨wr.heap.size, 0, none⟩ (.int .i64 (max x (k : Int) + d))).setCell ⟨wr.heap.size, 1, none⟩ (.int .i64 (min y u + d))).drew).cell? ⟨wr.heap.size, 1, none⟩ = some (.int .i64 (min y u + d)) := World.rowIs.cell R3 (i := 1) (by simp)
        have B3 : Below wr.heap.size wr (((wW.setCell ⟨wr.heap.size, 0, none⟩ (.int .i64 (max x (k : Int) + d))).setCell ⟨wr.heap.size, 1, none⟩ (.int .i64 (min y u + d))).drew) := B2.out
        clear R3 R2 B2 S0 S1 S2
        generalize ((wW.setCell ⟨wr.heap.size, 0, none⟩ (.int .i64 (max x (k : Int) + d))).setCell ⟨wr.heap.size, 1, none⟩ (.int .i64 (min y u + d))).drew = W2 at s0 s1 B3 ⊢
        have f0 : 0 ≤ max x (k : Int) + d := by have := HD.out; omega
        have g0 : min y u + d ≤ N := by have := HD.out; have := HU.out; omega
        generalize max x (k : Int) + d = f at s0 hps hf1 f0 ⊢
        generalize min y u + d = g' at s1 hps hf2 g0 ⊢
        have hJ2 := hJ pre wr W2 none hJs (grown_none B3) (fun r e => by cases e)
        have K2 : Kx B q wr W2 := Kx.of_below (B3.mono (by omega))
        clear B3 t0 t1 z0 z1 v2 v3 v4 n2 n3 n4 k2 k3 k4 hf1 hf2
        by_cases g : f < g'
        · rw [if_pos g] at hps
          obtain ⟨fn, tmps, assign, body, hy, hR⟩ := hY pre ⟨(f.toNat, g'.toNat), ⟨by show f.toNat ≤ g'.toNat; omega, by show g'.toNat ≤ N; omega⟩⟩ _ hJ2 (by omega)
          have ef : ((f.toNat : Nat) : Int) = f := by omega
          have eg : ((g'.toNat : Nat) : Int) = g' := by omega
          unfold encR at hy
          simp only [ef, eg] at hy
          have hps' := Lib.hid hps
          clear ef eg hps
          gi_wp2
          refine hR.mono ?_
          rintro e W3 (⟨rfl, hJ3, hk3⟩ | ⟨rfl, hJx3⟩)
          · gi_wp2
            go_roundw
            case rel => exact ⟨z + 1, pre ++ [⟨(f.toNat, g'.toNat), ⟨by show f.toNat ≤ g'.toNat; omega, by show g'.toNat ≤ N; omega⟩⟩], by omega, by simp, by rw [hps'.out, List.map_append, hpre]; rfl, hJ3, hnx.trans (K2.trans hk3)⟩
            case measure => simp [intOf]; omega
          · gi_wp2
            refine bodyPost_ret (results_none rfl _ _ _) rfl ?_
            exact ⟨⟨_, rfl⟩, .inr ⟨_, trivial, hJx3⟩⟩
        · rw [if_neg g, List.append_nil] at hps
          have hps' := Lib.hid hps
          clear hps
          gi_wp2
          refine ⟨fun _ h => (nomatch h), ?_⟩
          gi_wp2
          go_roundw
          case rel => exact ⟨z + 1, pre, by omega, by simp, by rw [hps'.out, hpre], hJ2, hnx.trans K2⟩
          case measure => simp [intOf]; omega
    · obtain rfl : z = S.length := by omega
      gi_wp2
      go_end0
      exact ⟨⟨_, rfl⟩, .inl ⟨pre, by rw [hpre, List.take_length], hJs⟩⟩
end Go.Proofs.Ytngbaiijdgmpoaa

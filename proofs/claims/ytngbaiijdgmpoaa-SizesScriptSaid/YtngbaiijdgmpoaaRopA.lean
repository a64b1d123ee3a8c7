/-
  Contracts of package ropes, first: trees in memory; count, total, tall, over.
-/
import Derived.Test.YtngbaiijdgmpoaaRows
import Derived.Test.YtngbaiijdgmpoaaRopP
import Derived.Test.YtngbaiijdgmpoaaFr
import Derived.Test.YtngbaiijdgmpoaaHeld
import Derived.LoopTactic
import Derived.Outline
import Derived.BigQuiet
namespace Go.Proofs.Ytngbaiijdgmpoaa
open Go.RowKit
set_option linter.unusedVariables false
set_option linter.unusedSimpArgs false

/-- The cells of a node. -/
def nodeCells (al ar : Option Addr) (s : Int) (n : Nat) (t : Int) (h : Nat) : Nat → Value := fun j =>
  if j = 0 then .pointer al else if j = 1 then .pointer ar else if j = 2 then .int .i64 s else if j = 3 then .int .i64 n else if j = 4 then .int .i64 t else .int .i64 h
/-- The tree at a pointer. -/
def Tr (w : World) : Option Addr → T → Prop
  | a, .nil => a = none
  | a, .node l s r => ∃ b al ar, a = some ⟨b, 0, none⟩ ∧ w.rowIs b 92 6 (nodeCells al ar s (T.node l s r).l.length (T.node l s r).l.sum (T.node l s r).ht) ∧ Tr w al l ∧ Tr w ar r

theorem Tr.stay {w w' : World} : ∀ {t : T} {a : Option Addr}, Tr w a t → (∀ b f, w.rowIs b 92 6 f → w'.heap[b]? = w.heap[b]?) → Tr w' a t
  | .nil, _, h, _ => h
  | .node l s r, _, h, k => by
    obtain ⟨b, al, ar, rfl, hr, h1, h2⟩ := h
    exact ⟨b, al, ar, rfl, hr.of_block (k b _ hr), h1.stay k, h2.stay k⟩
theorem Tr.below {w w' : World} {t : T} {a : Option Addr} (h : Tr w a t) (hb : Below w.heap.size w w') : Tr w' a t := h.stay fun b f hr => hb.block b hr.lt
theorem Tr.drawn {w w' : World} {t : T} {a : Option Addr} (h : Tr w a t) (hd : Drawn w w') : Tr w' a t := by obtain ⟨q, rfl⟩ := hd; exact h.stay fun _ _ _ => rfl
/-- A store into a block of another type. -/
theorem Tr.set {w : World} {t : T} {a : Option Addr} (h : Tr w a t) {g : Nat} {ty : TypeId} {n : Nat} {f : Nat → Value} (hg : w.rowIs g ty n f) (hty : ty ≠ 92) {p : Addr} (hp : p.block = g) (v : Value) : Tr (w.setCell p v) a t :=
  h.stay fun b f' hr => Below.heap_setCell _ _ _ _ (by
    rintro rfl
    subst hp
    obtain ⟨c1, h1, _⟩ := hr
    obtain ⟨c2, h2, _⟩ := hg
    rw [h1] at h2
    injection h2 with h2
    injection h2 with _ h2 _
    exact hty h2.symm)

structure NCells (w : World) (b : Nat) (al ar : Option Addr) (s : Int) (n : Nat) (t : Int) (h : Nat) : Prop where
  c0 : w.cell? ⟨b, 0, none⟩ = some (.pointer al)
  c1 : w.cell? ⟨b, 1, none⟩ = some (.pointer ar)
  c2 : w.cell? ⟨b, 2, none⟩ = some (.int .i64 s)
  c3 : w.cell? ⟨b, 3, none⟩ = some (.int .i64 n)
  c4 : w.cell? ⟨b, 4, none⟩ = some (.int .i64 t)
  c5 : w.cell? ⟨b, 5, none⟩ = some (.int .i64 h)
theorem ncells_of {w : World} {b : Nat} {al ar : Option Addr} {s : Int} {n : Nat} {t : Int} {h : Nat} (hr : w.rowIs b 92 6 (nodeCells al ar s n t h)) : NCells w b al ar s n t h :=
  ⟨hr.cell (i := 0) (by omega), hr.cell (i := 1) (by omega), hr.cell (i := 2) (by omega), hr.cell (i := 3) (by omega), hr.cell (i := 4) (by omega), hr.cell (i := 5) (by omega)⟩

theorem count_any (w : World) (a : Option Addr) (t : T) (h : Tr w a t) : Calls Try.prog 48 #[.pointer a] w fun e w' => e = .returned (.int .i64 t.l.length) ∧ w = w' := by
  cases t with
  | nil =>
    obtain rfl : a = none := h
    go_enter Try.func48, Try.ntmps48
    go_wp2_with fail
    go_ret
    exact ⟨rfl, rfl⟩
  | node l s r =>
    obtain ⟨b, al, ar, rfl, hr, _, _⟩ := h
    obtain ⟨c0, c1, c2, c3, c4, c5⟩ := ncells_of hr
    clear hr
    obtain ⟨n, hn⟩ : ∃ n, n = (T.node l s r).l.length := ⟨_, rfl⟩
    rw [← hn] at c3 ⊢
    clear hn c4
    go_enter Try.func48, Try.ntmps48
    go_wp2_with fail
    go_ret
    exact ⟨rfl, rfl⟩
theorem total_any (w : World) (a : Option Addr) (t : T) (h : Tr w a t) : Calls Try.prog 40 #[.pointer a] w fun e w' => e = .returned (.int .i64 t.l.sum) ∧ w = w' := by
  cases t with
  | nil =>
    obtain rfl : a = none := h
    go_enter Try.func40, Try.ntmps40
    go_wp2_with fail
    go_ret
    exact ⟨rfl, rfl⟩
  | node l s r =>
    obtain ⟨b, al, ar, rfl, hr, _, _⟩ := h
    obtain ⟨c0, c1, c2, c3, c4, c5⟩ := ncells_of hr
    clear hr
    obtain ⟨n, hn⟩ : ∃ n, n = (T.node l s r).l.sum := ⟨_, rfl⟩
    rw [← hn] at c4 ⊢
    clear hn c3
    go_enter Try.func40, Try.ntmps40
    go_wp2_with fail
    go_ret
    exact ⟨rfl, rfl⟩
theorem tall_any (w : World) (a : Option Addr) (t : T) (h : Tr w a t) : Calls Try.prog 72 #[.pointer a] w fun e w' => e = .returned (.int .i64 t.ht) ∧ w = w' := by
  cases t with
  | nil =>
    obtain rfl : a = none := h
    go_enter Try.func72, Try.ntmps72
    go_wp2_with fail
    go_ret
    exact ⟨rfl, rfl⟩
  | node l s r =>
    obtain ⟨b, al, ar, rfl, hr, _, _⟩ := h
    obtain ⟨c0, c1, c2, c3, c4, c5⟩ := ncells_of hr
    clear hr
    obtain ⟨n, hn⟩ : ∃ n, n = (T.node l s r).ht := ⟨_, rfl⟩
    rw [← hn] at c5 ⊢
    clear hn c3 c4
    go_enter Try.func72, Try.ntmps72
    go_wp2_with fail
    go_ret
    exact ⟨rfl, rfl⟩

/-- A new tree. -/
def TrPost (w : World) (t : T) (e : Ending) (w' : World) : Prop := ∃ a, e = .returned (.pointer a) ∧ Tr w' a t ∧ Below w.heap.size w w'

set_option maxRecDepth 100000 in
set_option maxHeartbeats 800000 in
theorem over_any (w : World) (al ar : Option Addr) (l r : T) (s : Int) (hl : Tr w al l) (hr : Tr w ar r) (ok : LOk (T.node l s r).l) :
    Calls Try.prog 74 #[.pointer al, .int .i64 s, .pointer ar] w (TrPost w (.node l s r)) := by
  have HL := Lib.hid hl
  have HR := Lib.hid hr
  have e1 : (T.node l s r).l.length = l.l.length + (r.l.length + 1) := by rw [T.l_node]; simp
  have e2 : (T.node l s r).l.sum = l.l.sum + (s + r.l.sum) := by rw [T.l_node, List.sum_append, List.sum_cons]
  have e3 : (T.node l s r).ht = max l.ht r.ht + 1 := rfl
  have n1 := ok.len
  have n2 := ok.top
  rw [e1] at n1
  rw [e2] at n2
  have n3 := ok.left.sum0
  have n4 := ok.right.tail.sum0
  obtain ⟨n5, n6⟩ := ok.right.head
  have n7 := l.ht_le
  have n8 := r.ht_le
  have H : ∀ n t h : Int, n = ((T.node l s r).l.length : Nat) → t = (T.node l s r).l.sum → h = ((T.node l s r).ht : Nat) → TrPost w (.node l s r) (.returned (.pointer (some ⟨w.heap.size, 0, none⟩))) (w.alloc (.cells #[.pointer al, .pointer ar, .int .i64 s, .int .i64 n, .int .i64 t, .int .i64 h] 92)) := by
    rintro n t h rfl rfl rfl
    have hb : Below w.heap.size w (w.alloc (.cells #[.pointer al, .pointer ar, .int .i64 s, .int .i64 ((T.node l s r).l.length : Nat), .int .i64 (T.node l s r).l.sum, .int .i64 ((T.node l s r).ht : Nat)] 92)) := (Below.refl _ w).alloc (Nat.le_refl _) _
    exact ⟨_, rfl, ⟨w.heap.size, al, ar, rfl, World.rowIs_alloc w _ 92 (nodeCells al ar s (T.node l s r).l.length (T.node l s r).l.sum (T.node l s r).ht) (fun j hj => by
      match j, hj with
      | 0, _ => rfl
      | 1, _ => rfl
      | 2, _ => rfl
      | 3, _ => rfl
      | 4, _ => rfl
      | 5, _ => rfl), hl.below hb, hr.below hb⟩, hb⟩
  have HF := Lib.hid (H ((l.l.length : Int) + r.l.length + 1) (l.l.sum + s + r.l.sum) (max (l.ht : Int) (r.ht : Int) + 1) (by rw [e1]; omega) (by rw [e2]; omega) (by rw [e3]; omega))
  have CL := Lib.hid (count_any w al l hl)
  have CR := Lib.hid (count_any w ar r hr)
  have SL := Lib.hid (total_any w al l hl)
  have SR := Lib.hid (total_any w ar r hr)
  have TL := Lib.hid (tall_any w al l hl)
  have TR := Lib.hid (tall_any w ar r hr)
  obtain ⟨i1, j1⟩ : ∃ i, i = l.l.length := ⟨_, rfl⟩
  obtain ⟨i2, j2⟩ : ∃ i, i = r.l.length := ⟨_, rfl⟩
  obtain ⟨s1, k1⟩ : ∃ i, i = l.l.sum := ⟨_, rfl⟩
  obtain ⟨s2, k2⟩ : ∃ i, i = r.l.sum := ⟨_, rfl⟩
  obtain ⟨h1, m1⟩ : ∃ i, i = l.ht := ⟨_, rfl⟩
  obtain ⟨h2, m2⟩ : ∃ i, i = r.ht := ⟨_, rfl⟩
  rw [← j1] at n1 n7 CL HF
  rw [← j2] at n1 n8 CR HF
  rw [← k1] at n2 n3 SL HF
  rw [← k2] at n2 n4 SR HF
  rw [← m1] at n7 TL HF
  rw [← m2] at n8 TR HF
  clear H e1 e2 e3 hl hr j1 j2 k1 k2 m1 m2
  go_enter Try.func74, Try.ntmps74
  go_wp2_with fail
  refine (CL.out).mono ?_
  rintro e w' ⟨rfl, rfl⟩
  go_wp2_with fail
  refine (CR.out).mono ?_
  rintro e w' ⟨rfl, rfl⟩
  go_wp2_with fail
  refine (SL.out).mono ?_
  rintro e w' ⟨rfl, rfl⟩
  go_wp2_with fail
  refine (SR.out).mono ?_
  rintro e w' ⟨rfl, rfl⟩
  go_wp2_with fail
  refine (TL.out).mono ?_
  rintro e w' ⟨rfl, rfl⟩
  go_wp2_with fail
  refine (TR.out).mono ?_
  rintro e w' ⟨rfl, rfl⟩
  go_wp2_with fail
  go_ret
  exact HF.out
end Go.Proofs.Ytngbaiijdgmpoaa

/-
  Frames: which blocks a call may turn. Over any program.
-/
import Derived.Test.YteodkmndghaidaaDoorMem2
namespace Go.Proofs.YteodkmndghaidaaDoor
open Go.RowKit
set_option linter.unusedVariables false

/-- Only blocks of S (and new ones) have turned. -/
structure Fr (S : Nat → Prop) (w w' : World) : Prop where
  os : w'.os = w.os
  tape : w'.tape = w.tape
  output : w'.output = w.output
  size : w.heap.size ≤ w'.heap.size
  block : ∀ k, k < w.heap.size → ¬ S k → w'.heap[k]? = w.heap[k]?

theorem Fr.refl (S : Nat → Prop) (w : World) : Fr S w w := ⟨rfl, rfl, rfl, Nat.le_refl _, fun _ _ _ => rfl⟩
theorem Fr.trans {S : Nat → Prop} {a b c : World} (h : Fr S a b) (k : Fr S b c) : Fr S a c :=
  ⟨k.os.trans h.os, k.tape.trans h.tape, k.output.trans h.output, Nat.le_trans h.size k.size, fun i hi hn => (k.block i (Nat.lt_of_lt_of_le hi h.size) hn).trans (h.block i hi hn)⟩
theorem Fr.drawn {S : Nat → Prop} {a w w' : World} (h : Fr S a w) (d : Drawn w w') : Fr S a w' := by obtain ⟨q, rfl⟩ := d; exact ⟨h.os, h.tape, h.output, h.size, h.block⟩
theorem Fr.alloc {S : Nat → Prop} {a w : World} (h : Fr S a w) (o : Obj) : Fr S a (w.alloc o) :=
  h.trans ⟨rfl, rfl, rfl, by simp, fun k hk _ => Below.heap_alloc _ _ _ hk⟩
theorem Fr.setCell {S : Nat → Prop} {a w : World} (h : Fr S a w) {p : Addr} (hp : S p.block) (u : Value) : Fr S a (w.setCell p u) :=
  h.trans ⟨rfl, rfl, rfl, by simp [World.setCell], fun k hk hn => Below.heap_setCell _ _ _ _ (fun e => hn (e ▸ hp))⟩
theorem Fr.of_below {S : Nat → Prop} {w w' : World} (h : Below w.heap.size w w') : Fr S w w' := ⟨h.os, h.tape, h.output, h.size, fun k hk _ => h.block k hk⟩
theorem Fr.below {S : Nat → Prop} {w w' : World} (h : Fr S w w') {B : Nat} (hB : B ≤ w.heap.size) (hS : ∀ b, S b → B ≤ b) : Below B w w' :=
  ⟨h.os, h.tape, h.output, h.size, fun k hk => h.block k (by omega) (fun s => by have := hS k s; omega)⟩
theorem Fr.mono {S T : Nat → Prop} {w w' : World} (h : Fr S w w') (hS : ∀ b, S b → T b) : Fr T w w' := ⟨h.os, h.tape, h.output, h.size, fun k hk hn => h.block k hk (fun s => hn (hS k s))⟩

theorem fr_cells {q : Nat} {w w' : World} (h : Fr (fun b => b = q) w w') : ∀ b o, b < w.heap.size → ¬ b = q → w'.cell? ⟨b, o, none⟩ = w.cell? ⟨b, o, none⟩ := fun b o h1 h2 => World.cell?_of_block (w := w) (h.block b h1 h2)
/-- A slice that is seen, none of its memory in S. -/
def SeesO (S : Nat → Prop) (w : World) (A : Option Addr) (n : Nat) (f : Nat → Value) : Prop :=
  0 < n → ∃ b o, A = some ⟨b, o, none⟩ ∧ b < w.heap.size ∧ ¬ S b ∧ ∀ j, j < n → w.cell? ⟨b, o + j, none⟩ = some (f j)
theorem SeesO.sees {S : Nat → Prop} {w : World} {A : Option Addr} {n : Nat} {f : Nat → Value} (h : SeesO S w A n f) : Sees w w.heap.size A n f := by
  intro hn
  obtain ⟨b, o, h1, h2, _, h3⟩ := h hn
  exact ⟨b, o, h1, h2, h3⟩
theorem SeesO.of {S : Nat → Prop} {w : World} {A : Option Addr} {n B : Nat} {f : Nat → Value} (h : Sees w B A n f) (hB : B ≤ w.heap.size) (hS : ∀ b, S b → B ≤ b) : SeesO S w A n f := by
  intro hn
  obtain ⟨b, o, h1, h2, h3⟩ := h hn
  exact ⟨b, o, h1, by omega, fun s => by have := hS b s; omega, h3⟩
theorem SeesO.fr {S : Nat → Prop} {w w' : World} {A : Option Addr} {n : Nat} {f : Nat → Value} (h : SeesO S w A n f) (k : Fr S w w') : SeesO S w' A n f := by
  intro hn
  obtain ⟨b, o, h1, h2, h3, h4⟩ := h hn
  exact ⟨b, o, h1, Nat.lt_of_lt_of_le h2 k.size, h3, fun j hj => (World.cell?_of_block (w := w) (k.block b h2 h3)).trans (h4 j hj)⟩
theorem SeesO.congr {S : Nat → Prop} {w : World} {A : Option Addr} {n : Nat} {f g : Nat → Value} (h : SeesO S w A n f) (e : ∀ j, j < n → f j = g j) : SeesO S w A n g := by
  intro hn
  obtain ⟨b, o, h1, h2, h3, h4⟩ := h hn
  exact ⟨b, o, h1, h2, h3, fun j hj => by rw [h4 j hj, e j hj]⟩
theorem SeesO.less {S T : Nat → Prop} {w : World} {A : Option Addr} {n : Nat} {f : Nat → Value} (h : SeesO S w A n f) (e : ∀ b, b < w.heap.size → T b → S b) : SeesO T w A n f := by
  intro hn
  obtain ⟨b, o, h1, h2, h3, h4⟩ := h hn
  exact ⟨b, o, h1, h2, fun t => h3 (e b h2 t), h4⟩
end Go.Proofs.YteodkmndghaidaaDoor

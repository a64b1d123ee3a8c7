/-
  The built-in append on slices of the call's own, with the one block that it may turn. Over any program.
-/
import Derived.Test.YteodkmndghaidaaDoorApp
import Derived.Test.YteodkmndghaidaaDoorFr
import Derived.Lib.AppendZeros
import Derived.OwnWalk
namespace Go.Proofs.YteodkmndghaidaaDoor
open Go.RowKit
set_option linter.unusedVariables false

theorem fr_setCells (w : World) (g o : Nat) (vs : List Value) : Fr (fun b => (some (⟨g, 0, none⟩ : Addr)).map (·.block) = some b) w (w.setCells g o vs) := by
  induction vs generalizing o w with
  | nil => exact Fr.refl _ _
  | cons v r ih => exact Fr.trans (S := fun b => (some (⟨g, 0, none⟩ : Addr)).map (·.block) = some b) (Fr.setCell (S := fun b => (some (⟨g, 0, none⟩ : Addr)).map (·.block) = some b) (Fr.refl _ w) (p := ⟨g, o, none⟩) rfl v) (ih (w.setCell ⟨g, o, none⟩ v) (o + 1))
theorem Own.fr {w w' : World} {B : Nat} {e : TypeId} {sz n c : Nat} {A : Option Addr} {F : Nat → Value} {S : Nat → Prop} (h : Own w B e sz n c A F) (k : Fr S w w') (hS : ∀ b, A.map (·.block) = some b → ¬ S b) : Own w' B e sz n c A F := by
  rcases h with h | ⟨h, g, F', hA, hg, hr, hF⟩
  · exact .inl h
  · exact .inr ⟨h, g, F', hA, hg, hr.of_block (k.block g hr.lt (hS g (by rw [hA]; rfl))), hF⟩
theorem Own.blk {w : World} {B n c : Nat} {e : TypeId} {sz : Nat} {A : Option Addr} {F : Nat → Value} (h : Own w B e sz n c A F) : ∀ k, A.map (·.block) = some k → B ≤ k ∧ k < w.heap.size := by
  intro k hk
  rcases h with ⟨rfl, _⟩ | ⟨h, g, F', rfl, hg, hr, hF⟩
  · cases hk
  · injection hk with hk
    have : g = k := hk
    subst this
    exact ⟨hg, hr.lt⟩

section
variable {P : Program}
/-- append(own, src...). -/
theorem own_append2 (w : World) (B : Nat) {t tx e e' : TypeId} {i : TypeInfo} {z : Value} {sz by_ : Nat} (ht : P.underlying t = some (.slice e)) (hi : P.info? e = some i) (hz : i.zero = some z) (hsz : i.size = sz) (hby : i.bytes = by_) (hzs : z.cells.size = sz) (h0 : 0 < sz)
    (hk : P.underlying tx = some (.slice e')) {n c : Nat} {A : Option Addr} {F : Nat → Value} (h : Own w B e sz n c A F) (hB : B ≤ w.heap.size)
    {A2 : Option Addr} {k c2 B2 : Nat} {f : Nat → Value} (hs : Sees w B2 A2 (k * sz) f) (h1 : ∀ j, (f j).oneCell' = true) (hm : n + k ≤ 1000000000) (hbb : by_ ≤ 1024) :
    ∃ A' c' w', (∀ ty, (Builtin.append_ #[t, tx] ty #[.slice A n c, .slice A2 k c2]).run P w = .ok (.slice A' (n + k) c') w') ∧ Own w' B e sz (n + k) c' A' (fun j => if j < n * sz then F j else f (j - n * sz)) ∧ Fr (fun b => A.map (·.block) = some b) w w' ∧ (A' = A ∨ ∃ g, A' = some ⟨g, 0, none⟩ ∧ w.heap.size ≤ g) ∧ (c ≤ maxLen → c' ≤ maxLen) := by
  subst hsz hby
  have hsrc := src_of w hk A2 k c2 B2 f hs h1 h0
  have hl : ((List.range (k * i.size)).map f).length = k * i.size := by simp
  by_cases k0 : k = 0
  · subst k0
    refine ⟨A, c, w, fun ty => ?_, h.congr (fun j hj => (if_pos hj).symm), Fr.refl _ _, .inl rfl, fun h => h⟩
    refine run_append_nothing w t tx ty e i ht hi A n c h.le _ ?_
    simpa using hsrc
  by_cases hroom : n + k ≤ c
  · rcases h with ⟨rfl, rfl, rfl⟩ | ⟨hn, g, F', rfl, hg, hr, hF⟩
    · omega
    have hle : (n + k) * i.size ≤ c * i.size := Nat.mul_le_mul_right _ hroom
    rw [Nat.add_mul] at hle
    refine ⟨_, c, _, fun ty => run_append_room_src w t tx ty e i ht hi g 0 n c _ k _ hsrc hroom (fun j hj => ?_) (fun j hj => hr.frozen _), .inr ⟨hroom, g, _, rfl, hg, rowIs_setCells _ _ _ _ hr, fun j hj => ?_⟩, fr_setCells _ _ _ _, .inl rfl, fun h => h⟩
    · rw [hl] at hj
      rw [hr.cell (by omega)]; rfl
    · rw [Nat.zero_add]
      rw [Nat.add_mul] at hj
      show (if n * i.size ≤ j then (((List.range (k * i.size)).map f)[j - n * i.size]?).getD (F' j) else F' j) = if j < n * i.size then F j else f (j - n * i.size)
      by_cases d : j < n * i.size
      · rw [if_neg (by omega), if_pos d]; exact hF j d
      · rw [if_pos (by omega), if_neg d, List.getElem?_map, List.getElem?_range (by omega)]; rfl
  · have hold : (Builtin.firstCells i.size n (.slice A n c)).run P w.drew = .ok ((List.range (n * i.size)).map F).toArray w.drew := by
      rcases h with ⟨rfl, rfl, rfl⟩ | ⟨hn, g, F', rfl, hg, hr, hF⟩
      · rw [run_firstCells_none]; simp
      · refine run_firstCells_some w.drew i.size n ⟨g, 0, none⟩ n c _ (by simp) fun j u hu => ?_
        have hj : j < n * i.size := by
          rcases Nat.lt_or_ge j (n * i.size) with h' | h'
          · exact h'
          · rw [List.getElem?_eq_none (by simpa using h')] at hu; cases hu
        rw [List.getElem?_map, List.getElem?_range hj] at hu
        simp only [Option.map_some, Option.some.injEq] at hu
        subst hu
        rw [add_none, Nat.zero_add]
        exact (hr.cell (Nat.lt_of_lt_of_le hj (Nat.mul_le_mul_right _ hn))).trans (by rw [hF j hj])
    have hle : (n + k) * i.bytes ≤ 1000000000 * 1024 := Nat.mul_le_mul hm hbb
    have hrun := fun ty => run_append_grow_src (P := P) w t tx ty e i z ht hi hz A n c _ hold _ k _ hsrc (by omega) (by omega) (growslice_fits (by omega) (by omega))
    have hge := grownCap_ge w (n + k) c e
    have hcm := grownCap_le_maxLen w (n + k) c e (by simp only [maxLen]; omega)
    refine ⟨_, _, _, hrun, .inr ⟨hge, w.heap.size, fun j => ((((List.range (n * i.size)).map F ++ (List.range (k * i.size)).map f).toArray ++ Builtin.zeroCells z.cells (grownCap w (n + k) c e - (n + k)))[j]?).getD (.bool false), rfl, hB, ?_, fun j hj => ?_⟩, ?_, .inr ⟨_, rfl, Nat.le_refl _⟩, fun _ => hcm⟩
    · have hrow := World.rowIs_alloc w.drew (((List.range (n * i.size)).map F ++ (List.range (k * i.size)).map f).toArray ++ Builtin.zeroCells z.cells (grownCap w (n + k) c e - (n + k))) e
        (fun j => ((((List.range (n * i.size)).map F ++ (List.range (k * i.size)).map f).toArray ++ Builtin.zeroCells z.cells (grownCap w (n + k) c e - (n + k)))[j]?).getD (.bool false)) (fun j hj => by
          rw [Array.getElem?_eq_getElem hj]; rfl)
      have hsize : (((List.range (n * i.size)).map F ++ (List.range (k * i.size)).map f).toArray ++ Builtin.zeroCells z.cells (grownCap w (n + k) c e - (n + k))).size = grownCap w (n + k) c e * i.size := by
        rw [Array.size_append, List.size_toArray, List.length_append, size_zeroCells, hzs]
        simp only [List.length_map, List.length_range]
        rw [← Nat.add_mul, ← Nat.add_mul]
        congr 1
        omega
      rw [hsize] at hrow
      exact hrow
    · show ((_ ++ _ : Array Value)[j]?).getD _ = _
      rw [Nat.add_mul] at hj
      rw [Array.getElem?_append_left (by simp; omega), List.getElem?_toArray]
      show _ = if j < n * i.size then F j else f (j - n * i.size)
      by_cases d : j < n * i.size
      · rw [if_pos d, List.getElem?_append_left (by simpa using d), List.getElem?_map, List.getElem?_range d]; rfl
      · rw [if_neg d, List.getElem?_append_right (by simp; omega), List.getElem?_map, List.getElem?_range (by simp; omega)]
        simp
    · exact ((Fr.refl _ w).drawn ⟨1, rfl⟩).alloc _
theorem own_append2' (w : World) (B : Nat) {t tx e e' : TypeId} {z : Value} {sz by_ : Nat} (ht : P.underlying t = some (.slice e)) (hi : (P.info? e).map (fun i => (i.zero, i.size, i.bytes)) = some (some z, sz, by_)) (hzs : z.cells.size = sz) (h0 : 0 < sz)
    (hk : P.underlying tx = some (.slice e')) {n c : Nat} {A : Option Addr} {F : Nat → Value} (h : Own w B e sz n c A F) (hB : B ≤ w.heap.size)
    {A2 : Option Addr} {k c2 B2 : Nat} {f : Nat → Value} (hs : Sees w B2 A2 (k * sz) f) (h1 : ∀ j, (f j).oneCell' = true) (hm : n + k ≤ 1000000000) (hbb : by_ ≤ 1024) :
    ∃ A' c' w', (∀ ty, (Builtin.append_ #[t, tx] ty #[.slice A n c, .slice A2 k c2]).run P w = .ok (.slice A' (n + k) c') w') ∧ Own w' B e sz (n + k) c' A' (fun j => if j < n * sz then F j else f (j - n * sz)) ∧ Fr (fun b => A.map (·.block) = some b) w w' ∧ (A' = A ∨ ∃ g, A' = some ⟨g, 0, none⟩ ∧ w.heap.size ≤ g) ∧ (c ≤ maxLen → c' ≤ maxLen) := by
  obtain ⟨i, hi', he⟩ := Option.map_eq_some_iff.1 hi
  injection he with e1 e2
  injection e2 with e2 e3
  exact own_append2 w B ht hi' e1 e2 e3 hzs h0 hk h hB hs h1 hm hbb

/-- append(own, v): one element of one cell; the world that the walk has made lies a block further. -/
theorem own_push (w : World) (B : Nat) {t e : TypeId} {z : Value} {by_ : Nat} (ht : P.underlying t = some (.slice e)) (hi : (P.info? e).map (fun i => (i.zero, i.size, i.bytes)) = some (some z, 1, by_)) (hzs : z.cells.size = 1) {n c : Nat} {A : Option Addr} {F : Nat → Value} (h : Own w B e 1 n c A F) (hB : B ≤ w.heap.size)
    (v : Value) (h1 : v.oneCell' = true) (hm : n + 1 ≤ 1000000000) (hbb : by_ ≤ 1024) :
    ∃ A' c' w', (∀ ty, (Builtin.append_ #[t, t] ty #[.slice A n c, .slice (some ⟨w.heap.size, 0, none⟩) 1 1]).run P (w.alloc (.cells #[v] e)) = .ok (.slice A' (n + 1) c') w') ∧ Own w' B e 1 (n + 1) c' A' (fun j => if j < n then F j else v) ∧
      Fr (fun b => A.map (·.block) = some b) w w' ∧ (A' = A ∨ ∃ g, A' = some ⟨g, 0, none⟩ ∧ w.heap.size ≤ g) ∧ (c ≤ maxLen → c' ≤ maxLen) := by
  have L0 : Below w.heap.size w (w.alloc (.cells #[v] e)) := (Below.refl _ w).alloc (Nat.le_refl _) _
  have hs : Sees (w.alloc (.cells #[v] e)) (w.heap.size + 1) (some ⟨w.heap.size, 0, none⟩) 1 (fun _ => v) := by
    have := Sees.lit w #[v] e (fun _ => v) 1 rfl (fun j hj => by have h0 : j = 0 := Nat.lt_one_iff.1 hj; subst h0; rfl)
    simpa using this
  obtain ⟨A', c', w', run, O, f, a, m⟩ := own_append2' (P := P) (w.alloc (.cells #[v] e)) B ht hi hzs (by omega) ht (h.below L0) (by simp; omega) (c2 := 1) (f := fun _ => v) (by simpa using hs) (fun _ => h1) hm hbb
  refine ⟨A', c', w', run, O.congr fun j hj => ?_, (Fr.of_below L0).trans f, ?_, m⟩
  · rw [Nat.mul_one]
  · rcases a with a | ⟨g, a1, a2⟩
    · exact .inl a
    · exact .inr ⟨g, a1, by simp at a2; omega⟩
end
end Go.Proofs.YteodkmndghaidaaDoor

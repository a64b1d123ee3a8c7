/-
  The built-ins copy and clear on rows that are known as functions of the index: what they leave, as one equation each. Over any program.
-/
import Derived.Test.YteodkmndghaidaaDoorMem
import Derived.Laws.CopyOwn
import Derived.OwnWalk
namespace Go.Proofs.YteodkmndghaidaaDoor
open Go.RowKit
set_option linter.unusedVariables false

/-- Nothing but block g (and new blocks) has turned. -/
abbrev Only (w w' : World) (g : Nat) : Prop := w.grownBy w' (some g)

theorem Only.refl (w : World) (g : Nat) : Only w w g := ⟨rfl, rfl, rfl, Nat.le_refl _, fun _ _ _ => rfl⟩
theorem Only.below {w w' : World} {g : Nat} (h : Only w w' g) {B : Nat} (hB : B ≤ g) (hs : B ≤ w.heap.size) : Below B w w' :=
  (Below.refl _ _).grown h hs (fun k hk => by injection hk with hk; omega)
theorem Only.row {w w' : World} {g g' : Nat} {t : TypeId} {n : Nat} {f : Nat → Value} (h : Only w w' g) (hr : w.rowIs g' t n f) (hne : g' ≠ g) : w'.rowIs g' t n f :=
  hr.of_block (h.block g' hr.lt (fun e => hne (by injection e)))
theorem Only.sees {w w' : World} {g B n : Nat} {A : Option Addr} {f : Nat → Value} (h : Only w w' g) (hs : Sees w B A n f) (hB : B ≤ g) (hsz : B ≤ w.heap.size) : Sees w' B A n f :=
  hs.below (h.below hB hsz)
theorem Only.cell {w w' : World} {g : Nat} (h : Only w w' g) {b : Nat} (hb : b < w.heap.size) (hne : b ≠ g) (o : Nat) : w'.cell? ⟨b, o, none⟩ = w.cell? ⟨b, o, none⟩ :=
  World.cell?_of_block (w := w) (h.block b hb (fun e => hne (by injection e)))
theorem Only.frozen {w w' : World} {g : Nat} (h : Only w w' g) {b : Nat} (hb : b < w.heap.size) (hne : b ≠ g) (o : Nat) : w'.frozen? ⟨b, o, none⟩ = w.frozen? ⟨b, o, none⟩ :=
  World.frozen?_of_block (w := w) (h.block b hb (fun e => hne (by injection e)))

theorem add_none (g o j : Nat) : (⟨g, o, none⟩ : Addr).add j = ⟨g, o + j, none⟩ := by
  unfold Addr.add
  by_cases h : j = 0
  · subst h; simp
  · simp [h]

theorem only_setRow (w : World) (g : Nat) (cs : Array Value) : Only w (w.setRow g cs) g :=
  ⟨rfl, rfl, rfl, by simp, fun b hb hne => setRow_other w g b cs (fun e => hne (by rw [e]))⟩

section
variable {P : Program}

/-- What a row holds behind a copy of k values to place off. -/
def spliced (f : Nat → Value) (off k : Nat) (cs : Nat → Value) : Nat → Value := fun j => if off ≤ j ∧ j < off + k then cs (j - off) else f j

/-- copy(row[off:], src), the source seen. -/
theorem copy_row (w : World) {dT sT elem : TypeId} (hu : P.underlying dT = some (.slice elem)) (hs : (P.info? elem).map (·.size) = some 1) {g t m : Nat} {f : Nat → Value} (hrow : w.rowIs g t m f)
    (off dLen dCap : Nat) {B : Nat} {A : Option Addr} {sLen sCap : Nat} {cs : Nat → Value} (hA : Sees w B A sLen cs) (h1 : ∀ j, (cs j).oneCell' = true) (k : Nat) (hk : k = Nat.min sLen dLen) (hfit : off + k ≤ m) :
    ∃ w', (∀ ty, (Builtin.copy_ #[dT, sT] ty #[.slice (some ⟨g, off, none⟩) dLen dCap, .slice A sLen sCap]).run P w = .ok (goInt k) w') ∧ w'.rowIs g t m (spliced f off k cs) ∧ Only w w' g := by
  by_cases h0 : k = 0
  · subst h0
    refine ⟨w, fun ty => ?_, hrow.congr (fun j _ => by unfold spliced; rw [if_neg (by omega)]), Only.refl _ _⟩
    exact run_copy_none (P := P) w dT sT ty elem _ A dLen dCap sLen sCap hu hs (by omega)
  · have hkl : k ≤ sLen := by rw [hk]; exact Nat.min_le_left _ _
    obtain ⟨b, o, rfl, hb, hc⟩ := hA (by omega)
    obtain ⟨cur, hg, hsz, hcur⟩ := hrow
    have hl : ((List.range k).map cs).length = k := by simp
    have hrun := fun ty => run_copy_row (P := P) w dT sT ty elem g off dLen dCap ⟨b, o, none⟩ sLen sCap cur t ((List.range k).map cs) hu hs hg (by rw [hl]; exact hk)
      (fun j v hv => by
        have hj : j < k := by
          rcases Nat.lt_or_ge j k with h | h
          · exact h
          · rw [List.getElem?_eq_none (by simpa using h)] at hv; cases hv
        rw [List.getElem?_map, List.getElem?_range hj] at hv
        simp only [Option.map_some, Option.some.injEq] at hv
        subst hv
        rw [add_none]
        exact hc j (by omega)) (by rw [hl, hsz]; exact hfit) (fun v hv => by
        obtain ⟨j, _, rfl⟩ := List.mem_map.1 hv
        exact h1 j)
    rw [hl] at hrun
    refine ⟨_, hrun, ⟨_, setRow_heap w g cur _ t (0, 0) hg, ?_, fun j hj => ?_⟩, only_setRow _ _ _⟩
    · simp [hsz]; omega
    · unfold spliced
      rw [List.getElem?_toArray]
      by_cases hj1 : j < off
      · rw [if_neg (by omega), List.append_assoc, List.getElem?_append_left (by simp [hsz]; omega), List.getElem?_take_of_lt hj1]
        simpa using hcur j hj
      · by_cases hj2 : j < off + k
        · rw [if_pos (by omega), List.append_assoc, List.getElem?_append_right (by simp [hsz]; omega)]
          have e : j - (List.take off cur.toList).length = j - off := by simp [hsz]; omega
          rw [e, List.getElem?_append_left (by simp; omega), List.getElem?_map, List.getElem?_range (by omega)]
          rfl
        · rw [if_neg (by omega), List.getElem?_append_right (by simp [hsz]; omega)]
          have e : j - (List.take off cur.toList ++ List.map cs (List.range k)).length = j - (off + k) := by simp [hsz]; omega
          rw [e, List.getElem?_drop, show off + k + (j - (off + k)) = j from by omega]
          simpa using hcur j hj

/-- copy that copies nothing. -/
theorem copy_nothing (w : World) {dT sT elem : TypeId} (hu : P.underlying dT = some (.slice elem)) (hs : (P.info? elem).map (·.size) = some 1) (dp sp : Option Addr) (dLen dCap sLen sCap : Nat) (hn : sLen = 0 ∨ dLen = 0) :
    ∀ ty, (Builtin.copy_ #[dT, sT] ty #[.slice dp dLen dCap, .slice sp sLen sCap]).run P w = .ok (goInt 0) w :=
  fun ty => run_copy_none (P := P) w dT sT ty elem dp sp dLen dCap sLen sCap hu hs (by rcases hn with h | h <;> subst h <;> simp)

/-- clear(row[off:off+k]). -/
theorem clear_row (w : World) {t' elem : TypeId} {z : Value} (hu : P.underlying t' = some (.slice elem)) (hz : ∀ W : World, (zeroValue elem).run P W = .ok z W) (hz1 : z.cells = #[z]) (hz2 : z.oneCell' = true) {g t m : Nat} {f : Nat → Value} (hrow : w.rowIs g t m f)
    (A : Option Addr) (off k c : Nat) (hA : 0 < k → A = some ⟨g, off, none⟩) (hfit : off + k ≤ m) :
    ∃ w', (∀ ty, (Builtin.clear_ #[t'] ty #[.slice A k c]).run P w = .ok (.tuple #[]) w') ∧ w'.rowIs g t m (spliced f off k fun _ => z) ∧ Only w w' g := by
  by_cases h0 : k = 0
  · subst h0
    refine ⟨w, fun ty => ?_, hrow.congr (fun j _ => by unfold spliced; rw [if_neg (by omega)]), Only.refl _ _⟩
    rcases A with _ | a <;> simp [Builtin.clear_, run_underlying hu]
  · rw [hA (by omega)]
    obtain ⟨cur, hg, hsz, hcur⟩ := hrow
    have hzc : (Builtin.zeroCells z.cells k).toList = List.replicate k z := by
      rw [hz1]
      simp [Builtin.zeroCells, Nat.mod_one]
      exact List.eq_replicate_iff.2 ⟨by simp, fun b hb => by simp at hb; exact hb.2.symm⟩
    have hst := run_storeCells_at P g off t (List.replicate k z) 0 cur w hg (by simp; omega) (fun v hv => by rw [List.eq_of_mem_replicate hv]; exact hz2)
    refine ⟨w.setRow g (cur.toList.take off ++ List.replicate k z ++ cur.toList.drop (off + k)).toArray, fun ty => ?_, ⟨_, setRow_heap w g cur _ t (0, 0) hg, ?_, fun j hj => ?_⟩, only_setRow _ _ _⟩
    · obtain ⟨k', rfl⟩ : ∃ k', k = k' + 1 := ⟨k - 1, by omega⟩
      simp only [Builtin.clear_]
      simp [run_underlying hu, hz, hzc, hst]
    · simp [hsz]; omega
    · unfold spliced
      rw [List.getElem?_toArray]
      by_cases hj1 : j < off
      · rw [if_neg (by omega), List.append_assoc, List.getElem?_append_left (by simp [hsz]; omega), List.getElem?_take_of_lt hj1]
        simpa using hcur j hj
      · by_cases hj2 : j < off + k
        · rw [if_pos (by omega), List.append_assoc, List.getElem?_append_right (by simp [hsz]; omega)]
          have e : j - (List.take off cur.toList).length = j - off := by simp [hsz]; omega
          rw [e, List.getElem?_append_left (by simp; omega), List.getElem?_replicate, if_pos (by omega)]
        · rw [if_neg (by omega), List.getElem?_append_right (by simp [hsz]; omega)]
          have e : j - (List.take off cur.toList ++ List.replicate k z).length = j - (off + k) := by simp [hsz]; omega
          rw [e, List.getElem?_drop, show off + k + (j - (off + k)) = j from by omega]
          simpa using hcur j hj
end
end Go.Proofs.YteodkmndghaidaaDoor

/-
  The arguments of layer 4's laws, opened: bits, and steps.
-/
import Derived.Test.YteodkmndghaidaaDoorRows
import Derived.Test.YteodkmndghaidaaDoorFlaL
import Derived.Test.YteodkmndghaidaaDoorOpen2
import Derived.Deep.Grids
namespace Go.Proofs.YteodkmndghaidaaDoor
open Go.RowKit Go.ChangeShapes Go.WideShapes Go.ChangeAt Go.Joins Go.Deep
set_option linter.unusedVariables false

theorem bt_range (B : Nat → Bool) (n : Nat) {j : Nat} (h : j < n) : bt ((List.range n).map B) j = B j := by
  unfold bt
  rw [List.getD_eq_getElem?_getD, List.getElem?_map, List.getElem?_range h]; rfl
/-- A slice of bits. -/
theorem op_bools {H : Type} {enc : TypeId × Value → H} {P : Program} {w : World} {r : Reach} {b0 base : Nat} {held : Bool} {t e : TypeId} {v : Value} {d : DataW H} {ps : List MemPlace}
    (ht : P.underlying t = some (.slice e)) (he : P.underlying e = some .bool) (hc : P.cellsOf e = 1) (hv : Value.okWide P w r b0 t v) (hd : DataW.Trod enc P w base (fun _ => true) held t v d ps) :
    ∃ A n c l, v = .slice A n c ∧ (n = l.length ∧ SeesF w w.heap.size A l) ∧ n ≤ c ∧ c ≤ maxLen := by
  obtain ⟨A, n, c, rfl⟩ := okWide_slice ht hv
  obtain ⟨fuel, hf⟩ := hd
  rcases open_bools ht he hc (by simpa [Value.cells] using hf) with ⟨h, _⟩ | ⟨a, len, cap, Bf, h, _, h1, h2, _, hcell⟩
  · simp at h
    obtain ⟨rfl, rfl, rfl⟩ := h
    exact ⟨none, 0, 0, [], rfl, ⟨rfl, Sees.nil⟩, Nat.le_refl _, Nat.zero_le _⟩
  · simp at h
    obtain ⟨rfl, rfl, rfl⟩ := h
    refine ⟨some a, n, c, (List.range n).map Bf, rfl, ⟨by simp, ?_⟩, h1, h2⟩
    have hl : ((List.range n).map Bf).length = n := by simp
    show Sees w w.heap.size (some a) ((List.range n).map Bf).length _
    rw [hl]
    intro hn
    obtain ⟨b, o, spot⟩ := a
    have hc0 := hcell 0 (by omega)
    have hspot : spot = none := by simpa [Addr.add] using World.cell?_spot hc0
    subst hspot
    refine ⟨b, o, rfl, ?_, fun j hj => ?_⟩
    · have := block_lt_of_cell hc0
      simpa [Addr.add] using this
    · have hcj := hcell j (by omega)
      have e : (⟨b, o, none⟩ : Addr).add j = ⟨b, o + j, none⟩ := by
        unfold Addr.add
        by_cases h : j = 0
        · subst h; simp
        · simp [h]
      rw [e] at hcj
      rw [bvs_at, bt_range Bf n hj]
      exact hcj
/-- A step of the law. -/
def StepF (F : Nat → Value) (i : Nat) : Prop :=
  ∃ kd a m x : Int, F (i * 4) = .int .u8 kd ∧ F (i * 4 + 1) = .int .i64 a ∧ F (i * 4 + 2) = .int .i64 m ∧ F (i * 4 + 3) = .int .i64 x ∧ (0 ≤ kd ∧ kd ≤ 255) ∧ Fits a ∧ Fits m ∧ Fits x
set_option maxRecDepth 100000 in
theorem op_Steps {H : Type} {enc : TypeId × Value → H} {w : World} {r : Reach} {b0 base : Nat} {spare : Nat → Bool} {held : Bool} {v : Value} {d : DataW H} {ps : List MemPlace}
    (hv : Value.okWide Tryd.prog w r b0 39 v) (hd : DataW.Trod enc Tryd.prog w base spare held 39 v d ps) :
    ∃ A n c F, v = .slice A n c ∧ Sees w w.heap.size A (n * 4) F ∧ (∀ i, i < n → StepF F i) ∧ n ≤ c ∧ c ≤ maxLen := by
  obtain ⟨A, n, c, F, rfl, hs, h1, h2, hf⟩ := op_rows Tryd.underlying39 Tryd.underlying42 (m := 4) rfl (by kernel_rfl) (by kernel_rfl) hv hd
  refine ⟨A, n, c, F, rfl, hs, fun i hi => ?_, h1, h2⟩
  obtain ⟨_, _, g0⟩ := hf i hi 0 _ rfl
  obtain ⟨_, _, g1⟩ := hf i hi 1 _ rfl
  obtain ⟨_, _, g2⟩ := hf i hi 2 _ rfl
  obtain ⟨_, _, g3⟩ := hf i hi 3 _ rfl
  obtain ⟨x0, e0, f0⟩ := cell_u8 Tryd.underlying5 g0
  obtain ⟨x1, e1, f1⟩ := cell_i64 Tryd.underlying3 g1
  obtain ⟨x2, e2, f2⟩ := cell_i64 Tryd.underlying3 g2
  obtain ⟨x3, e3, f3⟩ := cell_i64 Tryd.underlying3 g3
  exact ⟨x0, x1, x2, x3, e0, e1, e2, e3, f0, f1, f2, f3⟩
theorem bt_fIns {L : List Bool} {k : Nat} (h : k ≤ L.length) (m : Nat) (v : Bool) (j : Nat) : bt (fIns L k m v) j = if j < k then bt L j else if j < k + m then v else bt L (j - m) := by
  unfold fIns
  rw [bt_app, bt_app, List.length_append, List.length_take, List.length_replicate, Nat.min_eq_left h, bt_drop, bt_rep]
  by_cases c : j < k
  · rw [if_pos (by omega), if_pos c, if_pos c, bt_take c]
  · rw [if_neg c, if_neg c]
    by_cases d : j < k + m
    · rw [if_pos d, if_pos d, decide_eq_true (by omega), Bool.true_and]
    · rw [if_neg d, if_neg d, show k + (j - (k + m)) = j - m from by omega]
theorem bt_fMov {L : List Bool} {k m q : Nat} (h : k + m ≤ L.length) (hq : q ≤ L.length - m) (j : Nat) : bt (fMov L k m q) j = if j < q then bt (fRem L k m) j else if j < q + m then bt L (k + (j - q)) else bt (fRem L k m) (j - m) := by
  unfold fMov
  rw [bt_app, bt_app, List.length_append, List.length_take, List.length_take, List.length_drop, fRem_len h, Nat.min_eq_left hq, Nat.min_eq_left (show m ≤ L.length - k by omega), bt_drop]
  by_cases c : j < q
  · rw [if_pos (by omega), if_pos c, if_pos c, bt_take c]
  · rw [if_neg c, if_neg c]
    by_cases d : j < q + m
    · rw [if_pos d, if_pos d, bt_take (by omega), bt_drop]
    · rw [if_neg d, if_neg d, show q + (j - (q + m)) = j - m from by omega]
end Go.Proofs.YteodkmndghaidaaDoor

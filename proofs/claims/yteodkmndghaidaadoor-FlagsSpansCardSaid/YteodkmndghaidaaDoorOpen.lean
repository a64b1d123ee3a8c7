/-
  Arguments opened by their types' shapes: integers, slices of integers, arrays of two and three integers, a struct of a slice of bytes and a bool. Over any program.
-/
import Derived.Test.YteodkmndghaidaaDoorMem
import Derived.ProofKit
import Derived.OpenShut
import Derived.ChangeOld
import Derived.Below
import Derived.Lib.SmallJoins
namespace Go.Proofs.YteodkmndghaidaaDoor
open Go.RowKit Go.ChangeShapes Go.WideShapes Go.ChangeAt Go.Joins

section
variable {H : Type} {enc : TypeId × Value → H} {P : Program} {w : World} {r : Reach} {b0 base : Nat} {spare : Nat → Bool} {held : Bool} {t e : TypeId} {v : Value} {d : DataW H} {ps : List MemPlace}

theorem op_i64 (ht : P.underlying t = some (.int .i64)) (hv : Value.okWide P w r b0 t v) (hd : DataW.Trod enc P w base spare held t v d ps) : ∃ x, v = .int .i64 x ∧ Fits x := by
  obtain ⟨x, rfl, _, _, wx⟩ := open_int ht hv hd
  exact ⟨x, rfl, bounds_i64 wx⟩
theorem op_u8 (ht : P.underlying t = some (.int .u8)) (hv : Value.okWide P w r b0 t v) (hd : DataW.Trod enc P w base spare held t v d ps) : ∃ x, v = .int .u8 x ∧ 0 ≤ x ∧ x ≤ 255 := by
  obtain ⟨x, rfl, _, _, wx⟩ := open_int ht hv hd
  exact ⟨x, rfl, bounds_u8 wx⟩
theorem op_bool (ht : P.underlying t = some .bool) (hv : Value.okWide P w r b0 t v) (hd : DataW.Trod enc P w base spare held t v d ps) : ∃ x, v = .bool x := by
  obtain ⟨x, rfl, _, _⟩ := open_bool ht hv hd
  exact ⟨x, rfl⟩

/-- A slice of integers, by its cells. -/
theorem op_ints_cells {k : IntKind} {fuel : Nat} {A : Option Addr} {n c : Nat} {x : DataW H × List MemPlace} (ht : P.underlying t = some (.slice e)) (he : P.underlying e = some (.int k)) (hc : P.cellsOf e = 1) (h0 : (Lit.int k 0).wf = true)
    (hf : DataW.trod enc P w base spare held fuel t [.slice A n c] = some x) :
    ∃ l : Nat → Int, Sees w w.heap.size A n (fun j => .int k (l j)) ∧ (∀ j, (Lit.int k (l j)).wf = true) ∧ n ≤ c ∧ c ≤ maxLen := by
  rcases open_ints ht he hc hf with ⟨hcs, _⟩ | ⟨a, l, cc, zs, hcs, _, hl, hm, hz, _, hcell, hwz⟩
  · simp at hcs
    obtain ⟨rfl, rfl, rfl⟩ := hcs
    exact ⟨fun _ => 0, Sees.nil, fun _ => h0, Nat.le_refl _, Nat.zero_le _⟩
  · simp at hcs
    obtain ⟨rfl, rfl, rfl⟩ := hcs
    have hlen : n ≤ zs.length := by rw [hz]; split <;> omega
    refine ⟨fun j => zs.getD j 0, ?_, fun j => ?_, hl, hm⟩
    · intro hn
      obtain ⟨b, o, spot⟩ := a
      have hc0 := hcell 0 (by omega)
      have hspot : spot = none := by simpa [Addr.add] using World.cell?_spot hc0
      subst hspot
      refine ⟨b, o, rfl, ?_, fun j hj => ?_⟩
      · have := block_lt_of_cell hc0
        simpa [Addr.add] using this
      · have hcj := hcell j (by omega)
        have e : (⟨b, o, none⟩ : Addr).add j = ⟨b, o + j, none⟩ := by
          unfold Addr.add
          by_cases h : j = 0
          · subst h; simp
          · simp [h]
        rw [e] at hcj
        exact hcj
    · by_cases hj : j < zs.length
      · simp only [List.getD_eq_getElem?_getD, List.getElem?_eq_getElem hj, Option.getD_some]
        exact hwz _ (List.getElem_mem hj)
      · have hn : zs[j]? = none := List.getElem?_eq_none (by omega)
        simp only [List.getD_eq_getElem?_getD, hn, Option.getD_none]
        exact h0
theorem op_i64s (ht : P.underlying t = some (.slice e)) (he : P.underlying e = some (.int .i64)) (hc : P.cellsOf e = 1) (hv : Value.okWide P w r b0 t v) (hd : DataW.Trod enc P w base spare held t v d ps) :
    ∃ A n c l, v = .slice A n c ∧ Sees w w.heap.size A n (i64s l) ∧ (∀ k, Fits (l k)) ∧ n ≤ c ∧ c ≤ maxLen := by
  obtain ⟨A, n, c, rfl⟩ := okWide_slice ht hv
  obtain ⟨fuel, hf⟩ := hd
  obtain ⟨l, h1, h2, h3, h4⟩ := op_ints_cells ht he hc (by decide) (by simpa [Value.cells] using hf)
  exact ⟨A, n, c, l, rfl, h1, fun k => bounds_i64 (h2 k), h3, h4⟩

theorem okWide_arr' {k : TypeId} {n : Nat} (ht : P.underlying t = some (.array n k)) (h : Value.okWide P w r b0 t v) : ∃ cs, v = .agg cs ∧ cs.size = P.cellsOf t := by
  simp only [Value.okWide, ht] at h
  obtain ⟨cs, h1, h2, _⟩ := h
  exact ⟨cs, h1, h2⟩

/-- An array of integers by value. -/
theorem op_arr {k : IntKind} {n : Nat} (ht : P.underlying t = some (.array n e)) (he : P.underlying e = some (.int k)) (hc : P.cellsOf e = 1) (hC : P.cellsOf t = n) (hv : Value.okWide P w r b0 t v) (hd : DataW.Trod enc P w base spare held t v d ps) :
    ∃ cs : Array Value, v = .agg cs ∧ cs.size = n ∧ ∀ i, i < n → ∃ x, cs[i]? = some (.int k x) ∧ (Lit.int k x).wf = true := by
  obtain ⟨cs, rfl, hsz⟩ := okWide_arr' ht hv
  obtain ⟨fuel, hf⟩ := hd
  obtain ⟨xs, m, _, _, _, hlen, hg⟩ := DataW.trod_array ht hf
  refine ⟨cs, rfl, by omega, fun i hi => ?_⟩
  have h1 := hg i hi
  rw [hc, Nat.mul_one] at h1
  have hl : (Value.cells (.agg cs)).toList = cs.toList := rfl
  rw [hl] at h1
  have hi' : i < cs.toList.length := by simp; omega
  have e1 : (cs.toList.drop i).take 1 = [cs.toList[i]] := by
    rw [List.drop_eq_getElem_cons hi']
    rfl
  rw [e1, List.getElem?_eq_getElem (by omega)] at h1
  obtain ⟨x, hx, _, hw⟩ := DataW.trod_int he h1
  simp only [List.cons.injEq, and_true] at hx
  refine ⟨x, ?_, hw⟩
  rw [← hx]
  simp at hi' ⊢
end
end Go.Proofs.YteodkmndghaidaaDoor

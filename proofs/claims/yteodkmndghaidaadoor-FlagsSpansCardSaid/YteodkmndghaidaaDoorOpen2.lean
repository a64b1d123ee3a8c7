/-
  Arguments that are slices of structs of one-cell fields, opened to their cells. Over any program. (The opener follows the kit's page on structs.)
-/
import Derived.Test.YteodkmndghaidaaDoorOpen
import Derived.Deep.Slices
import Derived.Deep.Fields
import Derived.ChangeSame
namespace Go.Proofs.YteodkmndghaidaaDoor
open Go.RowKit Go.ChangeShapes Go.WideShapes Go.ChangeAt Go.Joins Go.Deep
set_option linter.unusedVariables false

section
variable {H : Type} {enc : TypeId × Value → H} {P : Program} {w : World} {r : Reach} {b0 base : Nat} {spare : Nat → Bool} {held : Bool} {t e : TypeId} {v : Value} {d : DataW H} {ps : List MemPlace}

/-- A slice of structs of m one-cell fields: its cells, and how each of them reads. -/
theorem op_rows {fs : Array Field} {m : Nat} (ht : P.underlying t = some (.slice e)) (he : P.underlying e = some (.struct fs)) (hm : fs.size = m)
    (hone : oneCellFields P fs = true) (hC : P.cellsOf e = m) (hv : Value.okWide P w r b0 t v) (hd : DataW.Trod enc P w base spare held t v d ps) :
    ∃ A n c F, v = .slice A n c ∧ Sees w w.heap.size A (n * m) F ∧ n ≤ c ∧ c ≤ maxLen ∧
      ∀ i, i < n → ∀ (j : Nat) (f : Field), fs[j]? = some f → ∃ y k, DataW.trod enc P w base spare held k f.type [F (i * m + j)] = some y := by
  subst hm
  obtain ⟨A, n, c, rfl⟩ := okWide_slice ht hv
  obtain ⟨fuel, hf⟩ := hd
  rcases open_slice ht (by simpa [Value.cells] using hf) with ⟨h0, _⟩ | ⟨a, len, cap, mm, nn, D, Pl, hcs, hb, hl, hmx, hmm, hx, hi⟩
  · simp at h0
    obtain ⟨rfl, rfl, rfl⟩ := h0
    exact ⟨none, 0, 0, fun _ => .bool false, rfl, by rw [Nat.zero_mul]; exact Sees.nil, Nat.le_refl _, Nat.zero_le _, fun i h => absurd h (by omega)⟩
  · simp at hcs
    obtain ⟨rfl, rfl, rfl⟩ := hcs
    have hlen : n ≤ mm := by rw [hmm]; split <;> omega
    have hel : ∀ i, i < n → ∀ (j : Nat) (f : Field), fs[j]? = some f → ∃ v y k, w.cell? (a.add (i * fs.size + j)) = some v ∧ DataW.trod enc P w base spare held k f.type [v] = some y := by
      intro i him j f hj
      obtain ⟨cs', hc, ht'⟩ := hi i (by omega)
      rw [hC] at hc
      obtain ⟨ys, n', hn', hy, hlen', hyl, hf'⟩ := DataW.trod_struct he ht'
      obtain ⟨_, hcl, hat⟩ := World.cells?_some hc
      obtain ⟨ho, hk⟩ := hone_of hone j f hj
      have hjl : j < fs.size := (Array.getElem?_eq_some_iff.1 hj).1
      have hcell := hat j hjl
      have h1 := hf' j f hj
      rw [ho, hk] at h1
      have hv : cs'[j]? = some (cs'[j]'(by omega)) := List.getElem?_eq_getElem (by omega)
      have hone' : (cs'.drop j).take 1 = [cs'[j]'(by omega)] := by
        rw [List.drop_eq_getElem_cons (by omega)]
        rfl
      rw [hone'] at h1
      have hys : ys[j]? = some (ys[j]'(by omega)) := List.getElem?_eq_getElem (by omega)
      exact ⟨_, _, _, by rw [← Go.Deep.add_add, hcell, hv], h1.trans hys⟩
    by_cases hs0 : fs.size = 0
    · exact ⟨some a, n, c, fun _ => .bool false, rfl, by rw [hs0, Nat.mul_zero]; exact Sees.nil, hl, hmx, fun i _ j f hj => by
        have := (Array.getElem?_eq_some_iff.1 hj).1; omega⟩
    refine ⟨some a, n, c, fun k => (w.cell? (a.add k)).getD (.bool false), rfl, ?_, hl, hmx, fun i him j f hj => ?_⟩
    · intro hn
      obtain ⟨b, o, spot⟩ := a
      have hn0 : 0 < n := Nat.pos_of_ne_zero (fun e => by rw [e, Nat.zero_mul] at hn; omega)
      have hcl : ∀ k, k < n * fs.size → ∃ v, w.cell? ((⟨b, o, spot⟩ : Addr).add k) = some v := by
        intro k hk
        have h1 : k / fs.size < n := Nat.div_lt_of_lt_mul (by rw [Nat.mul_comm]; exact hk)
        have h2 : k % fs.size < fs.size := Nat.mod_lt _ (by omega)
        obtain ⟨v, _, _, hv, _⟩ := hel (k / fs.size) h1 (k % fs.size) _ (Array.getElem?_eq_getElem h2)
        rw [Nat.mul_comm, Nat.div_add_mod] at hv
        exact ⟨v, hv⟩
      obtain ⟨v0, hc0⟩ := hcl 0 hn
      have hspot : spot = none := by simpa [Addr.add] using World.cell?_spot hc0
      subst hspot
      refine ⟨b, o, rfl, ?_, fun j hj => ?_⟩
      · have := block_lt_of_cell hc0
        simpa [Addr.add] using this
      · obtain ⟨v, hv⟩ := hcl j hj
        have e : (⟨b, o, none⟩ : Addr).add j = ⟨b, o + j, none⟩ := by
          unfold Addr.add
          by_cases h : j = 0
          · subst h; simp
          · simp [h]
        show w.cell? ⟨b, o + j, none⟩ = some ((w.cell? ((⟨b, o, none⟩ : Addr).add j)).getD (.bool false))
        rw [e] at hv ⊢
        rw [hv]; rfl
    · obtain ⟨v, y, k, hv, hy⟩ := hel i him j f hj
      refine ⟨y, k, ?_⟩
      show DataW.trod enc P w base spare held k f.type [(w.cell? (a.add (i * fs.size + j))).getD (.bool false)] = some y
      rw [hv]
      exact hy

/-- A cell that reads as an int64. -/
theorem cell_i64 {k : Nat} {x : Value} {y : DataW H × List MemPlace} (ht : P.underlying t = some (.int .i64)) (h : DataW.trod enc P w base spare held k t [x] = some y) : ∃ z, x = .int .i64 z ∧ Fits z := by
  obtain ⟨z, hz, _, hw⟩ := DataW.trod_int ht h
  simp only [List.cons.injEq, and_true] at hz
  exact ⟨z, hz, bounds_i64 hw⟩
theorem cell_u8 {k : Nat} {x : Value} {y : DataW H × List MemPlace} (ht : P.underlying t = some (.int .u8)) (h : DataW.trod enc P w base spare held k t [x] = some y) : ∃ z, x = .int .u8 z ∧ 0 ≤ z ∧ z ≤ 255 := by
  obtain ⟨z, hz, _, hw⟩ := DataW.trod_int ht h
  simp only [List.cons.injEq, and_true] at hz
  exact ⟨z, hz, bounds_u8 hw⟩
end
end Go.Proofs.YteodkmndghaidaaDoor

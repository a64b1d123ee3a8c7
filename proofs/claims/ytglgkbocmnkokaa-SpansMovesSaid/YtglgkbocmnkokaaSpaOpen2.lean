/-
  The S of layer 1's law, opened.
-/
import Derived.Test.YtglgkbocmnkokaaRows
import Derived.Test.YtglgkbocmnkokaaOpen3
import Derived.Test.YtglgkbocmnkokaaSpaM
import Derived.Deep.Grids
namespace Go.Proofs.Ytglgkbocmnkokaa
open Go.RowKit Go.ChangeShapes Go.WideShapes Go.ChangeAt Go.Joins Go.Deep

theorem op_S {H : Type} {enc : TypeId × Value → H} {w : World} {r : Reach} {b0 base : Nat} {held : Bool} {v : Value} {d : DataW H} {ps : List MemPlace}
    (hv : Value.okWide Try.prog w r b0 41 v) (hd : DataW.Trod enc Try.prog w base (fun _ => true) held 41 v d ps) :
    ∃ A n c m, v = .agg #[.slice A n c] ∧ Sees w w.heap.size A n (bls m) ∧ n ≤ c ∧ c ≤ maxLen := by
  obtain ⟨cs, rfl, hsz, hf⟩ := op_struct Try.underlying41 (m := 1) rfl (by kernel_rfl) (by kernel_rfl) hv hd
  obtain ⟨x0, y0, k0, e0, r0⟩ := hf 0 _ rfl
  have key : ∃ A n c m, x0 = .slice A n c ∧ Sees w w.heap.size A n (bls m) ∧ n ≤ c ∧ c ≤ maxLen := by
    rcases open_bools Try.underlying39 Try.underlying4 (by kernel_rfl) r0 with ⟨h, _⟩ | ⟨a, len, cap, Bf, h, _, h1, h2, _, hcell⟩
    · simp at h
      exact ⟨none, 0, 0, fun _ => false, h, Sees.nil, Nat.le_refl _, Nat.zero_le _⟩
    · simp at h
      refine ⟨some a, len, cap, Bf, h, ?_, h1, h2⟩
      intro hn
      obtain ⟨b, o, spot⟩ := a
      have hc0 := hcell 0 (by omega)
      have hspot : spot = none := by simpa [Addr.add] using World.cell?_spot hc0
      subst hspot
      refine ⟨b, o, rfl, ?_, fun j hj => ?_⟩
      · have := block_lt_of_cell hc0
        simpa [Addr.add] using this
      · have hcj := hcell j (by omega)
        have e : (⟨b, o, none⟩ : Addr).add j = ⟨b, o + j, none⟩ := by
          unfold Addr.add
          by_cases h : j = 0
          · subst h; simp
          · simp [h]
        rw [e] at hcj
        exact hcj
  obtain ⟨A, n, c, m, rfl, q1, q2, q3⟩ := key
  refine ⟨A, n, c, m, ?_, q1, q2, q3⟩
  congr 1
  apply Array.ext
  · rw [hsz]; rfl
  · intro i hi hi2
    have : i = 0 := by omega
    subst this
    exact Option.some.inj ((Array.getElem?_eq_getElem _).symm.trans e0)
end Go.Proofs.Ytglgkbocmnkokaa

/-
  An argument that is a struct of a slice of bytes and a bool, opened. Over any program.
-/
import Derived.Test.YtngbaiijdgmpoaaOpen2
namespace Go.Proofs.Ytngbaiijdgmpoaa
open Go.RowKit Go.ChangeShapes Go.WideShapes Go.ChangeAt Go.Joins Go.Deep
set_option linter.unusedVariables false

section
variable {H : Type} {enc : TypeId × Value → H} {P : Program} {w : World} {r : Reach} {b0 base : Nat} {spare : Nat → Bool} {held : Bool} {t e : TypeId} {v : Value} {d : DataW H} {ps : List MemPlace}

theorem okWide_struct' {fs : Array Field} (ht : P.underlying t = some (.struct fs)) (h : Value.okWide P w r b0 t v) : ∃ cs, v = .agg cs ∧ cs.size = P.cellsOf t := by
  simp only [Value.okWide, ht] at h
  obtain ⟨cs, h1, h2, _⟩ := h
  exact ⟨cs, h1, h2⟩
/-- The cells of a struct of m one-cell fields, and how each of them reads. -/
theorem op_struct {fs : Array Field} {m : Nat} (ht : P.underlying t = some (.struct fs)) (hm : fs.size = m) (hone : oneCellFields P fs = true) (hC : P.cellsOf t = m) (hv : Value.okWide P w r b0 t v) (hd : DataW.Trod enc P w base spare held t v d ps) :
    ∃ cs : Array Value, v = .agg cs ∧ cs.size = m ∧ ∀ (j : Nat) (f : Field), fs[j]? = some f → ∃ x y k, cs[j]? = some x ∧ DataW.trod enc P w base spare held k f.type [x] = some y := by
  subst hm
  obtain ⟨cs, rfl, hsz⟩ := okWide_struct' ht hv
  obtain ⟨fuel, hf⟩ := hd
  obtain ⟨ys, n', hn', hy, hlen', hyl, hf'⟩ := DataW.trod_struct ht hf
  refine ⟨cs, rfl, by omega, fun j f hj => ?_⟩
  obtain ⟨ho, hk⟩ := hone_of hone j f hj
  have hjl : j < fs.size := (Array.getElem?_eq_some_iff.1 hj).1
  have h1 := hf' j f hj
  rw [ho, hk] at h1
  have hl : (Value.cells (.agg cs)).toList = cs.toList := rfl
  rw [hl] at h1
  have hi' : j < cs.toList.length := by simp; omega
  have e1 : (cs.toList.drop j).take 1 = [cs.toList[j]] := by
    rw [List.drop_eq_getElem_cons hi']
    rfl
  rw [e1] at h1
  have hys : ys[j]? = some (ys[j]'(by omega)) := List.getElem?_eq_getElem (by omega)
  exact ⟨cs.toList[j], _, _, by simp, h1.trans hys⟩
/-- A struct of a slice of bytes and a bool. -/
theorem op_sb {fs : Array Field} {f0 f1 : Field} (ht : P.underlying t = some (.struct fs)) (hm : fs.size = 2) (hone : oneCellFields P fs = true) (hC : P.cellsOf t = 2) (h0 : fs[0]? = some f0) (h1 : fs[1]? = some f1)
    (hs0 : P.underlying f0.type = some (.slice e)) (he : P.underlying e = some (.int .u8)) (hce : P.cellsOf e = 1) (hb : P.underlying f1.type = some .bool) (hv : Value.okWide P w r b0 t v) (hd : DataW.Trod enc P w base spare held t v d ps) :
    ∃ (A : Option Addr) (n c : Nat) (l : Nat → Int) (g : Bool), v = .agg #[.slice A n c, .bool g] ∧ Sees w w.heap.size A n (fun j => .int .u8 (l j)) ∧ (∀ j, 0 ≤ l j ∧ l j ≤ 255) ∧ n ≤ c ∧ c ≤ maxLen := by
  obtain ⟨cs, rfl, hsz, hf⟩ := op_struct ht hm hone hC hv hd
  obtain ⟨x0, y0, k0, e0, r0⟩ := hf 0 f0 h0
  obtain ⟨x1, y1, k1, e1, r1⟩ := hf 1 f1 h1
  obtain ⟨A, n, c, rfl⟩ : ∃ A n c, x0 = .slice A n c := by
    rcases open_ints hs0 he hce r0 with ⟨hcs, _⟩ | ⟨a, l, cc, zs, hcs, _⟩
    · simp at hcs; exact ⟨_, _, _, hcs⟩
    · simp at hcs; exact ⟨_, _, _, hcs⟩
  obtain ⟨l, g1, g2, g3, g4⟩ := op_ints_cells hs0 he hce (by decide) r0
  obtain ⟨g, hg, _⟩ := DataW.trod_bool hb r1
  simp only [List.cons.injEq, and_true] at hg
  subst hg
  refine ⟨A, n, c, l, g, ?_, g1, fun j => bounds_u8 (g2 j), g3, g4⟩
  congr 1
  apply Array.ext
  · rw [hsz]; rfl
  · intro i hi hi2
    have hi : i < 2 := by omega
    have : i = 0 ∨ i = 1 := by omega
    rcases this with rfl | rfl
    · exact Option.some.inj ((Array.getElem?_eq_getElem _).symm.trans e0)
    · exact Option.some.inj ((Array.getElem?_eq_getElem _).symm.trans e1)
end
end Go.Proofs.Ytngbaiijdgmpoaa

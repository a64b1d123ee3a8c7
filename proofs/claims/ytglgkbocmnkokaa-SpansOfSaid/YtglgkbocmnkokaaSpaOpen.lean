/-
  A list of spans, opened.
-/
import Derived.Test.YtglgkbocmnkokaaRows
import Derived.Test.YtglgkbocmnkokaaOpen3
import Derived.Test.YtglgkbocmnkokaaSpaA
namespace Go.Proofs.Ytglgkbocmnkokaa
open Go.RowKit Go.ChangeShapes Go.WideShapes Go.ChangeAt Go.Joins Go.Deep

theorem op_Spans {H : Type} {enc : TypeId × Value → H} {w : World} {r : Reach} {b0 base : Nat} {spare : Nat → Bool} {held : Bool} {v : Value} {d : DataW H} {ps : List MemPlace}
    (hv : Value.okWide Try.prog w r b0 22 v) (hd : DataW.Trod enc Try.prog w base spare held 22 v d ps) :
    ∃ A n c L, v = .slice A n c ∧ (SeesP w w.heap.size A L ∧ n = L.length) ∧ FitsS L ∧ n ≤ c ∧ c ≤ maxLen := by
  obtain ⟨A, n, c, F, rfl, hs, h1, h2, hf⟩ := op_rows Try.underlying22 Try.underlying28 (m := 2) rfl (by kernel_rfl) (by kernel_rfl) hv hd
  have key : ∀ i, i < n → ∃ s : Int × Int, F (i * 2) = .int .i64 s.1 ∧ F (i * 2 + 1) = .int .i64 s.2 ∧ Fits s.1 ∧ Fits s.2 := fun i hi => by
    obtain ⟨_, _, g0⟩ := hf i hi 0 _ rfl
    obtain ⟨_, _, g1⟩ := hf i hi 1 _ rfl
    obtain ⟨x, hx, fx⟩ := cell_i64 Try.underlying3 g0
    obtain ⟨y, hy, fy⟩ := cell_i64 Try.underlying3 g1
    exact ⟨(x, y), hx, hy, fx, fy⟩
  obtain ⟨l, hl⟩ : ∃ l : Nat → Int × Int, ∀ i, i < n → F (i * 2) = .int .i64 (l i).1 ∧ F (i * 2 + 1) = .int .i64 (l i).2 ∧ Fits (l i).1 ∧ Fits (l i).2 := by
    refine ⟨fun i => if h : i < n then (key i h).choose else (0, 0), fun i hi => ?_⟩
    simp only [dif_pos hi]
    exact (key i hi).choose_spec
  have hlen : ((List.range n).map l).length = n := by simp
  have hsg : ∀ k, k < n → sg ((List.range n).map l) k = l k := fun k hk => by rw [sg_get _ (by rw [hlen]; exact hk)]; simp
  refine ⟨A, n, c, (List.range n).map l, rfl, ⟨?_, hlen.symm⟩, fun s hs => ?_, h1, h2⟩
  · have : SeesP w w.heap.size A ((List.range n).map l) ↔ Sees w w.heap.size A (((List.range n).map l).length * 2) (spf ((List.range n).map l)) := Iff.rfl
    rw [this, hlen]
    intro hn
    obtain ⟨b, o, e1, e2, e3⟩ := hs hn
    refine ⟨b, o, e1, e2, fun j hj => ?_⟩
    rw [e3 j hj]
    have hd := Nat.div_add_mod j 2
    have hm := Nat.mod_lt j (show 0 < 2 by decide)
    have hk : j / 2 < n := by omega
    unfold spf
    rw [hsg _ hk]
    by_cases c0 : j % 2 = 0
    · rw [if_pos c0, ← (hl _ hk).1, show j / 2 * 2 = j from by omega]
    · rw [if_neg c0, ← (hl _ hk).2.1, show j / 2 * 2 + 1 = j from by omega]
  · obtain ⟨k, hk, rfl⟩ := List.mem_map.1 hs
    exact (hl k (List.mem_range.1 hk)).2.2
end Go.Proofs.Ytglgkbocmnkokaa

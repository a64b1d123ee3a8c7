/-
  Contracts of package ropes, sixteenth: List.
-/
import Derived.Test.YtafgdknfhchnpaaRopO
namespace Go.Proofs.Ytafgdknfhchnpaa
open Go.RowKit
set_option linter.unusedVariables false
set_option linter.unusedSimpArgs false

/-- The world in which List calls its closure. -/
def listW (w : World) (n : Nat) : World := ((w.alloc (.cells (madeCells #[.int .i64 0] n) 2)).alloc (.cells #[.slice (some ⟨w.heap.size, 0, none⟩) 0 n] 22)).alloc (.cells #[.func (.func 54) #[] #[.pointer (some ⟨w.heap.size + 1 + 1, 0, none⟩), .pointer (some ⟨w.heap.size + 1, 0, none⟩)]] 85)
theorem listW_all (w : World) (n : Nat) : Clo (listW w n) (w.heap.size + 1 + 1) (w.heap.size + 1) w.heap.size n [] ∧ Below w.heap.size w (listW w n) := by
  have a1 : w.heap.size + 1 = (w.alloc (.cells (madeCells #[.int .i64 0] n) 2)).heap.size := by rw [World.size_alloc]
  have a2 : w.heap.size + 1 + 1 = ((w.alloc (.cells (madeCells #[.int .i64 0] n) 2)).alloc (.cells #[.slice (some ⟨w.heap.size, 0, none⟩) 0 n] 22)).heap.size := by rw [World.size_alloc, World.size_alloc]
  refine ⟨⟨?_, ?_, fun _ => .int .i64 0, World.rowIs.alloc (World.rowIs.alloc (World.rowIs_made w _ _ _) _) _, fun j hj => absurd hj (Nat.not_lt_zero _)⟩, ?_⟩
  · have := Var.mk ((w.alloc (.cells (madeCells #[.int .i64 0] n) 2)).alloc (.cells #[.slice (some ⟨w.heap.size, 0, none⟩) 0 n] 22)) 85 (.func (.func 54) #[] #[.pointer (some ⟨w.heap.size + 1 + 1, 0, none⟩), .pointer (some ⟨w.heap.size + 1, 0, none⟩)])
    rw [← a2] at this
    exact this
  · have := Var.mk (w.alloc (.cells (madeCells #[.int .i64 0] n) 2)) 22 (.slice (some ⟨w.heap.size, 0, none⟩) 0 n)
    rw [← a1] at this
    exact World.rowIs.alloc this _
  · exact (((Below.refl _ w).alloc (Nat.le_refl _) _).alloc (by rw [← a1]; omega) _).alloc (by rw [← a2]; omega) _

set_option maxRecDepth 100000 in
set_option maxHeartbeats 1600000 in
theorem rlist_any (w : World) (a : Option Addr) (L : List Int) (h : Rp w a L) (ok : LOk L) :
    Calls Try.prog 39 #[.agg #[.pointer a]] w fun e w' => ∃ A, e = .returned (.slice A L.length L.length) ∧ Own w' w.heap.size 2 1 L.length L.length A (i64s (lf L)) ∧ Below w.heap.size w w' := by
  have B : Hid (Below w.heap.size w (w.alloc (.cells #[.pointer a] 27))) := (Below.refl _ w).alloc (Nat.le_refl _) _
  have hl := ok.len
  obtain ⟨t, h1, hb0, rfl⟩ := h
  cases t with
  | nil =>
    obtain rfl : a = none := h1
    clear hl ok
    go_enter Try.func39, Try.ntmps39
    go_wp2_with fail
    go_ret
    exact ⟨none, rfl, Own.nil _ _ _ _ _, B.out⟩
  | node l s r =>
    have C := Lib.hid (rlen_any _ a _ ⟨_, h1.below B.out, hb0, rfl⟩)
    have HT := Lib.hid (h1.below B.out)
    have lt0 : w.heap.size < (w.alloc (.cells #[.pointer a] 27)).heap.size := by rw [World.size_alloc]; omega
    obtain ⟨b, al, ar, rfl, _, _, _⟩ := h1
    obtain ⟨t, et⟩ : ∃ t, t = T.node l s r := ⟨_, rfl⟩
    rw [← et] at C HT hl ⊢
    obtain ⟨n, hn⟩ : ∃ n, n = t.l.length := ⟨_, rfl⟩
    rw [← hn] at C hl ⊢
    have HN := Lib.hid hn
    clear ok et hb0 hn
    go_enter Try.func39, Try.ntmps39
    go_wp2_with fail
    refine (C.out).mono ?_
    rintro e w1 ⟨rfl, hb⟩
    have B1 := Lib.hid (B.out.trans (hb.mono B.out.size))
    have V0 : Hid (Var w1 w.heap.size 27 (.pointer (some ⟨b, 0, none⟩))) := World.rowIs.of_block (Var.mk w 27 (.pointer (some ⟨b, 0, none⟩))) (hb.block _ lt0)
    have d0 := V0.out.c
    have lt1 : w.heap.size < w1.heap.size := Nat.lt_of_lt_of_le lt0 hb.size
    have HT1 := Lib.hid (HT.out.below hb)
    have hmk := fun W => make_room64 n (by omega) W
    obtain ⟨CL, hbl⟩ := listW_all w1 n
    have V1 := Lib.hid (V0.out.below hbl)
    have HT2 := Lib.hid (HT1.out.below hbl)
    have B2 := Lib.hid (B1.out.trans (hbl.mono B1.out.size))
    have d1 := V1.out.c
    unfold listW at d1
    obtain ⟨W, eW⟩ : ∃ W, W = listW w1 n := ⟨_, rfl⟩
    have EW := Lib.hid eW
    rw [← eW] at CL HT2 B2
    have KW := Lib.hid (walk_tr _ _ _ n (by omega) t W _ [] HT2.out CL (by simp; exact Nat.le_of_eq HN.out.symm))
    have x1 : Hid (∀ b, b = w1.heap.size + 1 ∨ b = w1.heap.size → w.heap.size ≤ b) := fun b h => by omega
    clear hb C eW hbl CL
    go_wp2_with fail
    change Calls Try.prog _ _ (listW w1 n) _
    rw [← EW.out]
    refine (KW.out).mono ?_
    rintro e w2 ⟨rfl, h1, h2⟩
    rw [List.nil_append] at h1
    have d2 := h1.o.c
    rw [← HN.out] at d2
    have H : Hid (Own w2 w.heap.size 2 1 n n (some ⟨w1.heap.size, 0, none⟩) (i64s (lf t.l)) ∧ Below w.heap.size w w2) := by
      obtain ⟨F, hr, hF⟩ := h1.r
      exact ⟨.inr ⟨Nat.le_refl _, w1.heap.size, F, rfl, by omega, by rw [Nat.mul_one]; exact hr, fun j hj => hF j (by rw [← HN.out]; omega)⟩, B2.out.trans (h2.below B2.out.size x1.out)⟩
    clear h1 h2 d1 d0
    go_wp2_with fail
    go_ret
    exact ⟨_, rfl, H.out⟩
end Go.Proofs.Ytafgdknfhchnpaa

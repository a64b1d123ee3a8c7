/-
  Contracts of package sizes: Unknown.
-/
import Derived.Test.YtngbaiijdgmpoaaSizD
import Derived.LoopTactic
namespace Go.Proofs.Ytngbaiijdgmpoaa
open Go.RowKit
set_option linter.unusedVariables false
set_option linter.unusedSimpArgs false

/-- How far the spans have been looked at. -/
structure UnkTo (S : Sp) (x : Int) (k : Nat) (f : Int) : Prop where
  le : x ≤ f
  me : ∀ j, x ≤ j → j < f → memS S j
  no : ∀ s ∈ S.take k, ¬ (s.1 ≤ f ∧ f < s.2)
  hi : f ≤ 1073741824 ∨ f = x
theorem UnkTo.skip {S : Sp} {x : Int} {k : Nat} {f : Int} (h : UnkTo S x k f) (hk : k < S.length) (hn : ¬ ((sg S k).1 ≤ f ∧ f < (sg S k).2)) : UnkTo S x (k + 1) f :=
  ⟨h.le, h.me, fun s hs => by
    rw [List.take_succ_eq_append_getElem hk, ← sg_get S hk] at hs
    rcases List.mem_append.1 hs with hs | hs
    · exact h.no s hs
    · rw [List.mem_singleton.1 hs]; exact hn, h.hi⟩
theorem UnkTo.take {S : Sp} (hN : NF S) {x : Int} {k : Nat} {f : Int} (h : UnkTo S x k f) (hk : k < S.length) (h1 : (sg S k).1 ≤ f) (h2 : f < (sg S k).2) : UnkTo S x (k + 1) (sg S k).2 := by
  obtain ⟨q1, q2, q3, q4, q5⟩ := take_end hN hk
  have e : S = S.take k ++ S.drop k := (List.take_append_drop k S).symm
  have hT : NFfrom (-1) (S.take k) := by have hN' := hN; unfold NF at hN'; rw [e] at hN'; exact (NFfrom.append.1 hN').1
  refine ⟨by have := h.le; omega, fun j j1 j2 => ?_, fun s hs => ?_, .inl q3⟩
  · by_cases c : j < f
    · exact h.me j j1 c
    · exact ⟨sg S k, sg_mem S hk, by omega, j2⟩
  · rw [List.take_succ_eq_append_getElem hk, ← sg_get S hk] at hs
    rcases List.mem_append.1 hs with hs | hs
    · have := (NFfrom.mem hT s hs).2.2.1
      omega
    · rw [List.mem_singleton.1 hs]; omega
/-- What Unknown returns. -/
def UnkPost (w : World) (R : Rws) (x y : Int) (e : Ending) (w' : World) : Prop :=
  ((x < 0 ∨ y < x ∨ (R.length : Int) < y) ∧ e = .returned (.tuple #[.int .i64 0, .int .i64 4]) ∨
    ¬ (x < 0 ∨ y < x ∨ (R.length : Int) < y) ∧ ∃ f : Nat, x ≤ f ∧ (∀ j : Nat, x ≤ j → j < f → kn R j = true) ∧ kn R f = false ∧ e = .returned (.tuple #[.int .i64 (if y ≤ f then 0 else f), .int .i64 (if y ≤ f then 11 else 0)])) ∧ Below w.heap.size w w'
set_option maxRecDepth 100000 in
set_option maxHeartbeats 1600000 in
theorem iunknown_any (w : World) (a A : Option Addr) (S : Sp) (R : Rws) (h : Ix w a A S R) (x y : Int) (fx : Fits x) (fy : Fits y) :
    Calls Try.prog 18 #[ixv a A S.length, .int .i64 x, .int .i64 y] w (UnkPost w R x y) := by
  have B := Lib.hid (ixw_b w a A S.length)
  have C := Lib.hid (ilen_any _ a A S.length R (h.rp.below B.out))
  by_cases c0 : x < 0
  · have H : Hid (UnkPost w R x y (.returned (.tuple #[.int .i64 0, .int .i64 4])) (ixw w a A S.length)) := ⟨.inl ⟨.inl c0, rfl⟩, B.out⟩
    clear h
    go_enter Try.func18, Try.ntmps18
    go_wp2_with fail
    go_ret2
    exact H.out
  by_cases c1 : y < x
  · have H : Hid (UnkPost w R x y (.returned (.tuple #[.int .i64 0, .int .i64 4])) (ixw w a A S.length)) := ⟨.inl ⟨.inr (.inl c1), rfl⟩, B.out⟩
    clear h
    go_enter Try.func18, Try.ntmps18
    go_wp2_with fail
    go_ret2
    exact H.out
  by_cases c2 : (R.length : Int) < y
  · have H : Hid (∀ W, Below w.heap.size w W → UnkPost w R x y (.returned (.tuple #[.int .i64 0, .int .i64 4])) W) := fun W hW => ⟨.inl ⟨.inr (.inr c2), rfl⟩, hW⟩
    clear h
    go_enter Try.func18, Try.ntmps18
    go_wp2_with fail
    refine (C.out).mono ?_
    rintro e w' ⟨rfl, hb⟩
    have D := Lib.hid (B.out.trans (hb.mono B.out.size))
    clear hb
    go_wp2_with fail
    go_ret2
    exact H.out _ D.out
  have hle := h.le
  have HS := Lib.hid h.sp
  have NL := Lib.hid h.ks.nf
  have hsl := h.slen
  have F : Hid (∀ f W, UnkTo S x S.length f → Below w.heap.size w W → UnkPost w R x y (.returned (.tuple #[.int .i64 (if y ≤ f then 0 else f), .int .i64 (if y ≤ f then 11 else 0)])) W) := fun f W hf hW => by
    have h1 := hf.le
    obtain ⟨n, rfl⟩ : ∃ n : Nat, f = (n : Int) := ⟨f.toNat, by omega⟩
    refine ⟨.inr ⟨by omega, n, h1, fun j j1 j2 => (h.ks.me j).1 (hf.me j j1 (by omega)), ?_, rfl⟩, hW⟩
    cases e : kn R n with
    | false => rfl
    | true =>
      obtain ⟨s, hs, s1, s2⟩ := (h.ks.me n).2 e
      exact absurd ⟨s1, s2⟩ (hf.no s (by rw [List.take_length]; exact hs))
  have d1 : (ixw w a A S.length).cell? ⟨w.heap.size, 1, none⟩ = some (.slice A S.length S.length) := World.rowIs.cell (XVar.mk w a A S.length) (i := 1) (by omega)
  have l1 : w.heap.size < (ixw w a A S.length).heap.size := by rw [World.size_alloc]; omega
  have D1 := Lib.hid d1
  have L1 := Lib.hid l1
  obtain ⟨n, en⟩ : ∃ n, n = S.length := ⟨_, rfl⟩
  have EN := Lib.hid en
  rw [← en] at B C D1 L1 hsl ⊢
  clear h d1 l1 en
  go_enter Try.func18, Try.ntmps18
  go_wp2_with fail
  refine (C.out).mono ?_
  rintro e w1 ⟨rfl, hb⟩
  have D := Lib.hid (B.out.trans (hb.mono B.out.size))
  have d1 := (hb.cell (p := ⟨w.heap.size, 1, none⟩) L1.out).trans D1.out
  clear hb
  go_wp2_with fail
  clear d1
  have U0 : Hid (UnkTo S x 0 x) := ⟨Int.le_refl _, fun j h1 h2 => by omega, fun s hs => (nomatch hs), .inr rfl⟩
  go_loopw [1, 26] (fun f i wr => ∃ (k : Nat) (g : Int), k ≤ n ∧ f = .int .i64 g ∧ i = .int .i64 k ∧ Hid (UnkTo S x k g) ∧ Hid (Below w.heap.size w wr)) (fun _ i _ => n - (intOf i).toNat)
  case atStart => exact ⟨0, x, Nat.zero_le _, rfl, rfl, U0, D⟩
  case round =>
    obtain ⟨k, g, hk, rfl, rfl, hU, hD⟩ := hrel
    clear U0
    by_cases hlt : k < n
    · have hkS : k < S.length := by rw [← EN.out]; exact hlt
      obtain ⟨b', o', hA', hb0, e0, e1⟩ := SeesP.cells (HS.out.below hD.out) (k := k) hkS
      subst hA'
      have D2 : Hid (Below w.heap.size w (wr.alloc (.cells #[.int .i64 (sg S k).1, .int .i64 (sg S k).2] 75))) := hD.out.alloc hD.out.size _
      have TK : Hid ((sg S k).1 ≤ g → g < (sg S k).2 → UnkTo S x (k + 1) (sg S k).2) := hU.out.take NL.out hkS
      have SK : Hid (¬ ((sg S k).1 ≤ g ∧ g < (sg S k).2) → UnkTo S x (k + 1) g) := hU.out.skip hkS
      obtain ⟨p, hp⟩ : ∃ x, x = (sg S k).1 := ⟨_, rfl⟩
      obtain ⟨z, hz⟩ : ∃ x, x = (sg S k).2 := ⟨_, rfl⟩
      rw [← hp] at e0 TK SK D2
      rw [← hz] at e1 TK SK D2
      clear hp hz hkS hU
      by_cases g1 : p ≤ g
      · by_cases g2 : g < z
        · have U := Lib.hid (TK.out g1 g2)
          clear TK SK
          go_wp2_with fail
          go_roundw
          case rel => exact ⟨k + 1, z, by omega, rfl, by go_num, U, D2⟩
          case measure => simp [intOf]; omega
        · have U := Lib.hid (SK.out (fun h => g2 h.2))
          clear TK SK
          go_wp2_with fail
          go_roundw
          case rel => exact ⟨k + 1, g, by omega, rfl, by go_num, U, D2⟩
          case measure => simp [intOf]; omega
      · have U := Lib.hid (SK.out (fun h => g1 h.1))
        clear TK SK
        go_wp2_with fail
        go_roundw
        case rel => exact ⟨k + 1, g, by omega, rfl, by go_num, U, D2⟩
        case measure => simp [intOf]; omega
    · obtain rfl : k = n := by omega
      have H := Lib.hid (F.out g wr (by rw [← EN.out]; exact hU.out) hD.out)
      clear F
      by_cases g1 : y ≤ g
      · rw [if_pos g1, if_pos g1] at H
        go_wp2_with fail
        go_ret2
        exact H.out
      · rw [if_neg g1, if_neg g1] at H
        go_wp2_with fail
        go_ret2
        exact H.out
end Go.Proofs.Ytngbaiijdgmpoaa

/-
  The walk of the law GapsBack of layer 3.
-/
import Derived.Test.YtiipogenknnilaaGapLives2
import Derived.Test.YtiipogenknnilaaGapI7
import Derived.OpenShut
namespace Go.Proofs.Ytiipogenknnilaa
open Go.RowKit
set_option linter.unusedVariables false

namespace GapI
/-- A change: the buffer is the list, its gap anywhere. -/
def AnyPost (w : World) (B p n' : Nat) (l' : Nat → Int) (e : Ending) (w' : World) : Prop :=
  e = .returned (.int .i64 0) ∧ (∃ a, Buf w' B p n' a l') ∧ Below B w w'
theorem ins_none (l f : Nat → Int) (i : Nat) : ins l i 0 f = l := by
  funext j; unfold ins; by_cases c : j < i
  · rw [if_pos c]
  · rw [if_neg c, if_neg (by omega)]; rfl
theorem rem_none (l : Nat → Int) (i : Nat) : rem l i 0 = l := by funext j; unfold rem; split <;> rfl
theorem rem_ins (l f : Nat → Int) (i k : Nat) : rem (ins l i k f) i k = l := by
  funext j; unfold rem ins
  by_cases c : j < i
  · rw [if_pos c, if_pos c]
  · rw [if_neg c, if_neg (by omega), if_neg (by omega)]; congr 1; omega
/-- The list with k elements moved. -/
def mv (l : Nat → Int) (i k t : Nat) : Nat → Int := ins (rem l i k) t k fun j => l (i + j)
theorem mv_mv (l : Nat → Int) (i k t : Nat) : mv (mv l i k t) t k i = l := by
  have e : rem (mv l i k t) t k = rem l i k := rem_ins _ _ _ _
  funext j
  show ins (rem (mv l i k t) t k) i k _ j = _
  rw [e]; unfold ins
  by_cases c : j < i
  · rw [if_pos c]; unfold rem; rw [if_pos c]
  · rw [if_neg c]
    by_cases d : j < i + k
    · rw [if_pos d]; unfold mv ins; show (if t + (j - i) < t then _ else if t + (j - i) < t + k then l (i + (t + (j - i) - t)) else _) = _; rw [if_neg (by omega), if_pos (by omega)]; congr 1; omega
    · rw [if_neg d]; unfold rem; rw [if_neg (by omega)]; congr 1; omega
theorem insert_any (w : World) (B p n at_ : Nat) (l : Nat → Int) (h : Buf w B p n at_ l) (hB : B ≤ w.heap.size) (i k : Nat) (x : Int) (hx : x = (i : Int)) (hi : i ≤ n) (hnk : n + k ≤ 4096) (A' : Option Addr) (c' : Nat) (f : Nat → Int)
    (hs : Sees w B A' k fun j => .int .i64 (f j)) :
    Calls Try.prog 9 #[.pointer (some ⟨p, 0, none⟩), .int .i64 x, .slice A' k c'] w (AnyPost w B p (n + k) (ins l i k f)) := by
  by_cases k0 : k = 0
  · subst k0
    refine (insert_none w B p n at_ l h i x hx hi A' c').mono ?_
    rintro e w' ⟨rfl, hd⟩
    exact ⟨rfl, ⟨at_, by rw [ins_none]; exact h.drawn hd⟩, hd.below _⟩
  · refine (insert_ok w B p n at_ l h i k x hx hi (by omega) hnk A' c' f hs).mono ?_
    rintro e w' ⟨rfl, hb, hd⟩
    exact ⟨rfl, ⟨_, hb⟩, hd⟩
theorem remove_any (w : World) (B p n at_ : Nat) (l : Nat → Int) (h : Buf w B p n at_ l) (hB : B ≤ w.heap.size) (i k : Nat) (x y : Int) (hx : x = (i : Int)) (hy : y = (k : Int)) (hi : i + k ≤ n) :
    Calls Try.prog 10 #[.pointer (some ⟨p, 0, none⟩), .int .i64 x, .int .i64 y] w (AnyPost w B p (n - k) (rem l i k)) := by
  by_cases k0 : k = 0
  · subst k0 hy
    refine (remove_none w B p n at_ l h i x hx (by omega)).mono ?_
    rintro e w' ⟨rfl, hd⟩
    exact ⟨rfl, ⟨at_, by rw [rem_none]; exact h.drawn hd⟩, hd.below _⟩
  · refine (remove_ok w B p n at_ l h i k x y hx hy (by omega) hi).mono ?_
    rintro e w' ⟨rfl, hb, hd⟩
    exact ⟨rfl, ⟨_, hb⟩, hd⟩
theorem move_any (w : World) (B p n at_ : Nat) (l : Nat → Int) (h : Buf w B p n at_ l) (hB : B ≤ w.heap.size) (i k t : Nat) (x y z : Int) (hx : x = (i : Int)) (hy : y = (k : Int)) (hz : z = (t : Int)) (hi : i + k ≤ n) (ht : t + k ≤ n) :
    Calls Try.prog 12 #[.pointer (some ⟨p, 0, none⟩), .int .i64 x, .int .i64 y, .int .i64 z] w (AnyPost w B p n (mv l i k t)) := by
  by_cases k0 : k = 0
  · subst k0 hy
    refine (move_none w B p n at_ l h i t x z hx hz (by omega) (by omega)).mono ?_
    rintro e w' ⟨rfl, hd⟩
    exact ⟨rfl, ⟨at_, by unfold mv; rw [ins_none, rem_none]; exact h.drawn hd⟩, hd.below _⟩
  · refine (move_ok w B p n at_ l h i k t x y z hx hy hz (by omega) hi ht).mono ?_
    rintro e w' ⟨rfl, hb, hd⟩
    exact ⟨rfl, ⟨_, hb⟩, hd⟩
end GapI

theorem agg3_of {k : IntKind} {cs : Array Value} (h : cs.size = 3) (f : ∀ i, i < 3 → ∃ x, cs[i]? = some (.int k x) ∧ (Lit.int k x).wf = true) : ∃ x y z, cs = #[.int k x, .int k y, .int k z] ∧ (Lit.int k x).wf = true ∧ (Lit.int k y).wf = true ∧ (Lit.int k z).wf = true := by
  obtain ⟨x, hx, wx⟩ := f 0 (by omega)
  obtain ⟨y, hy, wy⟩ := f 1 (by omega)
  obtain ⟨z, hz, wz⟩ := f 2 (by omega)
  refine ⟨x, y, z, ?_, wx, wy, wz⟩
  apply Array.ext_getElem?
  intro i
  match i with
  | 0 => exact hx
  | 1 => exact hy
  | 2 => exact hz
  | i + 3 => rw [Array.getElem?_eq_none (by omega), Array.getElem?_eq_none (by simp)]
theorem u8_wf {x : Int} (h : (Lit.int .u8 x).wf = true) : ∃ a : Nat, x = (a : Int) ∧ a ≤ 255 := by
  have h2 := bounds_u8 h
  have := h2
  exact ⟨x.toNat, by omega, by omega⟩
/-- A remainder below n + 1. -/
theorem tmod_small (a n : Nat) : ∃ i : Nat, i ≤ n ∧ Int.tmod (a : Int) ((n : Int) + 1) = (i : Int) :=
  ⟨a % (n + 1), Nat.le_of_lt_succ (Nat.mod_lt _ (by omega)), by rw [Int.tmod_eq_emod_of_nonneg (by omega)]; norm_cast⟩

set_option maxRecDepth 100000 in
set_option maxHeartbeats 6400000 in
theorem law_back (A : Option Addr) (n c : Nat) (l : Nat → Int) (A2 : Option Addr) (n2 c2 : Nat) (l2 : Nat → Int) (z : Array Value) (w : World)
    (hs : Sees w w.heap.size A n (i64s l)) (hf : ∀ k, Fits (l k)) (hnc : n ≤ c) (hc : c ≤ maxLen) (hs2 : Sees w w.heap.size A2 n2 (i64s l2)) (hf2 : ∀ k, Fits (l2 k)) (hnc2 : n2 ≤ c2) (hc2 : c2 ≤ maxLen)
    (hz : z.size = 3) (hzz : ∀ i, i < 3 → ∃ x, z[i]? = some (.int .u8 x) ∧ (Lit.int .u8 x).wf = true) :
    Calls Try.prog 3 #[.slice A n c, .slice A2 n2 c2, .agg z] w fun e w' => e = .returned (.bool true) ∧ Below w.heap.size w w' := by
  obtain ⟨x0, x1, x2, rfl, y0, y1, y2⟩ := agg3_of hz hzz
  obtain ⟨z0, rfl, b0⟩ := u8_wf y0
  obtain ⟨z1, rfl, b1⟩ := u8_wf y1
  obtain ⟨z2, rfl, b2⟩ := u8_wf y2
  clear hz hzz y0 y1 y2 hf hf2 hnc hc hnc2 hc2
  have HS := Lib.hid hs
  have HS2 := Lib.hid hs2
  clear hs hs2
  by_cases hbig : 40 < n
  · go_enter Try.func3, Try.ntmps3
    go_wp2_with fail
    refine (lives3_yes _).mono ?_
    rintro e w2 ⟨rfl, hb2⟩
    have HB := Lib.hid hb2
    clear hb2
    go_wp2_with fail
    go_ret
    exact ⟨rfl, ((Below.refl _ w).alloc (Nat.le_refl _) _).trans (HB.out.mono (by simp))⟩
  by_cases hbig2 : 20 < n2
  · go_enter Try.func3, Try.ntmps3
    go_wp2_with fail
    refine (lives3_yes _).mono ?_
    rintro e w2 ⟨rfl, hb2⟩
    have HB := Lib.hid hb2
    clear hb2
    go_wp2_with fail
    go_ret
    exact ⟨rfl, ((Below.refl _ w).alloc (Nat.le_refl _) _).trans (HB.out.mono (by simp))⟩
  obtain ⟨i, hi, ei⟩ := tmod_small z0 n
  have hn : n ≤ 40 := by omega
  have hn2 : n2 ≤ 20 := by omega
  obtain ⟨k, hk, ek⟩ := tmod_small z1 (n - i)
  rw [show ((n - i : Nat) : Int) = (n : Int) - (i : Int) from by omega] at ek
  obtain ⟨t, ht, et⟩ := tmod_small z2 (n - k)
  rw [show ((n - k : Nat) : Int) = (n : Int) - (k : Int) from by omega] at et
  go_enter Try.func3, Try.ntmps3
  go_wp2_with fail
  have D0 : Hid (Below w.heap.size w (w.alloc (.cells #[.int .u8 z0, .int .u8 z1, .int .u8 z2] 23))) := (Below.refl _ w).alloc (Nat.le_refl _) _
  have hB0 : w.heap.size + 1 ≤ (w.alloc (.cells #[.int .u8 z0, .int .u8 z1, .int .u8 z2] 23)).heap.size := by simp
  refine (GapI.new_ok _ n c A l ((HS.out.below D0.out).more (by simp)) (by omega)).mono ?_
  rintro e w1 ⟨p, rfl, hB, hb⟩
  have B1 := Lib.hid (hB.less hB0)
  have D1 := Lib.hid (hb.mono hB0)
  have cell : ∀ W, Below (w.heap.size + 1) (w.alloc (.cells #[.int .u8 z0, .int .u8 z1, .int .u8 z2] 23)) W → W.cell? ⟨w.heap.size, 0, none⟩ = some (.int .u8 z0) ∧ W.cell? ⟨w.heap.size, 1, none⟩ = some (.int .u8 z1) ∧ W.cell? ⟨w.heap.size, 2, none⟩ = some (.int .u8 z2) := by
    intro W hW
    refine ⟨(hW.cell (p := ⟨_, 0, none⟩) (Nat.lt_succ_self _)).trans ?_, (hW.cell (p := ⟨_, 1, none⟩) (Nat.lt_succ_self _)).trans ?_, (hW.cell (p := ⟨_, 2, none⟩) (Nat.lt_succ_self _)).trans ?_⟩ <;> simp
  have CELL := Lib.hid cell
  have hfin : ∀ W, Below (w.heap.size + 1) (w.alloc (.cells #[.int .u8 z0, .int .u8 z1, .int .u8 z2] 23)) W → Below w.heap.size w W := fun W hW => D0.out.trans (hW.mono (by omega))
  have FIN := Lib.hid hfin
  have HS2' := Lib.hid ((HS2.out.below D0.out).more (B' := w.heap.size + 1) (by omega))
  clear hB hb cell hfin hB0
  obtain ⟨c0, _, _⟩ := CELL.out w1 D1.out
  go_wp2_with fail
  refine (GapI.insert_any w1 _ p n n l B1.out (by have := D1.out.size; simp at this; omega) i n2 _ rfl hi (by omega) A2 c2 l2 (HS2'.out.below D1.out)).mono ?_
  rintro e w2 ⟨rfl, ⟨a2, hB⟩, hb⟩
  have B2 := Lib.hid hB
  have D2 := Lib.hid (D1.out.trans hb)
  clear hB hb c0 B1
  go_wp2_with fail
  refine (GapI.remove_any w2 _ p _ _ _ B2.out (by have := D2.out.size; simp at this; omega) i n2 _ _ rfl rfl (by omega)).mono ?_
  rintro e w3 ⟨rfl, ⟨a3, hB⟩, hb⟩
  rw [GapI.rem_ins, Nat.add_sub_cancel] at hB
  have B3 := Lib.hid hB
  have D3 := Lib.hid (D2.out.trans hb)
  clear hB hb B2 D1 D2
  go_wp2_with fail
  refine (GapI.len_any w3 _ p _ _ _ B3.out).mono ?_
  rintro e w4 ⟨rfl, hd⟩
  have B4 := Lib.hid (B3.out.drawn hd)
  have D4 := Lib.hid (D3.out.trans (hd.below _))
  clear hd B3 D3
  obtain ⟨_, c1, c2⟩ := CELL.out w4 D4.out
  go_wp2_with fail
  refine (GapI.move_any w4 _ p _ _ _ B4.out (by have := D4.out.size; simp at this; omega) i k t _ _ _ rfl rfl rfl (by omega) (by omega)).mono ?_
  rintro e w5 ⟨rfl, ⟨a5, hB⟩, hb⟩
  have B5 := Lib.hid hB
  have D5 := Lib.hid (D4.out.trans hb)
  clear hB hb B4 D4 c1 c2
  go_wp2_with fail
  refine (GapI.move_any w5 _ p _ _ _ B5.out (by have := D5.out.size; simp at this; omega) t k i _ _ _ rfl rfl rfl (by omega) (by omega)).mono ?_
  rintro e w6 ⟨rfl, ⟨a6, hB⟩, hb⟩
  rw [GapI.mv_mv] at hB
  have B6 := Lib.hid hB
  have D6 := Lib.hid (D5.out.trans hb)
  clear hB hb B5 D5
  go_wp2_with fail
  refine (GapI.list_any w6 _ p _ _ _ B6.out).mono ?_
  rintro e w7 ⟨A7, rfl, hr, hb, _⟩
  have R7 := Lib.hid hr
  have D7 := Lib.hid (D6.out.trans (hb.mono (by have := D6.out.size; simp at this; omega)))
  have HS7 := Lib.hid ((HS.out.below D0.out).below (D7.out.mono (Nat.le_succ _)))
  clear hr hb B6 D6 HS2' HS2 CELL
  go_wp2_with fail
  go_loopw [17] (fun i wr => ∃ k : Nat, k ≤ n ∧ i = .int .i64 k ∧ Drawn w7 wr) (fun i _ => n - (intOf i).toNat)
  case atStart => exact ⟨0, Nat.zero_le _, rfl, Drawn.refl _⟩
  case round =>
    obtain ⟨j, hj, rfl, hd⟩ := hrel
    by_cases hlt : j < n
    · obtain ⟨b, o, rfl, _, hc1⟩ := (HS7.out.drawn hd).at_ hlt
      obtain ⟨g7, rfl, _, hrow⟩ := R7.out (by omega)
      have hc2 : wr.cell? ⟨g7, j, none⟩ = some (.int .i64 (l j)) := (hd.cell _).trans (hrow.cell hlt)
      rw [i64s_at] at hc1
      clear hrow
      go_wp2_with fail
      go_quiet (fail)
      go_wp2_with fail
      go_roundw
      case rel => exact ⟨j + 1, by omega, by go_num, hd.drewN _⟩
      case measure => simp [intOf]; omega
    · obtain rfl : j = n := by omega
      have D8 := Lib.hid (FIN.out _ (D7.out.trans (hd.below _)))
      clear hd
      go_wp2_with fail
      refine (lives3_yes _).mono ?_
      rintro e w9 ⟨rfl, hb⟩
      have D9 := Lib.hid (D8.out.trans (hb.mono D8.out.size))
      clear hb
      go_wp2_with fail
      go_ret
      exact ⟨rfl, D9.out⟩
end Go.Proofs.Ytiipogenknnilaa

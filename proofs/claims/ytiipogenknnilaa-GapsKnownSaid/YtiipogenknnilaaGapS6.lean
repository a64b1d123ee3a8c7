/-
  Contracts of package gaps at elements of type string: Remove, Move, New.
-/
import Derived.Test.YtiipogenknnilaaRows
import Derived.Test.YtiipogenknnilaaMem2
import Derived.Test.YtiipogenknnilaaCp
import Derived.Test.YtiipogenknnilaaGapS
import Derived.Test.YtiipogenknnilaaGapS2
import Derived.Test.YtiipogenknnilaaGapS3
import Derived.Test.YtiipogenknnilaaGapS5
import Derived.LoopTactic
import Derived.Outline
import Derived.Deep.QuietTactic
import Derived.BigQuiet
import Derived.BigRegion
import Derived.Deep.RegionHeld3
namespace Go.Proofs.Ytiipogenknnilaa
namespace GapS
open Go.RowKit
set_option linter.unusedVariables false

/-- What Remove leaves, by the blocks. -/
def RemPost (w : World) (p g m n i k gap : Nat) (A : Option Addr) (l' : Nat → ByteArray) (e : Ending) (w' : World) : Prop :=
  e = .returned (.int .i64 0) ∧ (∃ F', BG w' p g m (n - k) i (gap + k) A F' l') ∧ Only2 w w' p g

set_option maxRecDepth 100000 in
set_option maxHeartbeats 1600000 in
theorem remove_raw (w : World) (p g m n at_ gap : Nat) (A : Option Addr) (F : Nat → Value) (l : Nat → ByteArray) (h : BG w p g m n at_ gap A F l) (i k : Nat) (hk : 0 < k) (hi : i + k ≤ n) :
    Calls Try.prog 21 #[.pointer (some ⟨p, 0, none⟩), .int .i64 i, .int .i64 k] w (RemPost w p g m n i k gap A (rem l i k)) := by
  have HB := Lib.hid h
  have hn := h.hn
  clear h
  have hne : ((k : Int) == 0) = false := by simp; omega
  go_enter Try.func21, Try.ntmps21
  go_wp2_with fail
  refine (check_ok w 0 p n at_ l HB.out.buf0 i k hi).mono ?_
  rintro e w1 ⟨rfl, hd⟩
  have HB1 := Lib.hid (HB.out.drawn hd)
  go_wp2_with fail
  refine (bring_any w1 p g m n at_ gap A F l HB1.out i (by omega)).mono ?_
  rintro e w3 ⟨rfl, ⟨F3, h3⟩, o3⟩
  have hm := h3.hm
  have hm2 := h3.hm2
  obtain ⟨rfl, hgp, hrow⟩ := h3.hA (by omega)
  obtain ⟨c0, c1, c2, fz⟩ := cells_of h3.hp
  obtain ⟨w4, hcl, hrow4, ho4⟩ := clear_row (P := Try.prog) w3.drew Try.underlying44 zeroE rfl rfl (show w3.drew.rowIs g 9 m F3 from hrow) (some ⟨g, i + gap, none⟩) (i + gap) k (m - (i + gap)) (fun _ => rfl) (by omega)
  have plt : p < w3.drew.heap.size := h3.hp.lt
  have hgp' : p ≠ g := fun e => hgp e.symm
  have q0 : w4.cell? ⟨p, 0, none⟩ = some (.slice (some ⟨g, 0, none⟩) m m) := (ho4.cell plt hgp' 0).trans c0
  have q1 : w4.cell? ⟨p, 1, none⟩ = some (.int .i64 i) := (ho4.cell plt hgp' 1).trans c1
  have q2 : w4.cell? ⟨p, 2, none⟩ = some (.int .i64 gap) := (ho4.cell plt hgp' 2).trans c2
  have qz : ∀ i, w4.frozen? ⟨p, i, none⟩ = false := fun i => (ho4.frozen plt hgp' i).trans (fz i)
  have hp4 : w4.rowIs p 52 3 (bufCells (some ⟨g, 0, none⟩) m i gap) := ho4.row (show w3.drew.rowIs p _ 3 _ from h3.hp) hgp'
  have fin : RemPost w p g m n i k gap (some ⟨g, 0, none⟩) (rem l i k) (.returned (.int .i64 0)) (w4.setCell ⟨p, 2, none⟩ (.int .i64 ((gap : Int) + (k : Int)))) := by
    refine ⟨rfl, ⟨_, ⟨?_, fun _ => ⟨rfl, hgp, hrow4.setOther (by show g ≠ p; exact hgp) _⟩, by omega, by omega, fun j hj => ?_, fun j h1 h2 => ?_, by omega, hm2, ?_⟩⟩, ?_⟩
    · refine (hp4.set 2 (.int .i64 ((gap : Int) + (k : Int)))).congr (fun j hj => ?_)
      match j, hj with
      | 0, _ => rfl
      | 1, _ => rfl
      | 2, _ => show Value.int .i64 ((gap : Int) + (k : Int)) = .int .i64 ((gap + k : Nat) : Int); rw [Int.natCast_add]
    · unfold spliced rem
      rw [if_neg (by omega), if_pos hj]; exact h3.lo j hj
    · unfold spliced rem
      rw [if_neg (by omega), if_neg (by omega), show j + (gap + k) = j + k + gap from by omega]
      exact h3.hi (j + k) (by omega) (by omega)
    · exact spliced_one h3.one fun _ => rfl
    · exact (((Only2.of_drawn hd).trans o3 (.inl rfl)).trans (Only2.of_only ho4 (.inr rfl)).drewL (.inl rfl)).setCell p 2 (.inl rfl) _
  have HH := Lib.hid fin
  have ne1 : ¬ m = i + gap := by omega
  have e1 : i + gap + k - (i + gap) = k := by omega
  have j1 : i + gap + k ≤ m := by omega
  have E1 := e1
  clear fin hrow hrow4 ho4 hp4 o3 hm h3
  go_wp2_with fail
  go_region
  go_wp2_with fail
  go_ret
  exact HH.out

theorem remove_ok (w : World) (B p n at_ : Nat) (l : Nat → ByteArray) (h : Buf w B p n at_ l) (i k : Nat) (x y : Int) (hx : x = (i : Int)) (hy : y = (k : Int)) (hk : 0 < k) (hi : i + k ≤ n) :
    Calls Try.prog 21 #[.pointer (some ⟨p, 0, none⟩), .int .i64 x, .int .i64 y] w (ChgPost w B p (n - k) i (rem l i k)) := by
  subst hx hy
  obtain ⟨g, m, gap, A, F, h1, h2, h3, h4⟩ := h.open_
  have plt := h1.hp.lt
  refine (remove_raw w p g m n at_ gap A F l h1 i k hk hi).mono ?_
  rintro e w' ⟨rfl, ⟨F', q1⟩, q3⟩
  exact ⟨rfl, ⟨g, m, gap + k, A, F', q1, h2, fun _ => h3⟩, q3.below h2 h3 (by omega)⟩
set_option maxHeartbeats 800000 in
theorem remove_none (w : World) (B p n at_ : Nat) (l : Nat → ByteArray) (h : Buf w B p n at_ l) (i : Nat) (x : Int) (hx : x = (i : Int)) (hi : i ≤ n) :
    Calls Try.prog 21 #[.pointer (some ⟨p, 0, none⟩), .int .i64 x, .int .i64 0] w fun e w' => e = .returned (.int .i64 0) ∧ Drawn w w' := by
  subst hx
  have HB := Lib.hid h
  have hn := h.le.2.2
  clear h
  go_enter Try.func21, Try.ntmps21
  go_wp2_with fail
  refine (check_ok w B p n at_ l HB.out i 0 (by omega)).mono ?_
  rintro e w1 ⟨rfl, hd⟩
  go_wp2_with fail
  go_ret
  exact ⟨rfl, hd⟩
set_option maxHeartbeats 800000 in
theorem remove_bad (w : World) (B p n at_ : Nat) (l : Nat → ByteArray) (h : Buf w B p n at_ l) (x y : Int) (fx : Fits x) (fy : Fits y) (hx : x < 0 ∨ y < 0 ∨ (n : Int) < x ∨ (n : Int) - x < y) :
    Calls Try.prog 21 #[.pointer (some ⟨p, 0, none⟩), .int .i64 x, .int .i64 y] w fun e w' => e = .returned (.int .i64 4) ∧ Drawn w w' := by
  have HB := Lib.hid h
  have hn := h.le.2.2
  have HX := Lib.hid hx
  clear h hx
  go_enter Try.func21, Try.ntmps21
  go_wp2_with fail
  refine (check_bad w B p n at_ l HB.out x y fx fy HX.out).mono ?_
  rintro e w1 ⟨rfl, hd⟩
  go_wp2_with fail
  go_ret
  exact ⟨rfl, hd⟩

/-! ### Move -/
/-- The elements that are taken so far. -/
def takenTo (l : Nat → ByteArray) (i r : Nat) : Nat → Value := fun j => if j < r then .string (l (i + j)) else .string ByteArray.empty

set_option maxRecDepth 100000 in
set_option maxHeartbeats 1600000 in
theorem move_raw (w : World) (p g m n at_ gap : Nat) (A : Option Addr) (F : Nat → Value) (l : Nat → ByteArray) (h : BG w p g m n at_ gap A F l) (hgl : g < w.heap.size) (i k t : Nat) (hk : 0 < k) (hi : i + k ≤ n) (ht : t + k ≤ n) :
    Calls Try.prog 22 #[.pointer (some ⟨p, 0, none⟩), .int .i64 i, .int .i64 k, .int .i64 t] w (InsPost w p g (n - k) t k (ins (rem l i k) t k fun j => l (i + j))) := by
  have HB := Lib.hid h
  have hn := h.hn
  clear h
  have hne : ((k : Int) == 0) = false := by simp; omega
  have htk : ¬ (n : Int) - (k : Int) < (t : Int) := by omega
  go_enter Try.func22, Try.ntmps22
  go_wp2_with fail
  refine (check_ok w 0 p n at_ l HB.out.buf0 i k hi).mono ?_
  rintro e w1 ⟨rfl, hd1⟩
  go_wp2_with fail
  refine (len_any w1 0 p n at_ l (HB.out.drawn hd1).buf0).mono ?_
  rintro e w2 ⟨rfl, hd2⟩
  have hd := hd1.trans hd2
  have HB2 := Lib.hid (HB.out.drawn hd)
  have hmk := make_e k k rfl (by omega)
  clear hd1 hd2
  go_wp2_with fail
  clear hmk
  obtain ⟨s, hs⟩ : ∃ s, s = w2.heap.size := ⟨_, rfl⟩
  go_loopw [35] (fun c wr => ∃ r : Nat, r ≤ k ∧ c = .int .i64 r ∧ wr.rowIs w2.heap.size 9 k (takenTo l i r) ∧ Below w2.heap.size w2 wr) (fun c _ => k - (intOf c).toNat)
  case atStart =>
    refine ⟨0, Nat.zero_le _, rfl, (World.rowIs_made w2 _ k _).congr (fun j hj => ?_), (Below.refl _ _).alloc (Nat.le_refl _) _⟩
    unfold takenTo
    rw [if_neg (by omega)]
  case round =>
    obtain ⟨r, hr, rfl, hrow, hb⟩ := hrel
    by_cases hlt : r < k
    · have hbw : BG wr p g m n at_ gap A F l := HB2.out.keep (hb.block p HB2.out.hp.lt) (fun hm => hb.block g (HB2.out.hA hm).2.2.lt)
      have b3 := hbw.hm2
      have b4 := hbw.hm
      obtain ⟨s1, s2⟩ := hbw.stands (i := i + r) (by omega)
      obtain ⟨rfl, hgp, hrg⟩ := hbw.hA (by omega)
      have hcs := cells_of hbw.hp
      obtain ⟨c0, c1, c2, fz⟩ := cells_of hbw.hp
      obtain ⟨q, hq⟩ : ∃ q, q = stands at_ gap (i + r) := ⟨_, rfl⟩
      have hcell := hrg.cell s1
      rw [s2, ← hq] at hcell
      rw [← hq] at s1
      have HP : ∀ d : Nat, Calls Try.prog 33 #[.pointer (some ⟨p, 0, none⟩), .int .i64 ((i : Int) + (r : Int))] (wr.drewN d) fun e w' => e = .returned (.int .i64 q) ∧ wr.drewN d = w' := by
        intro d
        have := place_any (wr.drewN d) p m at_ gap (some ⟨g, 0, none⟩) (hcs.drewN d) (i + r) (by omega) (by omega)
        rw [← hq, Int.natCast_add] at this
        exact this
      have HPP : Hid (Calls Try.prog 33 #[.pointer (some ⟨p, 0, none⟩), .int .i64 ((i : Int) + (r : Int))] wr.drew fun e w' => e = .returned (.int .i64 q) ∧ w' = wr.drew) := (HP 1).mono fun _ _ ⟨he, hw⟩ => ⟨he, hw.symm⟩
      have hcr : wr.cell? ⟨w2.heap.size, r, none⟩ = some (.string ByteArray.empty) := by
        have := hrow.cell (i := r) hlt
        unfold takenTo at this
        rwa [if_neg (by omega)] at this
      have hfr : wr.frozen? ⟨w2.heap.size, r, none⟩ = false := hrow.frozen _
      have s3 : (q : Int) < (m : Int) := by omega
      have r3 : (r : Int) < (k : Int) := by omega
      have hrow' : (wr.setCell ⟨w2.heap.size, r, none⟩ (.string (l (i + r)))).rowIs w2.heap.size 9 k (takenTo l i (r + 1)) := by
        refine (hrow.set r _).congr (fun j hj => ?_)
        unfold takenTo
        by_cases hj : j = r
        · subst hj; rw [if_pos rfl, if_pos (by omega)]
        · rw [if_neg hj]
          by_cases hj2 : j < r
          · rw [if_pos hj2, if_pos (by omega)]
          · rw [if_neg hj2, if_neg (by omega)]
      have HR := Lib.hid hrow'
      clear HP hrow' hq s2 b4 hbw hrg hcs fz hs
      go_wp2_with fail
      have hsum : IntKind.i64.wrap ((i : Int) + (r : Int)) = (i : Int) + (r : Int) := IntWalk.i64_in _ (by omega)
      refine wp_region_still_tail 14 (by kernel_rfl) (by kernel_rfl) ?_
      change wpStill _ _ wr.drew (fun a' => wpList _ _ _ _ a' wr.drew) _ _
      simp only [List.take_succ_cons, List.take_zero, List.drop_succ_cons, List.drop_zero]
      repeat still_step
      refine wpStill_step (fun K hK => ?_)
      go_simp
      refine ⟨_, HPP.out, hK _ ?_⟩
      clear hK K
      repeat still_step
      try refine wpStill_nil ?_
      clear hsum
      go_wp2_with fail
      go_roundw
      case rel => exact ⟨r + 1, by omega, by go_num, HR.out, (hb.setCell (Nat.le_refl _) _).drew⟩
      case measure => simp [intOf]; omega
    · obtain rfl : r = k := by omega
      have hbw : BG wr p g m n at_ gap A F l := HB2.out.keep (hb.block p HB2.out.hp.lt) (fun hm => hb.block g (HB2.out.hA hm).2.2.lt)
      have HBW := Lib.hid hbw
      have HROW := Lib.hid hrow
      clear hbw hrow
      go_wp2_with fail
      refine (remove_raw wr p g m n at_ gap A F l HBW.out i r hk hi).mono ?_
      rintro e w3 ⟨rfl, ⟨F3, h3⟩, o3⟩
      have HB3 := Lib.hid h3
      have HO3 := Lib.hid o3
      have s2 : w2.heap.size = w.heap.size := hd.size
      have s3 : w2.heap.size < wr.heap.size := HROW.out.lt
      have plt : p < w.heap.size := HB.out.hp.lt
      have hrow3 : w3.rowIs w2.heap.size 9 r (takenTo l i r) := HROW.out.of_block (HO3.out.block _ s3 (by omega) (by omega))
      have HR3 := Lib.hid hrow3
      have S2 := Lib.hid s2
      clear h3 o3 hrow3 s2
      go_wp2_with fail
      refine (insert_raw w3 p g m (n - r) i (gap + r) A F3 (rem l i r) HB3.out t r t rfl (by omega) hk (by omega) w2.heap.size 0 r (fun j => l (i + j)) (by have := HO3.out.size; omega) (by have := S2.out; omega) (by have := S2.out; omega) (fun j hj => ?_)).mono ?_
      · rw [Nat.zero_add, HR3.out.cell hj]
        unfold takenTo
        rw [if_pos hj]
      rintro e w4 ⟨rfl, h4, o4⟩
      have H : InsPost w p g (n - r) t r (ins (rem l i r) t r fun j => l (i + j)) (.returned (.int .i64 0)) w4 := by
        have x1 : Only2 w wr p g := (Only2.of_drawn hd).trans (g' := g) ⟨hb.os, hb.tape, hb.output, hb.size, fun b hb' h1 h2 => hb.block b hb'⟩ (.inl rfl)
        have x2 := (x1.trans HO3.out (.inl rfl)).trans o4 (.inl rfl)
        obtain ⟨g', m', gap', A', F', y1, y2⟩ := h4
        refine ⟨rfl, ⟨g', m', gap', A', F', y1, ?_⟩, x2⟩
        rcases y2 with e | e
        · exact .inl e
        · right; have := (x1.trans HO3.out (.inl rfl)).size; omega
      have HH := Lib.hid H
      clear H
      go_wp2_with fail
      go_ret
      exact HH.out

theorem move_ok (w : World) (B p n at_ : Nat) (l : Nat → ByteArray) (h : Buf w B p n at_ l) (i k t : Nat) (x y z : Int) (hx : x = (i : Int)) (hy : y = (k : Int)) (hz : z = (t : Int)) (hk : 0 < k) (hi : i + k ≤ n) (ht : t + k ≤ n) :
    Calls Try.prog 22 #[.pointer (some ⟨p, 0, none⟩), .int .i64 x, .int .i64 y, .int .i64 z] w (ChgPost w B p n (t + k) (ins (rem l i k) t k fun j => l (i + j))) := by
  subst hx hy hz
  obtain ⟨g, m, gap, A, F, h1, h2, h3, h4⟩ := h.open_
  have plt := h1.hp.lt
  refine (move_raw w p g m n at_ gap A F l h1 h4 i k t hk hi ht).mono ?_
  rintro e w' ⟨rfl, ⟨g', m', gap', A', F', q1, q2⟩, q3⟩
  rw [show n - k + k = n from by omega] at q1
  exact ⟨rfl, ⟨g', m', gap', A', F', q1, h2, fun _ => by omega⟩, q3.below h2 h3 (by omega)⟩
set_option maxHeartbeats 800000 in
theorem move_none (w : World) (B p n at_ : Nat) (l : Nat → ByteArray) (h : Buf w B p n at_ l) (i t : Nat) (x z : Int) (hx : x = (i : Int)) (hz : z = (t : Int)) (hi : i ≤ n) (ht : t ≤ n) :
    Calls Try.prog 22 #[.pointer (some ⟨p, 0, none⟩), .int .i64 x, .int .i64 0, .int .i64 z] w fun e w' => e = .returned (.int .i64 0) ∧ Drawn w w' := by
  subst hx hz
  have HB := Lib.hid h
  have hn := h.le.2.2
  have htk : ¬ (n : Int) < (t : Int) := by omega
  clear h
  go_enter Try.func22, Try.ntmps22
  go_wp2_with fail
  refine (check_ok w B p n at_ l HB.out i 0 (by omega)).mono ?_
  rintro e w1 ⟨rfl, hd1⟩
  go_wp2_with fail
  refine (len_any w1 B p n at_ l (HB.out.drawn hd1)).mono ?_
  rintro e w2 ⟨rfl, hd2⟩
  go_wp2_with fail
  go_ret
  exact ⟨rfl, hd1.trans hd2⟩
set_option maxHeartbeats 800000 in
theorem move_bad (w : World) (B p n at_ : Nat) (l : Nat → ByteArray) (h : Buf w B p n at_ l) (x y z : Int) (fx : Fits x) (fy : Fits y) (hx : x < 0 ∨ y < 0 ∨ (n : Int) < x ∨ (n : Int) - x < y) :
    Calls Try.prog 22 #[.pointer (some ⟨p, 0, none⟩), .int .i64 x, .int .i64 y, .int .i64 z] w fun e w' => e = .returned (.int .i64 4) ∧ Drawn w w' := by
  have HB := Lib.hid h
  have HX := Lib.hid hx
  clear h hx
  go_enter Try.func22, Try.ntmps22
  go_wp2_with fail
  refine (check_bad w B p n at_ l HB.out x y fx fy HX.out).mono ?_
  rintro e w1 ⟨rfl, hd1⟩
  go_wp2_with fail
  go_ret
  exact ⟨rfl, hd1⟩
set_option maxHeartbeats 800000 in
theorem move_to (w : World) (B p n at_ : Nat) (l : Nat → ByteArray) (h : Buf w B p n at_ l) (i k : Nat) (x y z : Int) (hx : x = (i : Int)) (hy : y = (k : Int)) (hi : i + k ≤ n) (hz : z < 0 ∨ (n : Int) - (k : Int) < z) :
    Calls Try.prog 22 #[.pointer (some ⟨p, 0, none⟩), .int .i64 x, .int .i64 y, .int .i64 z] w fun e w' => e = .returned (.int .i64 4) ∧ Drawn w w' := by
  subst hx hy
  have HB := Lib.hid h
  have hn := h.le.2.2
  clear h
  by_cases z0 : z < 0
  · clear hz
    go_enter Try.func22, Try.ntmps22
    go_wp2_with fail
    refine (check_ok w B p n at_ l HB.out i k hi).mono ?_
    rintro e w1 ⟨rfl, hd1⟩
    go_wp2_with fail
    go_ret
    exact ⟨rfl, hd1⟩
  · have z1 : (n : Int) - (k : Int) < z := by omega
    clear hz
    go_enter Try.func22, Try.ntmps22
    go_wp2_with fail
    refine (check_ok w B p n at_ l HB.out i k hi).mono ?_
    rintro e w1 ⟨rfl, hd1⟩
    go_wp2_with fail
    refine (len_any w1 B p n at_ l (HB.out.drawn hd1)).mono ?_
    rintro e w2 ⟨rfl, hd2⟩
    go_wp2_with fail
    go_ret
    exact ⟨rfl, hd1.trans hd2⟩

/-! ### New -/
theorem buf_zero (w : World) (l : Nat → ByteArray) : Buf (w.alloc (.cells #[.slice none 0 0, .int .i64 0, .int .i64 0] 52)) w.heap.size w.heap.size 0 0 l := by
  refine ⟨0, 0, 0, none, fun _ => .string ByteArray.empty, ⟨(World.rowIs_alloc w _ _ _ ?_), fun h => absurd h (by omega), rfl, Nat.le_refl _, fun j h => absurd h (by omega), fun j _ h => absurd h (by omega), by omega, by omega, fun _ => rfl⟩, Nat.le_refl _, fun h => absurd h (by omega)⟩
  intro i hi
  match i, hi with
  | 0, _ => rfl
  | 1, _ => rfl
  | 2, _ => rfl

/-- What New leaves. -/
def NewPost (w : World) (k : Nat) (f : Nat → ByteArray) (e : Ending) (w' : World) : Prop :=
  ∃ p, e = .returned (.tuple #[.pointer (some ⟨p, 0, none⟩), .int .i64 0]) ∧ Buf w' w.heap.size p k k f ∧ Below w.heap.size w w'
set_option maxHeartbeats 800000 in
theorem new_ok (w : World) (k c' : Nat) (A' : Option Addr) (f : Nat → ByteArray) (hs : Sees w w.heap.size A' k fun j => .string (f j)) (hk : k ≤ 4096) :
    Calls Try.prog 17 #[.slice A' k c'] w (NewPost w k f) := by
  by_cases k0 : k = 0
  · subst k0
    go_enter Try.func17, Try.ntmps17
    go_wp2_with fail
    refine (insert_none _ w.heap.size w.heap.size 0 0 f (buf_zero w f) 0 0 rfl (Nat.le_refl _) A' c').mono ?_
    rintro e w1 ⟨rfl, hd⟩
    have H : NewPost w 0 f (.returned (.tuple #[.pointer (some ⟨w.heap.size, 0, none⟩), .int .i64 0])) w1 :=
      ⟨_, rfl, (buf_zero w f).drawn hd, ((Below.refl _ w).alloc (Nat.le_refl _) _).trans (hd.below _)⟩
    have HH := Lib.hid H
    clear H
    go_wp2_with fail
    go_ret2
    exact HH.out
  · have HS := Lib.hid hs
    clear hs
    go_enter Try.func17, Try.ntmps17
    go_wp2_with fail
    refine (insert_ok _ w.heap.size w.heap.size 0 0 f (buf_zero w f) 0 k 0 rfl (Nat.le_refl _) (by omega) (by omega) A' c' f (HS.out.below ((Below.refl _ w).alloc (Nat.le_refl _) _))).mono ?_
    rintro e w1 ⟨rfl, hB, hb⟩
    have H : NewPost w k f (.returned (.tuple #[.pointer (some ⟨w.heap.size, 0, none⟩), .int .i64 0])) w1 := by
      refine ⟨_, rfl, ?_, ((Below.refl _ w).alloc (Nat.le_refl _) _).trans hb⟩
      rw [Nat.zero_add] at hB
      refine hB.congr fun j hj => ?_
      unfold ins
      rw [if_neg (by omega), if_pos (by omega), Nat.sub_zero]
    have HH := Lib.hid H
    clear H hB
    go_wp2_with fail
    go_ret2
    exact HH.out
set_option maxHeartbeats 800000 in
theorem new_bad (w : World) (k c' : Nat) (A' : Option Addr) (hk : 4096 < k) :
    Calls Try.prog 17 #[.slice A' k c'] w fun e w' => e = .returned (.tuple #[.pointer none, .int .i64 3]) ∧ Below w.heap.size w w' := by
  go_enter Try.func17, Try.ntmps17
  go_wp2_with fail
  refine (insert_limit _ w.heap.size w.heap.size 0 0 (fun _ => default) (buf_zero w _) 0 0 rfl (Nat.le_refl _) A' k c' (by omega)).mono ?_
  rintro e w1 ⟨rfl, hd⟩
  go_wp2_with fail
  go_ret2
  exact ⟨rfl, ((Below.refl _ w).alloc (Nat.le_refl _) _).trans (hd.below _)⟩
end GapS
end Go.Proofs.Ytiipogenknnilaa

/-
  Contracts of package gaps at elements of type string: Insert, Remove, Move, New.
-/
import Derived.Test.YtiipogenknnilaaRows
import Derived.Test.YtiipogenknnilaaMem2
import Derived.Test.YtiipogenknnilaaCp
import Derived.Test.YtiipogenknnilaaGapS
import Derived.Test.YtiipogenknnilaaGapS2
import Derived.Test.YtiipogenknnilaaGapS3
import Derived.Test.YtiipogenknnilaaGapS4
import Derived.LoopTactic
import Derived.Outline
import Derived.Deep.QuietTactic
import Derived.BigQuiet
import Derived.BigRegion
namespace Go.Proofs.Ytiipogenknnilaa
namespace GapS
open Go.RowKit
set_option linter.unusedVariables false

/-- The list with k elements more, from place i on. -/
def ins (l : Nat → ByteArray) (i k : Nat) (f : Nat → ByteArray) : Nat → ByteArray := fun j => if j < i then l j else if j < i + k then f (j - i) else l (j - k)
/-- The list without k elements. -/
def rem (l : Nat → ByteArray) (i k : Nat) : Nat → ByteArray := fun j => if j < i then l j else l (j + k)

theorem chk_ok {n i k : Nat} (h : i + k ≤ n) : chkErr n i k = 0 := by unfold chkErr; rw [if_neg (by omega)]

/-- check on a range that there is. -/
theorem check_ok (w : World) (B p n at_ : Nat) (l : Nat → ByteArray) (h : Buf w B p n at_ l) (i k : Nat) (hi : i + k ≤ n) :
    Calls Try.prog 28 #[.pointer (some ⟨p, 0, none⟩), .int .i64 i, .int .i64 k] w fun e w' => e = .returned (.int .i64 0) ∧ Drawn w w' := by
  have hn := h.le.2.2
  have := check_any w B p n at_ l h i k ⟨by omega, by omega⟩ ⟨by omega, by omega⟩
  rwa [chk_ok hi] at this
theorem check_bad (w : World) (B p n at_ : Nat) (l : Nat → ByteArray) (h : Buf w B p n at_ l) (i k : Int) (fi : Fits i) (fk : Fits k) (hi : i < 0 ∨ k < 0 ∨ (n : Int) < i ∨ (n : Int) - i < k) :
    Calls Try.prog 28 #[.pointer (some ⟨p, 0, none⟩), .int .i64 i, .int .i64 k] w fun e w' => e = .returned (.int .i64 4) ∧ Drawn w w' := by
  have := check_any w B p n at_ l h i k fi fk
  have e : chkErr n i k = 4 := by unfold chkErr; rw [if_pos hi]
  rwa [e] at this

theorem BG.buf0 {w : World} {p g m n at_ gap : Nat} {A : Option Addr} {F : Nat → Value} {l : Nat → ByteArray} (h : BG w p g m n at_ gap A F l) : Buf w 0 p n at_ l := ⟨g, m, gap, A, F, h, Nat.zero_le _, fun _ => Nat.zero_le _⟩

/-- What Insert leaves. -/
def InsPost (w : World) (p g n i k : Nat) (l' : Nat → ByteArray) (e : Ending) (w' : World) : Prop :=
  e = .returned (.int .i64 0) ∧ (∃ g' m' gap' A' F', BG w' p g' m' (n + k) (i + k) gap' A' F' l' ∧ (g' = g ∨ w.heap.size ≤ g')) ∧ Only2 w w' p g

set_option maxRecDepth 100000 in
set_option maxHeartbeats 1600000 in
theorem insert_raw (w : World) (p g m n at_ gap : Nat) (A : Option Addr) (F : Nat → Value) (l : Nat → ByteArray) (h : BG w p g m n at_ gap A F l) (i k : Nat) (x : Int) (hx : x = (i : Int)) (hi : i ≤ n) (hk : 0 < k) (hnk : n + k ≤ 4096)
    (b o c' : Nat) (f : Nat → ByteArray) (hb : b < w.heap.size) (hbp : b ≠ p) (hbg : b ≠ g) (hc : ∀ j, j < k → w.cell? ⟨b, o + j, none⟩ = some (.string (f j))) :
    Calls Try.prog 18 #[.pointer (some ⟨p, 0, none⟩), .int .i64 x, .slice (some ⟨b, o, none⟩) k c'] w (InsPost w p g n i k (ins l i k f)) := by
  subst hx
  have HB := Lib.hid h
  clear h
  have hne : ((k : Int) == 0) = false := by simp; omega
  have HC := Lib.hid hc
  clear hc
  go_enter Try.func18, Try.ntmps18
  go_wp2_with fail
  refine (check_ok w 0 p n at_ l HB.out.buf0 i 0 (by omega)).mono ?_
  rintro e w1 ⟨rfl, hd1⟩
  go_wp2_with fail
  refine (len_any w1 0 p n at_ l (HB.out.drawn hd1).buf0).mono ?_
  rintro e w2 ⟨rfl, hd2⟩
  have hd := hd1.trans hd2
  have h2 := HB.out.drawn hd
  have HB2 := Lib.hid h2
  clear h2 hd1 hd2
  go_wp2_with fail
  refine (bring_any w2 p g m n at_ gap A F l HB2.out i hi).mono ?_
  rintro e w3 ⟨rfl, ⟨F3, h3⟩, o3⟩
  have HB3 := Lib.hid h3
  have HO3 := Lib.hid o3
  clear h3 o3
  go_wp2_with fail
  refine (widen_any w3 p g m n i gap A F3 l HB3.out k (by omega)).mono ?_
  rintro e w4 ⟨rfl, ⟨g4, m4, gap4, A4, F4, h4, hgap, hg4⟩, o4⟩
  have b0 : gap4 ≤ m4 := by have := h4.hm; omega
  have b1 : n + gap4 = m4 := h4.hm.symm
  have b2 := h4.hm2
  obtain ⟨rfl, hgp, hrow⟩ := h4.hA (by omega)
  obtain ⟨c0, c1, c2, fz⟩ := cells_of h4.hp
  have hbs : b < w4.heap.size := by have := HO3.out.size; have := o4.size; rw [hd.size] at *; omega
  have s2 : w2.heap.size = w.heap.size := hd.size
  have hcell : ∀ j, j < k → w4.cell? ⟨b, o + j, none⟩ = some (.string (f j)) := by
    intro j hj
    have e4 : w4.heap[b]? = w3.heap[b]? := o4.block b (by have := HO3.out.size; omega) hbp hbp
    have e3 : w3.heap[b]? = w2.heap[b]? := HO3.out.block b (by omega) hbp hbg
    have := HC.out j hj
    rw [← hd.cell] at this
    rw [World.cell?_of_block (w := w3) (a := ⟨b, o + j, none⟩) e4, World.cell?_of_block (w := w2) (a := ⟨b, o + j, none⟩) e3]
    exact this
  have hbg4 : b ≠ g4 := by
    rcases hg4 with e | e
    · rw [e]; exact hbg
    · have := HO3.out.size; omega
  obtain ⟨w5, hcp, hrow5, ho5⟩ := copy_row (P := Try.prog) w4.drew (dT := 44) (sT := 44) Try.underlying44 infoSize (show w4.drew.rowIs g4 9 m4 F4 from hrow) i (m4 - i) (m4 - i)
    (B := w4.heap.size) (A := some ⟨b, o, none⟩) (sLen := k) (sCap := c') (cs := fun j => .string (f j)) (fun _ => ⟨b, o, rfl, hbs, fun j hj => hcell j hj⟩) (fun _ => rfl) k (by simp only [Nat.min_def]; rw [if_pos (by omega)]) (by omega)
  have plt : p < w4.drew.heap.size := h4.hp.lt
  have hgp' : p ≠ g4 := fun e => hgp e.symm
  have q0 : w5.cell? ⟨p, 0, none⟩ = some (.slice (some ⟨g4, 0, none⟩) m4 m4) := (ho5.cell plt hgp' 0).trans c0
  have q1 : w5.cell? ⟨p, 1, none⟩ = some (.int .i64 i) := (ho5.cell plt hgp' 1).trans c1
  have q2 : w5.cell? ⟨p, 2, none⟩ = some (.int .i64 gap4) := (ho5.cell plt hgp' 2).trans c2
  have qz : ∀ i, w5.frozen? ⟨p, i, none⟩ = false := fun i => (ho5.frozen plt hgp' i).trans (fz i)
  have hp5 : w5.rowIs p 52 3 (bufCells (some ⟨g4, 0, none⟩) m4 i gap4) := ho5.row (show w4.drew.rowIs p _ 3 _ from h4.hp) hgp'
  have fin : InsPost w p g n i k (ins l i k f) (.returned (.int .i64 0)) ((w5.setCell ⟨p, 1, none⟩ (.int .i64 ((i : Int) + (k : Int)))).setCell ⟨p, 2, none⟩ (.int .i64 ((gap4 : Int) - (k : Int)))) := by
    have hg40 : g4 = g ∨ w.heap.size ≤ g4 := by
      rcases hg4 with e | e
      · exact .inl e
      · right; have := HO3.out.size; omega
    refine ⟨rfl, ⟨g4, m4, gap4 - k, some ⟨g4, 0, none⟩, _, ⟨?_, fun _ => ⟨rfl, hgp, (hrow5.setOther (by show g4 ≠ p; exact hgp) _).setOther (by show g4 ≠ p; exact hgp) _⟩, by omega, by omega, fun j hj => ?_, fun j h1 h2 => ?_, hnk, b2, ?_⟩, hg40⟩, ?_⟩
    · refine ((hp5.set 1 (.int .i64 ((i : Int) + (k : Int)))).set 2 (.int .i64 ((gap4 : Int) - (k : Int)))).congr (fun j hj => ?_)
      match j, hj with
      | 0, _ => rfl
      | 1, _ => show Value.int .i64 ((i : Int) + (k : Int)) = .int .i64 ((i + k : Nat) : Int); rw [Int.natCast_add]
      | 2, _ => show Value.int .i64 ((gap4 : Int) - (k : Int)) = .int .i64 ((gap4 - k : Nat) : Int); congr 1; omega
    · unfold spliced ins
      by_cases d : j < i
      · rw [if_neg (by omega), if_pos d]; exact h4.lo j d
      · rw [if_pos (by omega), if_neg d, if_pos hj]
    · unfold spliced ins
      rw [if_neg (by omega), if_neg (by omega), if_neg (by omega), show j + (gap4 - k) = j - k + gap4 from by omega]
      exact h4.hi (j - k) (by omega) (by omega)
    · exact spliced_one h4.one fun _ => rfl
    · have x2 : Only2 w w3 p g := (Only2.of_drawn hd).trans HO3.out (.inl rfl)
      have x3 : Only2 w w4 p g := x2.trans o4 (.inr (.inl rfl))
      have x4 : Only2 w w5 p g := by
        rcases hg40 with e | e
        · subst e; exact x3.trans (Only2.of_only ho5 (.inr rfl)).drewL (.inl rfl)
        · exact x3.trans (Only2.of_only (p := p) (g := g4) ho5 (.inr rfl)).drewL (.inr (.inr e))
      exact (x4.setCell p 1 (.inl rfl) _).setCell p 2 (.inl rfl) _
  have HH := Lib.hid fin
  have ne1 : ¬ m4 = i := by omega
  have j1 : (i : Int) + (k : Int) ≤ 4096 := by omega
  have j2 : (0 : Int) ≤ (gap4 : Int) - (k : Int) := by omega
  have j3 : i ≤ m4 := by omega
  clear fin hrow hrow5 ho5 hp5 o4 hcell b1
  go_wp2_with fail
  go_region
  go_wp2_with fail
  go_ret
  exact HH.out

theorem BG.zero_g {w : World} {p g n at_ gap : Nat} {A : Option Addr} {F : Nat → Value} {l : Nat → ByteArray} (h : BG w p g 0 n at_ gap A F l) : BG w p p 0 n at_ gap A F l :=
  ⟨h.hp, fun h => absurd h (by omega), h.hm, h.hat, h.lo, h.hi, h.hn, h.hm2, h.one⟩
/-- A buffer by its blocks, both at B or above. -/
theorem Buf.open_ {w : World} {B p n at_ : Nat} {l : Nat → ByteArray} (h : Buf w B p n at_ l) : ∃ g m gap A F, BG w p g m n at_ gap A F l ∧ B ≤ p ∧ B ≤ g ∧ g < w.heap.size := by
  obtain ⟨g, m, gap, A, F, h1, h2, h3⟩ := h
  by_cases m0 : 0 < m
  · exact ⟨g, m, gap, A, F, h1, h2, h3 m0, (h1.hA m0).2.2.lt⟩
  · obtain rfl : m = 0 := by omega
    exact ⟨p, 0, gap, A, F, h1.zero_g, h2, h2, h1.hp.lt⟩

/-- What a change of the buffer leaves. -/
def ChgPost (w : World) (B p n' at' : Nat) (l' : Nat → ByteArray) (e : Ending) (w' : World) : Prop :=
  e = .returned (.int .i64 0) ∧ Buf w' B p n' at' l' ∧ Below B w w'

/-- Insert, the source apart from the buffer's blocks. -/
theorem insert_ok (w : World) (B p n at_ : Nat) (l : Nat → ByteArray) (h : Buf w B p n at_ l) (i k : Nat) (x : Int) (hx : x = (i : Int)) (hi : i ≤ n) (hk : 0 < k) (hnk : n + k ≤ 4096) (A' : Option Addr) (c' : Nat) (f : Nat → ByteArray)
    (hs : Sees w B A' k fun j => .string (f j)) :
    Calls Try.prog 18 #[.pointer (some ⟨p, 0, none⟩), .int .i64 x, .slice A' k c'] w (ChgPost w B p (n + k) (i + k) (ins l i k f)) := by
  obtain ⟨g, m, gap, A, F, h1, h2, h3, h4⟩ := h.open_
  obtain ⟨b, o, rfl, hb, hc⟩ := hs hk
  have plt := h1.hp.lt
  refine (insert_raw w p g m n at_ gap A F l h1 i k x hx hi hk hnk b o c' f (by omega) (by omega) (by omega) hc).mono ?_
  rintro e w' ⟨rfl, ⟨g', m', gap', A'', F', q1, q2⟩, q3⟩
  exact ⟨rfl, ⟨g', m', gap', A'', F', q1, h2, fun _ => by omega⟩, q3.below h2 h3 (by omega)⟩

set_option maxHeartbeats 800000 in
theorem insert_none (w : World) (B p n at_ : Nat) (l : Nat → ByteArray) (h : Buf w B p n at_ l) (i : Nat) (x : Int) (hx : x = (i : Int)) (hi : i ≤ n) (A' : Option Addr) (c' : Nat) :
    Calls Try.prog 18 #[.pointer (some ⟨p, 0, none⟩), .int .i64 x, .slice A' 0 c'] w fun e w' => e = .returned (.int .i64 0) ∧ Drawn w w' := by
  subst hx
  have HB := Lib.hid h
  have hn := h.le.2.2
  clear h
  go_enter Try.func18, Try.ntmps18
  go_wp2_with fail
  refine (check_ok w B p n at_ l HB.out i 0 (by omega)).mono ?_
  rintro e w1 ⟨rfl, hd1⟩
  go_wp2_with fail
  refine (len_any w1 B p n at_ l (HB.out.drawn hd1)).mono ?_
  rintro e w2 ⟨rfl, hd2⟩
  go_wp2_with fail
  go_ret
  exact ⟨rfl, hd1.trans hd2⟩
set_option maxHeartbeats 800000 in
theorem insert_limit (w : World) (B p n at_ : Nat) (l : Nat → ByteArray) (h : Buf w B p n at_ l) (i : Nat) (x : Int) (hx : x = (i : Int)) (hi : i ≤ n) (A' : Option Addr) (k c' : Nat) (hk : 4096 < n + k) :
    Calls Try.prog 18 #[.pointer (some ⟨p, 0, none⟩), .int .i64 x, .slice A' k c'] w fun e w' => e = .returned (.int .i64 3) ∧ Drawn w w' := by
  subst hx
  have HB := Lib.hid h
  have hn := h.le.2.2
  clear h
  have hkk : (4096 : Int) - (n : Int) < (k : Int) := by omega
  go_enter Try.func18, Try.ntmps18
  go_wp2_with fail
  refine (check_ok w B p n at_ l HB.out i 0 (by omega)).mono ?_
  rintro e w1 ⟨rfl, hd1⟩
  go_wp2_with fail
  refine (len_any w1 B p n at_ l (HB.out.drawn hd1)).mono ?_
  rintro e w2 ⟨rfl, hd2⟩
  go_wp2_with fail
  go_ret
  exact ⟨rfl, hd1.trans hd2⟩
set_option maxHeartbeats 800000 in
theorem insert_range (w : World) (B p n at_ : Nat) (l : Nat → ByteArray) (h : Buf w B p n at_ l) (x : Int) (fx : Fits x) (hx : x < 0 ∨ (n : Int) < x) (A' : Option Addr) (k c' : Nat) :
    Calls Try.prog 18 #[.pointer (some ⟨p, 0, none⟩), .int .i64 x, .slice A' k c'] w fun e w' => e = .returned (.int .i64 4) ∧ Drawn w w' := by
  have HB := Lib.hid h
  have hn := h.le.2.2
  have HX := Lib.hid hx
  clear h hx
  go_enter Try.func18, Try.ntmps18
  go_wp2_with fail
  refine (check_bad w B p n at_ l HB.out x 0 fx ⟨by omega, by omega⟩ (by have := HX.out; omega)).mono ?_
  rintro e w1 ⟨rfl, hd1⟩
  go_wp2_with fail
  go_ret
  exact ⟨rfl, hd1⟩
end GapS
end Go.Proofs.Ytiipogenknnilaa

/-
  Contracts of package gaps at elements of type int.
-/
import Derived.Test.YtiipogenknnilaaRows
import Derived.Test.YtiipogenknnilaaMem2
import Derived.Test.YtiipogenknnilaaCp
import Derived.LoopTactic
import Derived.Outline
import Derived.Deep.QuietTactic
import Derived.BigQuiet
import Derived.StillTailTactics
import Derived.BigRegion
namespace Go.Proofs.Ytiipogenknnilaa
namespace GapI
open Go.RowKit
set_option linter.unusedVariables false

abbrev F_check : Nat := 24

/-- The buffer's three cells. -/
def bufCells (A : Option Addr) (m at_ gap : Nat) : Nat → Value := fun j => if j = 0 then .slice A m m else if j = 1 then .int .i64 at_ else .int .i64 gap

/-- A buffer at p, its elements in block g: the list l of n elements, its gap at at_. -/
structure BG (w : World) (p g m n at_ gap : Nat) (A : Option Addr) (F : Nat → Value) (l : Nat → Int) : Prop where
  hp : w.rowIs p 39 3 (bufCells A m at_ gap)
  hA : 0 < m → A = some ⟨g, 0, none⟩ ∧ g ≠ p ∧ w.rowIs g 3 m F
  hm : m = n + gap
  hat : at_ ≤ n
  lo : ∀ j, j < at_ → F j = .int .i64 (l j)
  hi : ∀ j, at_ ≤ j → j < n → F (j + gap) = .int .i64 (l j)
  hn : n ≤ 4096
  hm2 : m ≤ 20000
  one : ∀ j, (F j).oneCell' = true

/-- The same; its memory lies from block B on. -/
def Buf (w : World) (B p n at_ : Nat) (l : Nat → Int) : Prop :=
  ∃ (g m gap : Nat) (A : Option Addr) (F : Nat → Value), BG w p g m n at_ gap A F l ∧ B ≤ p ∧ (0 < m → B ≤ g)

theorem Buf.le {w : World} {B p n at_ : Nat} {l : Nat → Int} (h : Buf w B p n at_ l) : B ≤ p ∧ at_ ≤ n ∧ n ≤ 4096 := by
  obtain ⟨g, m, gap, A, F, h1, h2, h3⟩ := h
  exact ⟨h2, h1.hat, h1.hn⟩
theorem BG.congr {w : World} {p g m n at_ gap : Nat} {A : Option Addr} {F : Nat → Value} {l l' : Nat → Int} (h : BG w p g m n at_ gap A F l) (e : ∀ j, j < n → l j = l' j) : BG w p g m n at_ gap A F l' :=
  ⟨h.hp, h.hA, h.hm, h.hat, fun j hj => by rw [h.lo j hj, e j (by have := h.hat; omega)], fun j a b => by rw [h.hi j a b, e j b], h.hn, h.hm2, h.one⟩
theorem Buf.congr {w : World} {B p n at_ : Nat} {l l' : Nat → Int} (h : Buf w B p n at_ l) (e : ∀ j, j < n → l j = l' j) : Buf w B p n at_ l' := by
  obtain ⟨g, m, gap, A, F, h1, h2, h3⟩ := h
  exact ⟨g, m, gap, A, F, h1.congr e, h2, h3⟩
theorem BG.keep {w w' : World} {p g m n at_ gap : Nat} {A : Option Addr} {F : Nat → Value} {l : Nat → Int} (h : BG w p g m n at_ gap A F l) (k1 : w'.heap[p]? = w.heap[p]?) (k2 : 0 < m → w'.heap[g]? = w.heap[g]?) : BG w' p g m n at_ gap A F l :=
  ⟨h.hp.of_block k1, fun hm => ⟨(h.hA hm).1, (h.hA hm).2.1, (h.hA hm).2.2.of_block (k2 hm)⟩, h.hm, h.hat, h.lo, h.hi, h.hn, h.hm2, h.one⟩
/-- Kept where the blocks of the buffer are kept. -/
theorem Buf.keep {w w' : World} {B p n at_ : Nat} {l : Nat → Int} (h : Buf w B p n at_ l) (k : ∀ b, B ≤ b → b < w.heap.size → w'.heap[b]? = w.heap[b]?) : Buf w' B p n at_ l := by
  obtain ⟨g, m, gap, A, F, h1, h2, h3⟩ := h
  exact ⟨g, m, gap, A, F, h1.keep (k p h2 h1.hp.lt) (fun hm => k g (h3 hm) (h1.hA hm).2.2.lt), h2, h3⟩
theorem Buf.below {w w' : World} {B p n at_ : Nat} {l : Nat → Int} (h : Buf w B p n at_ l) (hb : Below w.heap.size w w') : Buf w' B p n at_ l := h.keep fun b _ hb' => hb.block b hb'
theorem Buf.drawn {w w' : World} {B p n at_ : Nat} {l : Nat → Int} (h : Buf w B p n at_ l) (hd : Drawn w w') : Buf w' B p n at_ l := by obtain ⟨q, rfl⟩ := hd; exact h.keep fun _ _ _ => rfl
theorem BG.drawn {w w' : World} {p g m n at_ gap : Nat} {A : Option Addr} {F : Nat → Value} {l : Nat → Int} (h : BG w p g m n at_ gap A F l) (hd : Drawn w w') : BG w' p g m n at_ gap A F l := by obtain ⟨q, rfl⟩ := hd; exact h.keep rfl fun _ => rfl

/-- Nothing but blocks p and g, and new ones, has turned. -/
structure Only2 (w w' : World) (p g : Nat) : Prop where
  os : w'.os = w.os
  tape : w'.tape = w.tape
  output : w'.output = w.output
  size : w.heap.size ≤ w'.heap.size
  block : ∀ b, b < w.heap.size → b ≠ p → b ≠ g → w'.heap[b]? = w.heap[b]?
theorem Only2.refl (w : World) (p g : Nat) : Only2 w w p g := ⟨rfl, rfl, rfl, Nat.le_refl _, fun _ _ _ _ => rfl⟩
theorem Only2.trans {a b c : World} {p g g' : Nat} (h : Only2 a b p g) (k : Only2 b c p g') (e : g' = g ∨ g' = p ∨ a.heap.size ≤ g') : Only2 a c p g :=
  ⟨k.os.trans h.os, k.tape.trans h.tape, k.output.trans h.output, Nat.le_trans h.size k.size, fun x hx h1 h2 => (k.block x (Nat.lt_of_lt_of_le hx h.size) h1 (by omega)).trans (h.block x hx h1 h2)⟩
theorem Only2.of_only {a b : World} {p g q : Nat} (h : Only a b q) (hq : q = p ∨ q = g) : Only2 a b p g :=
  ⟨h.os, h.tape, h.output, h.size, fun x hx h1 h2 => h.block x hx (fun e => by injection e with e; omega)⟩
theorem Only2.of_drawn {a b : World} {p g : Nat} (h : Drawn a b) : Only2 a b p g := by obtain ⟨q, rfl⟩ := h; exact ⟨rfl, rfl, rfl, Nat.le_refl _, fun _ _ _ _ => rfl⟩
theorem Only2.drew {a b : World} {p g : Nat} (h : Only2 a b p g) : Only2 a b.drew p g := ⟨h.os, h.tape, h.output, h.size, h.block⟩
theorem Only2.drewN {a b : World} {p g : Nat} (h : Only2 a b p g) (n : Nat) : Only2 a (b.drewN n) p g := ⟨h.os, h.tape, h.output, h.size, h.block⟩
theorem Only2.drewL {a b : World} {p g : Nat} (h : Only2 a.drew b p g) : Only2 a b p g := ⟨h.os, h.tape, h.output, h.size, h.block⟩
theorem Only2.drewNL {a b : World} {p g n : Nat} (h : Only2 (a.drewN n) b p g) : Only2 a b p g := ⟨h.os, h.tape, h.output, h.size, h.block⟩
theorem Only2.setCell {a b : World} {p g : Nat} (h : Only2 a b p g) (q i : Nat) (hq : q = p ∨ q = g ∨ a.heap.size ≤ q) (v : Value) : Only2 a (b.setCell ⟨q, i, none⟩ v) p g :=
  ⟨h.os, h.tape, h.output, by simpa [World.setCell] using h.size, fun x hx h1 h2 => (Below.heap_setCell b ⟨q, i, none⟩ v x (by show x ≠ q; omega)).trans (h.block x hx h1 h2)⟩
theorem Only2.alloc {a b : World} {p g : Nat} (h : Only2 a b p g) (o : Obj) : Only2 a (b.alloc o) p g :=
  ⟨h.os, h.tape, h.output, by have := h.size; simp; omega, fun x hx h1 h2 => (Below.heap_alloc b o x (Nat.lt_of_lt_of_le hx h.size)).trans (h.block x hx h1 h2)⟩
theorem Only2.below {a b : World} {p g B : Nat} (h : Only2 a b p g) (hp : B ≤ p) (hg : B ≤ g) (hs : B ≤ a.heap.size) : Below B a b :=
  ⟨h.os, h.tape, h.output, h.size, fun x hx => h.block x (by omega) (by omega) (by omega)⟩

/-- The cells of the buffer as the walk reads them. -/
structure Cells (w : World) (p m at_ gap : Nat) (A : Option Addr) : Prop where
  c0 : w.cell? ⟨p, 0, none⟩ = some (.slice A m m)
  c1 : w.cell? ⟨p, 1, none⟩ = some (.int .i64 at_)
  c2 : w.cell? ⟨p, 2, none⟩ = some (.int .i64 gap)
  fz : ∀ i, w.frozen? ⟨p, i, none⟩ = false
theorem Cells.drewN {w : World} {p m at_ gap : Nat} {A : Option Addr} (h : Cells w p m at_ gap A) (q : Nat) : Cells (w.drewN q) p m at_ gap A := ⟨h.c0, h.c1, h.c2, h.fz⟩
theorem cells_of {w : World} {p m at_ gap : Nat} {A : Option Addr} (h : w.rowIs p 39 3 (bufCells A m at_ gap)) : Cells w p m at_ gap A :=
  ⟨h.cell (i := 0) (by omega), h.cell (i := 1) (by omega), h.cell (i := 2) (by omega), fun i => h.frozen i⟩

set_option maxHeartbeats 400000 in
theorem len_any (w : World) (B p n at_ : Nat) (l : Nat → Int) (h : Buf w B p n at_ l) :
    Calls Try.prog 11 #[.pointer (some ⟨p, 0, none⟩)] w fun e w' => e = .returned (.int .i64 n) ∧ Drawn w w' := by
  obtain ⟨g, m, gap, A, F, h1, h2, h3⟩ := h
  obtain ⟨c0, c1, c2, fz⟩ := cells_of h1.hp
  have H4 := Lib.hid h1.hm
  have b1 : gap ≤ m := by have := H4.out; omega
  have b2 := h1.hm2
  clear fz h1 h3
  go_enter Try.func11, Try.ntmps11
  go_wp2_with fail
  go_quiet (fail)
  go_wp2_with fail
  go_ret
  exact ⟨ret_int (by have := H4.out; omega), ⟨_, rfl⟩⟩

set_option maxHeartbeats 400000 in
theorem gap_any (w : World) (B p n at_ : Nat) (l : Nat → Int) (h : Buf w B p n at_ l) :
    Calls Try.prog 16 #[.pointer (some ⟨p, 0, none⟩)] w fun e w' => e = .returned (.int .i64 at_) ∧ Drawn w w' := by
  obtain ⟨g, m, gap, A, F, h1, h2, h3⟩ := h
  obtain ⟨c0, c1, c2, fz⟩ := cells_of h1.hp
  clear fz h1 h3
  go_enter Try.func16, Try.ntmps16
  go_wp2_with fail
  go_ret
  exact ⟨rfl, Drawn.refl _⟩

/-- The error of check. -/
def chkErr (n : Nat) (i k : Int) : Int := if i < 0 ∨ k < 0 ∨ (n : Int) < i ∨ (n : Int) - i < k then 4 else 0

set_option maxHeartbeats 800000 in
theorem check_any (w : World) (B p n at_ : Nat) (l : Nat → Int) (h : Buf w B p n at_ l) (i k : Int) (hi : Fits i) (hk : Fits k) :
    Calls Try.prog 24 #[.pointer (some ⟨p, 0, none⟩), .int .i64 i, .int .i64 k] w fun e w' => e = .returned (.int .i64 (chkErr n i k)) ∧ Drawn w w' := by
  have HB := Lib.hid h
  have hn := h.le.2.2
  clear h
  obtain ⟨i1, i2⟩ := hi
  obtain ⟨k1, k2⟩ := hk
  by_cases d1 : i < 0
  · have H : Hid (4 = chkErr n i k) := by show _ = _; unfold chkErr; rw [if_pos (by omega)]
    go_enter Try.func24, Try.ntmps24
    go_wp2_with fail
    go_ret
    exact ⟨ret_int H.out, Drawn.refl _⟩
  · by_cases d2 : k < 0
    · have H : Hid (4 = chkErr n i k) := by show _ = _; unfold chkErr; rw [if_pos (by omega)]
      go_enter Try.func24, Try.ntmps24
      go_wp2_with fail
      go_ret
      exact ⟨ret_int H.out, Drawn.refl _⟩
    · by_cases d3 : (n : Int) < i
      · have H : Hid (4 = chkErr n i k) := by show _ = _; unfold chkErr; rw [if_pos (by omega)]
        go_enter Try.func24, Try.ntmps24
        go_wp2_with fail
        refine (len_any w B p n at_ l HB.out).mono ?_
        rintro e w1 ⟨rfl, hd⟩
        go_wp2_with fail
        go_ret
        exact ⟨ret_int H.out, hd⟩
      · by_cases d4 : (n : Int) - i < k
        · have H : Hid (4 = chkErr n i k) := by show _ = _; unfold chkErr; rw [if_pos (by omega)]
          go_enter Try.func24, Try.ntmps24
          go_wp2_with fail
          refine (len_any w B p n at_ l HB.out).mono ?_
          rintro e w1 ⟨rfl, hd⟩
          go_wp2_with fail
          refine (len_any w1 B p n at_ l (HB.out.drawn hd)).mono ?_
          rintro e w2 ⟨rfl, hd2⟩
          go_wp2_with fail
          go_ret
          exact ⟨ret_int H.out, hd.trans hd2⟩
        · have H : Hid (0 = chkErr n i k) := by show _ = _; unfold chkErr; rw [if_neg (by omega)]
          go_enter Try.func24, Try.ntmps24
          go_wp2_with fail
          refine (len_any w B p n at_ l HB.out).mono ?_
          rintro e w1 ⟨rfl, hd⟩
          go_wp2_with fail
          refine (len_any w1 B p n at_ l (HB.out.drawn hd)).mono ?_
          rintro e w2 ⟨rfl, hd2⟩
          go_wp2_with fail
          go_ret
          exact ⟨ret_int H.out, hd.trans hd2⟩

set_option maxHeartbeats 400000 in
theorem place_lt (w : World) (p m at_ gap : Nat) (A : Option Addr) (h : Cells w p m at_ gap A) (i : Nat) (hi : i < at_) :
    Calls Try.prog 27 #[.pointer (some ⟨p, 0, none⟩), .int .i64 i] w fun e w' => e = .returned (.int .i64 i) ∧ w = w' := by
  obtain ⟨c0, c1, c2, fz⟩ := h
  have hi' : (i : Int) < (at_ : Int) := by omega
  go_enter Try.func27, Try.ntmps27
  go_wp2_with fail
  go_ret
  exact ⟨rfl, rfl⟩
set_option maxHeartbeats 400000 in
theorem place_ge (w : World) (p m at_ gap : Nat) (A : Option Addr) (h : Cells w p m at_ gap A) (i : Nat) (hi : at_ ≤ i) (b1 : i ≤ 20000) (b2 : gap ≤ 20000) :
    Calls Try.prog 27 #[.pointer (some ⟨p, 0, none⟩), .int .i64 i] w fun e w' => e = .returned (.int .i64 (i + gap : Nat)) ∧ w = w' := by
  obtain ⟨c0, c1, c2, fz⟩ := h
  have hi' : (at_ : Int) ≤ (i : Int) := by omega
  go_enter Try.func27, Try.ntmps27
  go_wp2_with fail
  go_ret
  exact ⟨ret_int (by omega), rfl⟩

/-- Where element i stands. -/
def stands (at_ gap i : Nat) : Nat := if i < at_ then i else i + gap
theorem place_any (w : World) (p m at_ gap : Nat) (A : Option Addr) (h : Cells w p m at_ gap A) (i : Nat) (b1 : i ≤ 20000) (b2 : gap ≤ 20000) :
    Calls Try.prog 27 #[.pointer (some ⟨p, 0, none⟩), .int .i64 i] w fun e w' => e = .returned (.int .i64 (stands at_ gap i : Nat)) ∧ w = w' := by
  unfold stands
  by_cases hi : i < at_
  · rw [if_pos hi]; exact place_lt w p m at_ gap A h i hi
  · rw [if_neg hi]; exact place_ge w p m at_ gap A h i (by omega) b1 b2
theorem BG.stands {w : World} {p g m n at_ gap : Nat} {A : Option Addr} {F : Nat → Value} {l : Nat → Int} (h : BG w p g m n at_ gap A F l) {i : Nat} (hi : i < n) : stands at_ gap i < m ∧ F (stands at_ gap i) = .int .i64 (l i) := by
  have h1 := h.hm
  have h2 := h.hat
  unfold GapI.stands
  by_cases hx : i < at_
  · rw [if_pos hx]; exact ⟨by omega, h.lo i hx⟩
  · rw [if_neg hx]; exact ⟨by omega, h.hi i (by omega) hi⟩

set_option maxHeartbeats 800000 in
theorem at_ok (w : World) (B p n at_ : Nat) (l : Nat → Int) (h : Buf w B p n at_ l) (i : Nat) (hi : i < n) :
    Calls Try.prog 14 #[.pointer (some ⟨p, 0, none⟩), .int .i64 i] w fun e w' => e = .returned (.tuple #[.int .i64 (l i), .int .i64 0]) ∧ Drawn w w' := by
  have hc : chkErr n i 1 = 0 := by unfold chkErr; rw [if_neg (by omega)]
  have hn := h.le.2.2
  have HC : ∀ W, Buf W B p n at_ l → Calls Try.prog 24 #[.pointer (some ⟨p, 0, none⟩), .int .i64 i, .int .i64 1] W fun e w' => e = .returned (.int .i64 0) ∧ Drawn W w' := by
    intro W hW; have := check_any W B p n at_ l hW i 1 ⟨by omega, by omega⟩ ⟨by omega, by omega⟩; rwa [hc] at this
  have HCC := Lib.hid HC
  clear HC hc
  have HB := Lib.hid h
  clear h
  go_enter Try.func14, Try.ntmps14
  go_wp2_with fail
  refine (HCC.out w HB.out).mono ?_
  rintro e w1 ⟨rfl, hd⟩
  go_wp2_with fail
  obtain ⟨g, m, gap, A, F, h1, _, _⟩ := HB.out.drawn hd
  have b3 := h1.hm2
  have b4 := h1.hm
  obtain ⟨s1, s2⟩ := h1.stands hi
  obtain ⟨rfl, _, hrow⟩ := h1.hA (by omega)
  have hcs := cells_of h1.hp
  obtain ⟨c0, c1, c2, fz⟩ := cells_of h1.hp
  obtain ⟨s, hs⟩ : ∃ s, s = stands at_ gap i := ⟨_, rfl⟩
  have hcell := hrow.cell s1
  rw [s2, ← hs] at hcell
  have HP : ∀ q : Nat, Calls Try.prog 27 #[.pointer (some ⟨p, 0, none⟩), .int .i64 i] (w1.drewN q) fun e w' => e = .returned (.int .i64 s) ∧ w1.drewN q = w' := by
    intro q; have := place_any (w1.drewN q) p m at_ gap (some ⟨g, 0, none⟩) (hcs.drewN q) i (by omega) (by omega); rwa [← hs] at this
  have HPP := Lib.hid HP
  rw [← hs] at s1
  have s3 : (s : Int) < (m : Int) := by omega
  clear HP hs s2 b4 h1 hrow hcs fz
  go_quiet ((go_at_call 27; exact quiet_left' (HPP.out _)))
  go_wp2_with fail
  go_ret2
  exact ⟨rfl, hd.trans ⟨_, rfl⟩⟩

set_option maxHeartbeats 800000 in
theorem at_bad (w : World) (B p n at_ : Nat) (l : Nat → Int) (h : Buf w B p n at_ l) (i : Int) (fi : Fits i) (hi : i < 0 ∨ (n : Int) ≤ i) :
    Calls Try.prog 14 #[.pointer (some ⟨p, 0, none⟩), .int .i64 i] w fun e w' => e = .returned (.tuple #[.int .i64 0, .int .i64 4]) ∧ Drawn w w' := by
  have hn := h.le.2.2
  have HC : ∀ W, Buf W B p n at_ l → Calls Try.prog 24 #[.pointer (some ⟨p, 0, none⟩), .int .i64 i, .int .i64 1] W fun e w' => e = .returned (.int .i64 4) ∧ Drawn W w' := by
    have hc : chkErr n i 1 = 4 := by unfold chkErr; rw [if_pos (by omega)]
    intro W hW; have := check_any W B p n at_ l hW i 1 fi ⟨by omega, by omega⟩; rwa [hc] at this
  have HCC := Lib.hid HC
  clear HC hi
  have HB := Lib.hid h
  clear h
  go_enter Try.func14, Try.ntmps14
  go_wp2_with fail
  refine (HCC.out w HB.out).mono ?_
  rintro e w1 ⟨rfl, hd⟩
  go_wp2_with fail
  go_ret2
  exact ⟨rfl, hd⟩

end GapI
end Go.Proofs.Ytiipogenknnilaa

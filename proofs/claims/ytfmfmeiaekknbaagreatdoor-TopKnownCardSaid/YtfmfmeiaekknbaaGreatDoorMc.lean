/-
  Contracts and plain laws that the walks of the top need, merged by a program out of one text a subject.
-/
import Derived.Test.YtfmfmeiaekknbaaGreatDoorRows
import Derived.Test.YtfmfmeiaekknbaaGreatDoorMa
import Derived.LoopTactic
import Derived.Outline
import Derived.Deep.QuietTactic
import Derived.BigQuiet
import Derived.StillTailTactics
import Derived.BigRegion
import Derived.Deep.RegionHeld3
import Derived.Test.YtfmfmeiaekknbaaGreatDoorMb
import Derived.Lib.JoinLaws
import Derived.Laws.EntriesVeiled
import Derived.Great.Walk
import Derived.Deep.RegionLaw
import Derived.WalkMore
import Derived.ScopeJumps
import Derived.WalkKit
import Derived.WalkLawsBesides
import Derived.WalkSpells
import Derived.Lib.MinMax
import Derived.Deep.WholeRow
import Derived.IntWalk
import Derived.RangeFuncBox
import Derived.RangeFuncWrites
import Derived.RangeFuncLeaves
import Derived.Shelf.Abstract
import Derived.OwnWalkIn
import Derived.TacticsInMore
import Derived.LoopNIn
import Derived.LoopIn
import Derived.Maps.AppendAt
import Derived.Shelf.SlIterI.Sorted
import Derived.Test.YtfmfmeiaekknbaaGreatDoorSortL
section
/-
  Contracts of package gaps at elements of type uint64.
-/
namespace Go.Proofs.YtfmfmeiaekknbaaGreatDoor
namespace GapU
open Go.RowKit
set_option linter.unusedVariables false

/-- The buffer's three cells. -/
def bufCells (A : Option Addr) (m at_ gap : Nat) : Nat → Value := fun j => if j = 0 then .slice A m m else if j = 1 then .int .i64 at_ else .int .i64 gap

/-- A buffer at p, its elements in block g: the list l of n elements, its gap at at_. -/
structure BG (w : World) (p g m n at_ gap : Nat) (A : Option Addr) (F : Nat → Value) (l : Nat → Int) : Prop where
  hp : w.rowIs p 126 3 (bufCells A m at_ gap)
  hA : 0 < m → A = some ⟨g, 0, none⟩ ∧ g ≠ p ∧ w.rowIs g 58 m F
  hm : m = n + gap
  hat : at_ ≤ n
  lo : ∀ j, j < at_ → F j = .int .u64 (l j)
  hi : ∀ j, at_ ≤ j → j < n → F (j + gap) = .int .u64 (l j)
  hn : n ≤ 4096
  hm2 : m ≤ 20000
  one : ∀ j, (F j).oneCell' = true

/-- The same; its memory lies from block B on. -/
def Buf (w : World) (B p n at_ : Nat) (l : Nat → Int) : Prop :=
  ∃ (g m gap : Nat) (A : Option Addr) (F : Nat → Value), BG w p g m n at_ gap A F l ∧ B ≤ p ∧ (0 < m → B ≤ g)

theorem Buf.le {w : World} {B p n at_ : Nat} {l : Nat → Int} (h : Buf w B p n at_ l) : B ≤ p ∧ at_ ≤ n ∧ n ≤ 4096 := by
  obtain ⟨g, m, gap, A, F, h1, h2, h3⟩ := h
  exact ⟨h2, h1.hat, h1.hn⟩
theorem BG.congr {w : World} {p g m n at_ gap : Nat} {A : Option Addr} {F : Nat → Value} {l l' : Nat → Int} (h : BG w p g m n at_ gap A F l) (e : ∀ j, j < n → l j = l' j) : BG w p g m n at_ gap A F l' :=
  ⟨h.hp, h.hA, h.hm, h.hat, fun j hj => by rw [h.lo j hj, e j (by have := h.hat; omega)], fun j a b => by rw [h.hi j a b, e j b], h.hn, h.hm2, h.one⟩
theorem Buf.congr {w : World} {B p n at_ : Nat} {l l' : Nat → Int} (h : Buf w B p n at_ l) (e : ∀ j, j < n → l j = l' j) : Buf w B p n at_ l' := by
  obtain ⟨g, m, gap, A, F, h1, h2, h3⟩ := h
  exact ⟨g, m, gap, A, F, h1.congr e, h2, h3⟩
theorem BG.keep {w w' : World} {p g m n at_ gap : Nat} {A : Option Addr} {F : Nat → Value} {l : Nat → Int} (h : BG w p g m n at_ gap A F l) (k1 : w'.heap[p]? = w.heap[p]?) (k2 : 0 < m → w'.heap[g]? = w.heap[g]?) : BG w' p g m n at_ gap A F l :=
  ⟨h.hp.of_block k1, fun hm => ⟨(h.hA hm).1, (h.hA hm).2.1, (h.hA hm).2.2.of_block (k2 hm)⟩, h.hm, h.hat, h.lo, h.hi, h.hn, h.hm2, h.one⟩
/-- Kept where the blocks of the buffer are kept. -/
theorem Buf.keep {w w' : World} {B p n at_ : Nat} {l : Nat → Int} (h : Buf w B p n at_ l) (k : ∀ b, B ≤ b → b < w.heap.size → w'.heap[b]? = w.heap[b]?) : Buf w' B p n at_ l := by
  obtain ⟨g, m, gap, A, F, h1, h2, h3⟩ := h
  exact ⟨g, m, gap, A, F, h1.keep (k p h2 h1.hp.lt) (fun hm => k g (h3 hm) (h1.hA hm).2.2.lt), h2, h3⟩
theorem Buf.below {w w' : World} {B p n at_ : Nat} {l : Nat → Int} (h : Buf w B p n at_ l) (hb : Below w.heap.size w w') : Buf w' B p n at_ l := h.keep fun b _ hb' => hb.block b hb'
theorem Buf.drawn {w w' : World} {B p n at_ : Nat} {l : Nat → Int} (h : Buf w B p n at_ l) (hd : Drawn w w') : Buf w' B p n at_ l := by obtain ⟨q, rfl⟩ := hd; exact h.keep fun _ _ _ => rfl
theorem BG.drawn {w w' : World} {p g m n at_ gap : Nat} {A : Option Addr} {F : Nat → Value} {l : Nat → Int} (h : BG w p g m n at_ gap A F l) (hd : Drawn w w') : BG w' p g m n at_ gap A F l := by obtain ⟨q, rfl⟩ := hd; exact h.keep rfl fun _ => rfl

/-- Nothing but blocks p and g, and new ones, has turned. -/
structure Only2 (w w' : World) (p g : Nat) : Prop where
  os : w'.os = w.os
  tape : w'.tape = w.tape
  output : w'.output = w.output
  size : w.heap.size ≤ w'.heap.size
  block : ∀ b, b < w.heap.size → b ≠ p → b ≠ g → w'.heap[b]? = w.heap[b]?
theorem Only2.refl (w : World) (p g : Nat) : Only2 w w p g := ⟨rfl, rfl, rfl, Nat.le_refl _, fun _ _ _ _ => rfl⟩
theorem Only2.trans {a b c : World} {p g g' : Nat} (h : Only2 a b p g) (k : Only2 b c p g') (e : g' = g ∨ g' = p ∨ a.heap.size ≤ g') : Only2 a c p g :=
  ⟨k.os.trans h.os, k.tape.trans h.tape, k.output.trans h.output, Nat.le_trans h.size k.size, fun x hx h1 h2 => (k.block x (Nat.lt_of_lt_of_le hx h.size) h1 (by omega)).trans (h.block x hx h1 h2)⟩
theorem Only2.of_only {a b : World} {p g q : Nat} (h : Only a b q) (hq : q = p ∨ q = g) : Only2 a b p g :=
  ⟨h.os, h.tape, h.output, h.size, fun x hx h1 h2 => h.block x hx (fun e => by injection e with e; omega)⟩
theorem Only2.of_drawn {a b : World} {p g : Nat} (h : Drawn a b) : Only2 a b p g := by obtain ⟨q, rfl⟩ := h; exact ⟨rfl, rfl, rfl, Nat.le_refl _, fun _ _ _ _ => rfl⟩
theorem Only2.drew {a b : World} {p g : Nat} (h : Only2 a b p g) : Only2 a b.drew p g := ⟨h.os, h.tape, h.output, h.size, h.block⟩
theorem Only2.drewN {a b : World} {p g : Nat} (h : Only2 a b p g) (n : Nat) : Only2 a (b.drewN n) p g := ⟨h.os, h.tape, h.output, h.size, h.block⟩
theorem Only2.drewL {a b : World} {p g : Nat} (h : Only2 a.drew b p g) : Only2 a b p g := ⟨h.os, h.tape, h.output, h.size, h.block⟩
theorem Only2.setCell {a b : World} {p g : Nat} (h : Only2 a b p g) (q i : Nat) (hq : q = p ∨ q = g ∨ a.heap.size ≤ q) (v : Value) : Only2 a (b.setCell ⟨q, i, none⟩ v) p g :=
  ⟨h.os, h.tape, h.output, by simpa [World.setCell] using h.size, fun x hx h1 h2 => (Below.heap_setCell b ⟨q, i, none⟩ v x (by show x ≠ q; omega)).trans (h.block x hx h1 h2)⟩
theorem Only2.alloc {a b : World} {p g : Nat} (h : Only2 a b p g) (o : Obj) : Only2 a (b.alloc o) p g :=
  ⟨h.os, h.tape, h.output, by have := h.size; simp; omega, fun x hx h1 h2 => (Below.heap_alloc b o x (Nat.lt_of_lt_of_le hx h.size)).trans (h.block x hx h1 h2)⟩
theorem Only2.below {a b : World} {p g B : Nat} (h : Only2 a b p g) (hp : B ≤ p) (hg : B ≤ g) (hs : B ≤ a.heap.size) : Below B a b :=
  ⟨h.os, h.tape, h.output, h.size, fun x hx => h.block x (by omega) (by omega) (by omega)⟩

/-- The cells of the buffer as the walk reads them. -/
structure Cells (w : World) (p m at_ gap : Nat) (A : Option Addr) : Prop where
  c0 : w.cell? ⟨p, 0, none⟩ = some (.slice A m m)
  c1 : w.cell? ⟨p, 1, none⟩ = some (.int .i64 at_)
  c2 : w.cell? ⟨p, 2, none⟩ = some (.int .i64 gap)
  fz : ∀ i, w.frozen? ⟨p, i, none⟩ = false
theorem Cells.drewN {w : World} {p m at_ gap : Nat} {A : Option Addr} (h : Cells w p m at_ gap A) (q : Nat) : Cells (w.drewN q) p m at_ gap A := ⟨h.c0, h.c1, h.c2, h.fz⟩
theorem cells_of {w : World} {p m at_ gap : Nat} {A : Option Addr} (h : w.rowIs p 126 3 (bufCells A m at_ gap)) : Cells w p m at_ gap A :=
  ⟨h.cell (i := 0) (by omega), h.cell (i := 1) (by omega), h.cell (i := 2) (by omega), fun i => h.frozen i⟩

set_option maxHeartbeats 400000 in
theorem len_any (w : World) (B p n at_ : Nat) (l : Nat → Int) (h : Buf w B p n at_ l) :
    Calls Tryz.prog 68 #[.pointer (some ⟨p, 0, none⟩)] w fun e w' => e = .returned (.int .i64 n) ∧ Drawn w w' := by
  obtain ⟨g, m, gap, A, F, h1, h2, h3⟩ := h
  obtain ⟨c0, c1, c2, fz⟩ := cells_of h1.hp
  have H4 := Lib.hid h1.hm
  have b1 : gap ≤ m := by have := H4.out; omega
  have b2 := h1.hm2
  clear fz h1 h3
  go_enter Tryz.func68, Tryz.ntmps68
  go_wp2_with fail
  go_quiet (fail)
  go_wp2_with fail
  go_ret
  exact ⟨ret_int (by have := H4.out; omega), ⟨_, rfl⟩⟩

/-- The error of check. -/
def chkErr (n : Nat) (i k : Int) : Int := if i < 0 ∨ k < 0 ∨ (n : Int) < i ∨ (n : Int) - i < k then 4 else 0

set_option maxHeartbeats 800000 in
theorem check_any (w : World) (B p n at_ : Nat) (l : Nat → Int) (h : Buf w B p n at_ l) (i k : Int) (hi : Fits i) (hk : Fits k) :
    Calls Tryz.prog 58 #[.pointer (some ⟨p, 0, none⟩), .int .i64 i, .int .i64 k] w fun e w' => e = .returned (.int .i64 (chkErr n i k)) ∧ Drawn w w' := by
  have HB := Lib.hid h
  have hn := h.le.2.2
  clear h
  obtain ⟨i1, i2⟩ := hi
  obtain ⟨k1, k2⟩ := hk
  by_cases d1 : i < 0
  · have H : Hid (4 = chkErr n i k) := by show _ = _; unfold chkErr; rw [if_pos (by omega)]
    go_enter Tryz.func58, Tryz.ntmps58
    go_wp2_with fail
    go_ret
    exact ⟨ret_int H.out, Drawn.refl _⟩
  · by_cases d2 : k < 0
    · have H : Hid (4 = chkErr n i k) := by show _ = _; unfold chkErr; rw [if_pos (by omega)]
      go_enter Tryz.func58, Tryz.ntmps58
      go_wp2_with fail
      go_ret
      exact ⟨ret_int H.out, Drawn.refl _⟩
    · by_cases d3 : (n : Int) < i
      · have H : Hid (4 = chkErr n i k) := by show _ = _; unfold chkErr; rw [if_pos (by omega)]
        go_enter Tryz.func58, Tryz.ntmps58
        go_wp2_with fail
        refine (len_any w B p n at_ l HB.out).mono ?_
        rintro e w1 ⟨rfl, hd⟩
        go_wp2_with fail
        go_ret
        exact ⟨ret_int H.out, hd⟩
      · by_cases d4 : (n : Int) - i < k
        · have H : Hid (4 = chkErr n i k) := by show _ = _; unfold chkErr; rw [if_pos (by omega)]
          go_enter Tryz.func58, Tryz.ntmps58
          go_wp2_with fail
          refine (len_any w B p n at_ l HB.out).mono ?_
          rintro e w1 ⟨rfl, hd⟩
          go_wp2_with fail
          refine (len_any w1 B p n at_ l (HB.out.drawn hd)).mono ?_
          rintro e w2 ⟨rfl, hd2⟩
          go_wp2_with fail
          go_ret
          exact ⟨ret_int H.out, hd.trans hd2⟩
        · have H : Hid (0 = chkErr n i k) := by show _ = _; unfold chkErr; rw [if_neg (by omega)]
          go_enter Tryz.func58, Tryz.ntmps58
          go_wp2_with fail
          refine (len_any w B p n at_ l HB.out).mono ?_
          rintro e w1 ⟨rfl, hd⟩
          go_wp2_with fail
          refine (len_any w1 B p n at_ l (HB.out.drawn hd)).mono ?_
          rintro e w2 ⟨rfl, hd2⟩
          go_wp2_with fail
          go_ret
          exact ⟨ret_int H.out, hd.trans hd2⟩

set_option maxHeartbeats 400000 in
theorem place_lt (w : World) (p m at_ gap : Nat) (A : Option Addr) (h : Cells w p m at_ gap A) (i : Nat) (hi : i < at_) :
    Calls Tryz.prog 59 #[.pointer (some ⟨p, 0, none⟩), .int .i64 i] w fun e w' => e = .returned (.int .i64 i) ∧ w = w' := by
  obtain ⟨c0, c1, c2, fz⟩ := h
  have hi' : (i : Int) < (at_ : Int) := by omega
  go_enter Tryz.func59, Tryz.ntmps59
  go_wp2_with fail
  go_ret
  exact ⟨rfl, rfl⟩
set_option maxHeartbeats 400000 in
theorem place_ge (w : World) (p m at_ gap : Nat) (A : Option Addr) (h : Cells w p m at_ gap A) (i : Nat) (hi : at_ ≤ i) (b1 : i ≤ 20000) (b2 : gap ≤ 20000) :
    Calls Tryz.prog 59 #[.pointer (some ⟨p, 0, none⟩), .int .i64 i] w fun e w' => e = .returned (.int .i64 (i + gap : Nat)) ∧ w = w' := by
  obtain ⟨c0, c1, c2, fz⟩ := h
  have hi' : (at_ : Int) ≤ (i : Int) := by omega
  go_enter Tryz.func59, Tryz.ntmps59
  go_wp2_with fail
  go_ret
  exact ⟨ret_int (by omega), rfl⟩

/-- Where element i stands. -/
def stands (at_ gap i : Nat) : Nat := if i < at_ then i else i + gap
theorem place_any (w : World) (p m at_ gap : Nat) (A : Option Addr) (h : Cells w p m at_ gap A) (i : Nat) (b1 : i ≤ 20000) (b2 : gap ≤ 20000) :
    Calls Tryz.prog 59 #[.pointer (some ⟨p, 0, none⟩), .int .i64 i] w fun e w' => e = .returned (.int .i64 (stands at_ gap i : Nat)) ∧ w = w' := by
  unfold stands
  by_cases hi : i < at_
  · rw [if_pos hi]; exact place_lt w p m at_ gap A h i hi
  · rw [if_neg hi]; exact place_ge w p m at_ gap A h i (by omega) b1 b2
theorem BG.stands {w : World} {p g m n at_ gap : Nat} {A : Option Addr} {F : Nat → Value} {l : Nat → Int} (h : BG w p g m n at_ gap A F l) {i : Nat} (hi : i < n) : stands at_ gap i < m ∧ F (stands at_ gap i) = .int .u64 (l i) := by
  have h1 := h.hm
  have h2 := h.hat
  unfold GapU.stands
  by_cases hx : i < at_
  · rw [if_pos hx]; exact ⟨by omega, h.lo i hx⟩
  · rw [if_neg hx]; exact ⟨by omega, h.hi i (by omega) hi⟩

set_option maxHeartbeats 800000 in
theorem at_ok (w : World) (B p n at_ : Nat) (l : Nat → Int) (h : Buf w B p n at_ l) (i : Nat) (hi : i < n) :
    Calls Tryz.prog 30 #[.pointer (some ⟨p, 0, none⟩), .int .i64 i] w fun e w' => e = .returned (.tuple #[.int .u64 (l i), .int .i64 0]) ∧ Drawn w w' := by
  have hc : chkErr n i 1 = 0 := by unfold chkErr; rw [if_neg (by omega)]
  have hn := h.le.2.2
  have HC : ∀ W, Buf W B p n at_ l → Calls Tryz.prog 58 #[.pointer (some ⟨p, 0, none⟩), .int .i64 i, .int .i64 1] W fun e w' => e = .returned (.int .i64 0) ∧ Drawn W w' := by
    intro W hW; have := check_any W B p n at_ l hW i 1 ⟨by omega, by omega⟩ ⟨by omega, by omega⟩; rwa [hc] at this
  have HCC := Lib.hid HC
  clear HC hc
  have HB := Lib.hid h
  clear h
  go_enter Tryz.func30, Tryz.ntmps30
  go_wp2_with fail
  refine (HCC.out w HB.out).mono ?_
  rintro e w1 ⟨rfl, hd⟩
  go_wp2_with fail
  obtain ⟨g, m, gap, A, F, h1, _, _⟩ := HB.out.drawn hd
  have b3 := h1.hm2
  have b4 := h1.hm
  obtain ⟨s1, s2⟩ := h1.stands hi
  obtain ⟨rfl, _, hrow⟩ := h1.hA (by omega)
  have hcs := cells_of h1.hp
  obtain ⟨c0, c1, c2, fz⟩ := cells_of h1.hp
  obtain ⟨s, hs⟩ : ∃ s, s = stands at_ gap i := ⟨_, rfl⟩
  have hcell := hrow.cell s1
  rw [s2, ← hs] at hcell
  have HP : ∀ q : Nat, Calls Tryz.prog 59 #[.pointer (some ⟨p, 0, none⟩), .int .i64 i] (w1.drewN q) fun e w' => e = .returned (.int .i64 s) ∧ w1.drewN q = w' := by
    intro q; have := place_any (w1.drewN q) p m at_ gap (some ⟨g, 0, none⟩) (hcs.drewN q) i (by omega) (by omega); rwa [← hs] at this
  have HPP := Lib.hid HP
  rw [← hs] at s1
  have s3 : (s : Int) < (m : Int) := by omega
  clear HP hs s2 b4 h1 hrow hcs fz
  go_quiet ((go_at_call 59; exact quiet_left' (HPP.out _)))
  go_wp2_with fail
  go_ret2
  exact ⟨rfl, hd.trans ⟨_, rfl⟩⟩

end GapU
end Go.Proofs.YtfmfmeiaekknbaaGreatDoor
end

section
/-
  Contracts of package gaps at elements of type uint64: what moves memory.
-/
namespace Go.Proofs.YtfmfmeiaekknbaaGreatDoor
namespace GapU
open Go.RowKit
set_option linter.unusedVariables false

theorem infoSize : (Tryz.prog.info? 58).map (·.size) = some 1 := by kernel_rfl
theorem zeroE (W : World) : (zeroValue 58).run Tryz.prog W = .ok (.int .u64 0) W := by kernel_rfl

/-- The row behind the moving of the gap. -/
def moved (F : Nat → Value) (at_ gap at' : Nat) : Nat → Value :=
  if at' < at_ then spliced F (at' + gap) (at_ - at') (fun j => F (at' + j)) else spliced F at_ (at' - at_) (fun j => F (at_ + gap + j))
theorem moved_lo {w : World} {p g m n at_ gap : Nat} {A : Option Addr} {F : Nat → Value} {l : Nat → Int} (h : BG w p g m n at_ gap A F l) {at' : Nat} (ha : at' ≤ n) : ∀ j, j < at' → moved F at_ gap at' j = .int .u64 (l j) := by
  intro j hj
  have hat := h.hat
  unfold moved
  by_cases c : at' < at_
  · rw [if_pos c]; unfold spliced; rw [if_neg (by omega)]; exact h.lo j (by omega)
  · rw [if_neg c]; unfold spliced
    by_cases d : j < at_
    · rw [if_neg (by omega)]; exact h.lo j d
    · rw [if_pos (by omega)]; show F (at_ + gap + (j - at_)) = _; rw [show at_ + gap + (j - at_) = j + gap from by omega]; exact h.hi j (by omega) (by omega)
theorem moved_hi {w : World} {p g m n at_ gap : Nat} {A : Option Addr} {F : Nat → Value} {l : Nat → Int} (h : BG w p g m n at_ gap A F l) {at' : Nat} (ha : at' ≤ n) : ∀ j, at' ≤ j → j < n → moved F at_ gap at' (j + gap) = .int .u64 (l j) := by
  intro j hj hn
  have hat := h.hat
  unfold moved
  by_cases c : at' < at_
  · rw [if_pos c]; unfold spliced
    by_cases d : j < at_
    · rw [if_pos (by omega)]; show F (at' + (j + gap - (at' + gap))) = _; rw [show at' + (j + gap - (at' + gap)) = j from by omega]; exact h.lo j d
    · rw [if_neg (by omega)]; exact h.hi j (by omega) hn
  · rw [if_neg c]; unfold spliced; rw [if_neg (by omega)]; exact h.hi j (by omega) hn
theorem spliced_one {f cs : Nat → Value} {off k : Nat} (h1 : ∀ j, (f j).oneCell' = true) (h2 : ∀ j, (cs j).oneCell' = true) : ∀ j, (spliced f off k cs j).oneCell' = true := by
  intro j; unfold spliced; split
  · exact h2 _
  · exact h1 _
/-- Places inside the gap don't matter. -/
theorem clear_lo {F : Nat → Value} {at' gap : Nat} {z : Value} {j : Nat} (hj : j < at') : spliced F at' gap (fun _ => z) j = F j := by unfold spliced; rw [if_neg (by omega)]
theorem clear_hi {F : Nat → Value} {at' gap : Nat} {z : Value} {j : Nat} (hj : at' ≤ j) : spliced F at' gap (fun _ => z) (j + gap) = F (j + gap) := by unfold spliced; rw [if_neg (by omega)]

theorem bufCells_at {A : Option Addr} {m at_ gap at' : Nat} : (fun j => if j = 1 then Value.int .i64 at' else bufCells A m at_ gap j) = bufCells A m at' gap := by
  funext j
  unfold bufCells
  by_cases h1 : j = 1
  · subst h1; simp
  · simp [h1]
/-- What bring leaves. -/
def BringPost (w : World) (p g m n at' gap : Nat) (A : Option Addr) (l : Nat → Int) (e : Ending) (w' : World) : Prop :=
  e = .returned (.tuple #[]) ∧ (∃ F', BG w' p g m n at' gap A F' l) ∧ Only2 w w' p g

set_option maxRecDepth 100000 in
set_option maxHeartbeats 1600000 in
theorem bring_any (w : World) (p g m n at_ gap : Nat) (A : Option Addr) (F : Nat → Value) (l : Nat → Int) (h : BG w p g m n at_ gap A F l) (at' : Nat) (ha : at' ≤ n) :
    Calls Tryz.prog 92 #[.pointer (some ⟨p, 0, none⟩), .int .i64 at'] w (BringPost w p g m n at' gap A l) := by
  have HB := Lib.hid h
  obtain ⟨c0, c1, c2, fz⟩ := cells_of h.hp
  have hm := h.hm
  have hm2 := h.hm2
  have hn := h.hn
  have hat := h.hat
  have HM := Lib.hid hm
  have b1 : gap ≤ m := by omega
  have b2 : at' + gap ≤ m := by omega
  have b3 : at_ + gap ≤ m := by omega
  clear h hm
  by_cases c : at' < at_
  · have mp : 0 < m := by have := HM.out; omega
    obtain ⟨rfl, hgp, hrow⟩ := HB.out.hA mp
    obtain ⟨w1, hcp, hrow1, ho1⟩ := copy_row (P := Tryz.prog) w.drew (dT := 76) (sT := 76) Tryz.underlying76 infoSize (show w.drew.rowIs g 58 m F from hrow) (at' + gap) (m - (at' + gap)) (m - (at' + gap))
      (B := w.heap.size) (A := some ⟨g, at', none⟩) (sLen := at_ - at') (sCap := m - at') (cs := fun j => F (at' + j))
      (fun _ => ⟨g, at', rfl, hrow.lt, fun j hj => hrow.cell (by omega)⟩) (fun j => HB.out.one _) (at_ - at') (by have := HM.out; simp only [Nat.min_def]; rw [if_pos (by omega)]) (by have := HM.out; omega)
    have ne1 : ¬ m = at' + gap := by have := HM.out; omega
    have ne2 : ¬ m = at' := by omega
    go_enter Tryz.func92, Tryz.ntmps92
    have plt : p < w.drew.heap.size := HB.out.hp.lt
    have hgp' : p ≠ g := fun e => hgp e.symm
    have q0 : w1.cell? ⟨p, 0, none⟩ = some (.slice (some ⟨g, 0, none⟩) m m) := (ho1.cell plt hgp' 0).trans c0
    have q1 : w1.cell? ⟨p, 1, none⟩ = some (.int .i64 at_) := (ho1.cell plt hgp' 1).trans c1
    have q2 : w1.cell? ⟨p, 2, none⟩ = some (.int .i64 gap) := (ho1.cell plt hgp' 2).trans c2
    have qz : ∀ i, w1.frozen? ⟨p, i, none⟩ = false := fun i => (ho1.frozen plt hgp' i).trans (fz i)
    have hp1 : w1.rowIs p 126 3 (bufCells (some ⟨g, 0, none⟩) m at_ gap) := ho1.row (show w.drew.rowIs p _ 3 _ from HB.out.hp) hgp'
    obtain ⟨w2, hcl, hrow2, ho2⟩ := clear_row (P := Tryz.prog) (w1.setCell ⟨p, 1, none⟩ (.int .i64 at')).drew Tryz.underlying76 zeroE rfl rfl (show (w1.setCell ⟨p, 1, none⟩ (.int .i64 at')).drew.rowIs g 58 m _ from hrow1.setOther hgp _)
      (some ⟨g, at', none⟩) at' gap (m - at') (fun _ => rfl) b2
    have hp2 : w2.rowIs p 126 3 (bufCells (some ⟨g, 0, none⟩) m at' gap) := ho2.row (by have := hp1.set 1 (.int .i64 (at' : Int)); rw [bufCells_at] at this; exact this) hgp'
    have H : BringPost w p g m n at' gap (some ⟨g, 0, none⟩) l (.returned (.tuple #[])) w2 := by
      refine ⟨rfl, ⟨_, hp2, fun _ => ⟨rfl, hgp, hrow2⟩, HM.out, ha, fun j hj => ?_, fun j h1 h2 => ?_, hn, hm2, spliced_one (spliced_one HB.out.one fun j => HB.out.one _) fun _ => rfl⟩, ?_⟩
      · rw [clear_lo hj]
        have := moved_lo HB.out ha j hj
        unfold moved at this; rwa [if_pos c] at this
      · rw [clear_hi h1]
        have := moved_hi HB.out ha j h1 h2
        unfold moved at this; rwa [if_pos c] at this
      · exact ((Only2.of_only ho1 (.inr rfl)).drewL.setCell p 1 (.inl rfl) _).drew.trans (Only2.of_only ho2 (.inr rfl)) (.inl rfl)
    have HH := Lib.hid H
    clear H hp1 hp2 hrow1 hrow2 ho1 ho2
    go_wp2_with fail
    go_region
    go_wp2_with fail
    clear hcp
    go_region
    go_wp2_with fail
    go_end0
    exact HH.out
  · by_cases c' : at_ < at'
    · have mp : 0 < m := by have := HM.out; omega
      obtain ⟨rfl, hgp, hrow⟩ := HB.out.hA mp
      obtain ⟨w1, hcp, hrow1, ho1⟩ := copy_row (P := Tryz.prog) w.drew (dT := 76) (sT := 76) Tryz.underlying76 infoSize (show w.drew.rowIs g 58 m F from hrow) at_ (m - at_) (m - at_)
        (B := w.heap.size) (A := some ⟨g, at_ + gap, none⟩) (sLen := at' + gap - (at_ + gap)) (sCap := m - (at_ + gap)) (cs := fun j => F (at_ + gap + j))
        (fun _ => ⟨g, at_ + gap, rfl, hrow.lt, fun j hj => hrow.cell (by omega)⟩) (fun j => HB.out.one _) (at' - at_) (by simp only [Nat.min_def]; rw [if_pos (by omega)]; omega) (by omega)
      have ne1 : ¬ m = at_ := by have := HM.out; omega
      have ne2 : ¬ m = at_ + gap := by have := HM.out; omega
      have cc : (at_ : Int) ≤ (at' : Int) := by omega
      have plt : p < w.drew.heap.size := HB.out.hp.lt
      have hgp' : p ≠ g := fun e => hgp e.symm
      have q0 : w1.cell? ⟨p, 0, none⟩ = some (.slice (some ⟨g, 0, none⟩) m m) := (ho1.cell plt hgp' 0).trans c0
      have q1 : w1.cell? ⟨p, 1, none⟩ = some (.int .i64 at_) := (ho1.cell plt hgp' 1).trans c1
      have q2 : w1.cell? ⟨p, 2, none⟩ = some (.int .i64 gap) := (ho1.cell plt hgp' 2).trans c2
      have qz : ∀ i, w1.frozen? ⟨p, i, none⟩ = false := fun i => (ho1.frozen plt hgp' i).trans (fz i)
      have hp1 : w1.rowIs p 126 3 (bufCells (some ⟨g, 0, none⟩) m at_ gap) := ho1.row (show w.drew.rowIs p _ 3 _ from HB.out.hp) hgp'
      have fin : ∀ X : Option Addr, (0 < gap → X = some ⟨g, at', none⟩) → ∃ w2, (∀ ty, (Builtin.clear_ #[76] ty #[.slice X gap (m - at')]).run Tryz.prog (w1.setCell ⟨p, 1, none⟩ (.int .i64 at')).drew = .ok (.tuple #[]) w2) ∧
          BringPost w p g m n at' gap (some ⟨g, 0, none⟩) l (.returned (.tuple #[])) w2 := by
        intro X hX
        obtain ⟨w2, hcl, hrow2, ho2⟩ := clear_row (P := Tryz.prog) (w1.setCell ⟨p, 1, none⟩ (.int .i64 at')).drew Tryz.underlying76 zeroE rfl rfl (show (w1.setCell ⟨p, 1, none⟩ (.int .i64 at')).drew.rowIs g 58 m _ from hrow1.setOther hgp _)
          X at' gap (m - at') hX b2
        have hp2 : w2.rowIs p 126 3 (bufCells (some ⟨g, 0, none⟩) m at' gap) := ho2.row (by have := hp1.set 1 (.int .i64 (at' : Int)); rw [bufCells_at] at this; exact this) hgp'
        refine ⟨w2, hcl, rfl, ⟨_, hp2, fun _ => ⟨rfl, hgp, hrow2⟩, HM.out, ha, fun j hj => ?_, fun j h1 h2 => ?_, hn, hm2, spliced_one (spliced_one HB.out.one fun j => HB.out.one _) fun _ => rfl⟩, ?_⟩
        · rw [clear_lo hj]
          have := moved_lo HB.out ha j hj
          unfold moved at this; rwa [if_neg c] at this
        · rw [clear_hi h1]
          have := moved_hi HB.out ha j h1 h2
          unfold moved at this; rwa [if_neg c] at this
        · exact ((Only2.of_only ho1 (.inr rfl)).drewL.setCell p 1 (.inl rfl) _).drew.trans (Only2.of_only ho2 (.inr rfl)) (.inl rfl)
      by_cases ne3 : m = at'
      · obtain ⟨w2, hcl, HB2⟩ := fin (some ⟨g, 0, none⟩) (fun hg => by have := HM.out; omega)
        have HH := Lib.hid HB2
        obtain rfl : gap = 0 := by have := HM.out; omega
        clear HB2 fin hp1 hrow1 ho1
        subst ne3
        simp only [Nat.add_zero, Nat.sub_self] at hcp hcl ne2 b3 b2
        go_enter Tryz.func92, Tryz.ntmps92
        go_wp2_with fail
        go_region
        go_wp2_with fail
        clear hcp
        go_region
        go_wp2_with fail
        go_end0
        exact HH.out
      · obtain ⟨w2, hcl, HB2⟩ := fin (some ⟨g, at', none⟩) (fun hg => rfl)
        have HH := Lib.hid HB2
        clear HB2 fin hp1 hrow1 ho1
        go_enter Tryz.func92, Tryz.ntmps92
        go_wp2_with fail
        go_region
        go_wp2_with fail
        clear hcp
        go_region
        go_wp2_with fail
        go_end0
        exact HH.out
    · obtain rfl : at_ = at' := by omega
      have hcp : ∀ (W : World) (dp sp : Option Addr) (dLen dCap sCap : Nat) ty, (Builtin.copy_ #[76, 76] ty #[.slice dp dLen dCap, .slice sp 0 sCap]).run Tryz.prog W = .ok (goInt 0) W :=
        fun W dp sp dLen dCap sCap => copy_nothing W Tryz.underlying76 infoSize dp sp dLen dCap 0 sCap (.inl rfl)
      by_cases m0 : m = 0
      · obtain rfl : gap = 0 := by omega
        obtain rfl : at_ = 0 := by omega
        subst m0
        have hcl : ∀ (W : World) (sp : Option Addr) (sCap : Nat) ty, (Builtin.clear_ #[76] ty #[.slice sp 0 sCap]).run Tryz.prog W = .ok (.tuple #[]) W := by
          intro W sp sCap ty
          rcases sp with _ | a <;> simp [Builtin.clear_, run_underlying Tryz.underlying76]
        have H : ∀ q, BringPost w p g 0 n 0 0 A l (.returned (.tuple #[])) ((w.setCell ⟨p, 1, none⟩ (.int .i64 0)).drewN q) := by
          intro q
          refine ⟨rfl, ⟨F, ?_, fun h => absurd h (by omega), HM.out, ha, HB.out.lo, HB.out.hi, hn, hm2, HB.out.one⟩, ((Only2.refl w p g).setCell p 1 (.inl rfl) _).drewN q⟩
          have := HB.out.hp.set 1 (.int .i64 ((0 : Nat) : Int))
          rw [bufCells_at] at this
          exact this
        have HH := Lib.hid H
        clear H
        go_enter Tryz.func92, Tryz.ntmps92
        go_wp2_with fail
        go_region
        go_wp2_with fail
        go_region
        go_wp2_with fail
        go_end0
        exact HH.out 2
      · obtain ⟨rfl, hgp, hrow⟩ := HB.out.hA (by omega)
        have plt : p < w.drew.heap.size := HB.out.hp.lt
        have hgp' : p ≠ g := fun e => hgp e.symm
        have hp1 : w.rowIs p 126 3 (bufCells (some ⟨g, 0, none⟩) m at_ gap) := HB.out.hp
        have fin : ∀ X : Option Addr, (0 < gap → X = some ⟨g, at_, none⟩) → ∃ w2, (∀ ty, (Builtin.clear_ #[76] ty #[.slice X gap (m - at_)]).run Tryz.prog (w.setCell ⟨p, 1, none⟩ (.int .i64 at_)).drew.drew = .ok (.tuple #[]) w2) ∧
            BringPost w p g m n at_ gap (some ⟨g, 0, none⟩) l (.returned (.tuple #[])) w2 := by
          intro X hX
          obtain ⟨w2, hcl, hrow2, ho2⟩ := clear_row (P := Tryz.prog) (w.setCell ⟨p, 1, none⟩ (.int .i64 at_)).drew.drew Tryz.underlying76 zeroE rfl rfl (show (w.setCell ⟨p, 1, none⟩ (.int .i64 at_)).drew.drew.rowIs g 58 m _ from hrow.setOther hgp _)
            X at_ gap (m - at_) hX b2
          have hp2 : w2.rowIs p 126 3 (bufCells (some ⟨g, 0, none⟩) m at_ gap) := ho2.row (by have := hp1.set 1 (.int .i64 (at_ : Int)); rw [bufCells_at] at this; exact this) hgp'
          refine ⟨w2, hcl, rfl, ⟨_, hp2, fun _ => ⟨rfl, hgp, hrow2⟩, HM.out, ha, fun j hj => ?_, fun j h1 h2 => ?_, hn, hm2, spliced_one HB.out.one fun _ => rfl⟩, ?_⟩
          · rw [clear_lo hj]; exact HB.out.lo j hj
          · rw [clear_hi h1]; exact HB.out.hi j h1 h2
          · exact ((Only2.refl w p g).setCell p 1 (.inl rfl) _).drew.drew.trans (Only2.of_only ho2 (.inr rfl)) (.inl rfl)
        by_cases ne3 : m = at_
        · obtain ⟨w2, hcl, HB2⟩ := fin (some ⟨g, 0, none⟩) (fun hg => by have := HM.out; omega)
          have HH := Lib.hid HB2
          obtain rfl : gap = 0 := by have := HM.out; omega
          clear HB2 fin hp1 hrow
          subst ne3
          simp only [Nat.sub_self] at hcl
          go_enter Tryz.func92, Tryz.ntmps92
          go_wp2_with fail
          go_region
          go_wp2_with fail
          clear hcp
          go_region
          go_wp2_with fail
          go_end0
          exact HH.out
        · obtain ⟨w2, hcl, HB2⟩ := fin (some ⟨g, at_, none⟩) (fun hg => rfl)
          have HH := Lib.hid HB2
          clear HB2 fin hp1 hrow
          by_cases ne4 : m = at_ + gap
          · subst ne4
            have e4 : at_ + gap - at_ = gap := by omega
            simp only [e4] at hcl
            go_enter Tryz.func92, Tryz.ntmps92
            go_wp2_with fail
            go_region
            go_wp2_with fail
            clear hcp
            go_region
            go_wp2_with fail
            go_end0
            exact HH.out
          · go_enter Tryz.func92, Tryz.ntmps92
            go_wp2_with fail
            go_region
            go_wp2_with fail
            clear hcp
            go_region
            go_wp2_with fail
            go_end0
            exact HH.out
end GapU
end Go.Proofs.YtfmfmeiaekknbaaGreatDoor
end

section
/-
  Contracts of package gaps at elements of type uint64: widen, Insert, Remove, List, New.
-/
namespace Go.Proofs.YtfmfmeiaekknbaaGreatDoor
namespace GapU
open Go.RowKit
set_option linter.unusedVariables false

theorem infoE : (Tryz.prog.info? 58).map (fun i => (i.zero, i.size, i.bytes)) = some (some (.int .u64 0), 1, 8) := by kernel_rfl
theorem make_e (n : Nat) (x : Int) (hx : x = (n : Int)) (hn : n ≤ 1000000) (W : World) :
    (Instr.makeSlice 76 (.int .i64 x) (.int .i64 x)).run Tryz.prog W = .ok (.slice (some ⟨W.heap.size, 0, none⟩) n n) (W.alloc (.cells (madeCells #[.int .u64 0] n) 58)) := by
  subst hx
  exact run_make_row' 76 58 (.int .u64 0) 8 Tryz.underlying76 infoE rfl .i64 .i64 n (by omega) (by omega) W

end GapU
end Go.Proofs.YtfmfmeiaekknbaaGreatDoor
end

section
/-
  Contracts of package gaps at elements of type uint64: widen, Insert, Remove, New.
-/
namespace Go.Proofs.YtfmfmeiaekknbaaGreatDoor
namespace GapU
open Go.RowKit
set_option linter.unusedVariables false

/-- What widen leaves. -/
def WidenPost (w : World) (p g n at_ k : Nat) (l : Nat → Int) (e : Ending) (w' : World) : Prop :=
  e = .returned (.tuple #[]) ∧ (∃ g' m' gap' A' F', BG w' p g' m' n at_ gap' A' F' l ∧ k ≤ gap' ∧ (g' = g ∨ w.heap.size ≤ g')) ∧ Only2 w w' p p

set_option maxRecDepth 100000 in
set_option maxHeartbeats 1600000 in
theorem widen_any (w : World) (p g m n at_ gap : Nat) (A : Option Addr) (F : Nat → Value) (l : Nat → Int) (h : BG w p g m n at_ gap A F l) (k : Nat) (hk : k ≤ 4096) :
    Calls Tryz.prog 93 #[.pointer (some ⟨p, 0, none⟩), .int .i64 k] w (WidenPost w p g n at_ k l) := by
  have HB := Lib.hid h
  obtain ⟨c0, c1, c2, fz⟩ := cells_of h.hp
  have hm2 := h.hm2
  have hn := h.hn
  have hat := h.hat
  have HM := Lib.hid h.hm
  have b0 : gap ≤ m := by have := HM.out; omega
  clear h
  by_cases ck : k ≤ gap
  · have H : WidenPost w p g n at_ k l (.returned (.tuple #[])) w := ⟨rfl, ⟨g, m, gap, A, F, HB.out, ck, .inl rfl⟩, Only2.refl _ _ _⟩
    have HH := Lib.hid H
    clear H
    go_enter Tryz.func93, Tryz.ntmps93
    go_wp2_with fail
    go_end0
    exact HH.out
  · obtain ⟨G, hG⟩ : ∃ G : Nat, G = k + m / 2 + 8 := ⟨_, rfl⟩
    have g1 : ((k : Int) + (m : Int) / 2 + 8) = (G : Int) := by omega
    have g2 : k ≤ G := by omega
    have g3 : n + G ≤ 20000 := by omega
    have g4 : G ≤ 20000 := by omega
    have HG := Lib.hid hG
    clear hG
    have HL := Lib.hid (show Buf w 0 p n at_ l from ⟨g, m, gap, A, F, HB.out, Nat.zero_le _, fun _ => Nat.zero_le _⟩)
    have ck' : ¬ (k : Int) ≤ (gap : Int) := by omega
    go_enter Tryz.func93, Tryz.ntmps93
    go_wp2_with fail
    refine (len_any w 0 p n at_ l HL.out).mono ?_
    rintro e w2 ⟨rfl, hd⟩
    have HBG := Lib.hid (HB.out.drawn hd)
    have hmk := make_e (n + G) ((n : Int) + (G : Int)) (by omega) (by omega)
    have d0 : w2.cell? ⟨p, 0, none⟩ = some (.slice A m m) := (hd.cell _).trans c0
    have d1 : w2.cell? ⟨p, 1, none⟩ = some (.int .i64 at_) := (hd.cell _).trans c1
    have d2 : w2.cell? ⟨p, 2, none⟩ = some (.int .i64 gap) := (hd.cell _).trans c2
    have dz : ∀ i, w2.frozen? ⟨p, i, none⟩ = false := fun i => HBG.out.hp.frozen i
    have plt : p < w2.heap.size := HBG.out.hp.lt
    have a1 : at_ ≤ m := by have := HM.out; omega
    have a2 : at_ + gap ≤ m := by have := HM.out; omega
    have k1 : Nat.min at_ (n + G) = at_ := by simp only [Nat.min_def]; rw [if_pos (by omega)]
    have k2 : m - (at_ + gap) = n - at_ := by have := HM.out; omega
    have hw : (w2.alloc (.cells (madeCells #[.int .u64 0] (n + G)) 58)).drew.heap.size = w2.heap.size + 1 := by simp
    have sees1 : Sees (w2.alloc (.cells (madeCells #[.int .u64 0] (n + G)) 58)).drew w2.heap.size A at_ F := by
      intro hp
      obtain ⟨rfl, _, hrow⟩ := HBG.out.hA (by omega)
      exact ⟨g, 0, rfl, hrow.lt, fun j hj => by rw [Nat.zero_add]; exact (hrow.alloc _).cell (by omega)⟩
    obtain ⟨w3, hcp, hrow3, ho3⟩ := copy_row (P := Tryz.prog) (w2.alloc (.cells (madeCells #[.int .u64 0] (n + G)) 58)).drew (dT := 76) (sT := 76) Tryz.underlying76 infoSize
      (show (w2.alloc (.cells (madeCells #[.int .u64 0] (n + G)) 58)).drew.rowIs w2.heap.size 58 (n + G) (fun _ => .int .u64 0) from World.rowIs_made w2 _ (n + G) _) 0 (n + G) (n + G)
      (B := w2.heap.size) (A := A) (sLen := at_) (sCap := m) (cs := F) sees1 HBG.out.one at_ k1.symm (by omega)
    have q0 : w3.cell? ⟨p, 0, none⟩ = some (.slice A m m) := (ho3.cell (by rw [hw]; omega) (by omega) 0).trans ((World.cell?_alloc_past _ p 0 plt).trans d0)
    have q1 : w3.cell? ⟨p, 1, none⟩ = some (.int .i64 at_) := (ho3.cell (by rw [hw]; omega) (by omega) 1).trans ((World.cell?_alloc_past _ p 1 plt).trans d1)
    have q2 : w3.cell? ⟨p, 2, none⟩ = some (.int .i64 gap) := (ho3.cell (by rw [hw]; omega) (by omega) 2).trans ((World.cell?_alloc_past _ p 2 plt).trans d2)
    have qz : ∀ i, w3.frozen? ⟨p, i, none⟩ = false := fun i => (ho3.frozen (by rw [hw]; omega) (by omega) i).trans ((World.frozen?_alloc_past _ p i plt).trans (dz i))
    have hp3 : w3.rowIs p 126 3 (bufCells A m at_ gap) := ho3.row (HBG.out.hp.alloc _) (by omega)
    have e3 : w2.heap.size ≤ w3.heap.size := by have := ho3.size; rw [hw] at this; omega
    have hb3 : Only2 w w3 p w2.heap.size := by
      have x1 : Only2 w (w2.alloc (.cells (madeCells #[.int .u64 0] (n + G)) 58)).drew p w2.heap.size := ((Only2.of_drawn hd).alloc _).drew
      exact x1.trans (Only2.of_only ho3 (.inr rfl)) (.inl rfl)
    -- the second copy: from at_ + G on
    have fin : ∀ X : Option Addr, (at_ < n → X = some ⟨g, at_ + gap, none⟩) → ∃ w4, (∀ ty, (Builtin.copy_ #[76, 76] ty #[.slice (some ⟨w2.heap.size, at_ + G, none⟩) (n + G - (at_ + G)) (n + G - (at_ + G)), .slice X (m - (at_ + gap)) (m - (at_ + gap))]).run Tryz.prog w3.drew = .ok (goInt (n - at_ : Nat)) w4) ∧
        w4.rowIs w2.heap.size 58 (n + G) (spliced (spliced (fun _ => .int .u64 0) 0 at_ F) (at_ + G) (n - at_) fun j => F (at_ + gap + j)) ∧ Only w3.drew w4 w2.heap.size := by
      intro X hX
      refine copy_row (P := Tryz.prog) w3.drew (dT := 76) (sT := 76) Tryz.underlying76 infoSize (show w3.drew.rowIs w2.heap.size 58 (n + G) _ from hrow3) (at_ + G) (n + G - (at_ + G)) (n + G - (at_ + G))
        (B := w2.heap.size) (A := X) (sLen := m - (at_ + gap)) (sCap := m - (at_ + gap)) (cs := fun j => F (at_ + gap + j)) ?_ (fun j => HBG.out.one _) (n - at_) (by rw [k2, show n + G - (at_ + G) = n - at_ from by omega]; simp only [Nat.min_def]; rw [if_pos (Nat.le_refl _)]) (by omega)
      intro hp
      have hlt : at_ < n := by omega
      obtain ⟨_, _, hrow⟩ := HBG.out.hA (by omega)
      have hrg : w3.rowIs g 58 m F := ho3.row (hrow.alloc _) (by have := hrow.lt; omega)
      exact ⟨g, at_ + gap, hX hlt, hrow.lt, fun j hj => hrg.cell (by omega)⟩
    have done : ∀ w4, w4.rowIs w2.heap.size 58 (n + G) (spliced (spliced (fun _ => .int .u64 0) 0 at_ F) (at_ + G) (n - at_) fun j => F (at_ + gap + j)) → Only w3.drew w4 w2.heap.size →
        WidenPost w p g n at_ k l (.returned (.tuple #[])) ((w4.setCell ⟨p, 0, none⟩ (.slice (some ⟨w2.heap.size, 0, none⟩) (n + G) (n + G))).setCell ⟨p, 2, none⟩ (.int .i64 G)) := by
      intro w4 hrow4 ho4
      have hp4 : w4.rowIs p 126 3 (bufCells A m at_ gap) := ho4.row (show w3.drew.rowIs p _ 3 _ from hp3) (by omega)
      refine ⟨rfl, ⟨w2.heap.size, n + G, G, some ⟨w2.heap.size, 0, none⟩, _, ⟨?_, fun _ => ⟨rfl, by omega, (hrow4.setOther (by show w2.heap.size ≠ p; omega) _).setOther (by show w2.heap.size ≠ p; omega) _⟩, rfl, hat, fun j hj => ?_, fun j h1 h2 => ?_, hn, by omega, ?_⟩, g2, .inr (by rw [hd.size]; exact Nat.le_refl _)⟩, ?_⟩
      · refine ((hp4.set 0 (.slice (some ⟨w2.heap.size, 0, none⟩) (n + G) (n + G))).set 2 (.int .i64 (G : Int))).congr (fun j hj => ?_)
        match j, hj with
        | 0, _ => rfl
        | 1, _ => rfl
        | 2, _ => rfl
      · unfold spliced
        rw [if_neg (by omega), if_pos (by omega)]
        exact HBG.out.lo j hj
      · unfold spliced
        rw [if_pos (by omega)]
        show F (at_ + gap + (j + G - (at_ + G))) = _
        rw [show at_ + gap + (j + G - (at_ + G)) = j + gap from by omega]
        exact HBG.out.hi j h1 h2
      · exact spliced_one (spliced_one (fun _ => rfl) HBG.out.one) fun j => HBG.out.one _
      · have x := hb3.trans (Only2.of_only ho4 (.inr rfl)).drewL (.inr (.inr (by rw [hd.size]; exact Nat.le_refl _)))
        have y := (x.setCell p 0 (.inl rfl) (.slice (some ⟨w2.heap.size, 0, none⟩) (n + G) (n + G))).setCell p 2 (.inl rfl) (.int .i64 (G : Int))
        exact ⟨y.os, y.tape, y.output, y.size, fun b hb h1 _ => y.block b hb h1 (by rw [hd.size]; omega)⟩
    have done0 : n = at_ → WidenPost w p g n at_ k l (.returned (.tuple #[])) ((w3.drew.setCell ⟨p, 0, none⟩ (.slice (some ⟨w2.heap.size, 0, none⟩) (n + G) (n + G))).setCell ⟨p, 2, none⟩ (.int .i64 G)) := by
      intro e
      refine done w3.drew (World.rowIs.drew (hrow3.congr fun j hj => ?_)) (Only.refl _ _)
      unfold spliced
      rw [if_neg (show ¬ (at_ + G ≤ j ∧ j < at_ + G + (n - at_)) by omega)]
    have HDONE := Lib.hid done
    have HDONE0 := Lib.hid done0
    have HO3 := Lib.hid ho3
    clear done done0 hrow3 hp3 hb3 hw k1 sees1 ho3
    by_cases e1 : n = at_
    · subst e1
      -- nothing stands behind the gap
      have HD := Lib.hid (HDONE0.out rfl)
      obtain rfl : m = n + gap := HM.out
      have hcn : ∀ (W : World) (dp sp : Option Addr) (dLen dCap sCap : Nat) ty, (Builtin.copy_ #[76, 76] ty #[.slice dp dLen dCap, .slice sp 0 sCap]).run Tryz.prog W = .ok (goInt 0) W :=
        fun W dp sp dLen dCap sCap => copy_nothing W Tryz.underlying76 infoSize dp sp dLen dCap 0 sCap (.inl rfl)
      clear fin HDONE HDONE0 k2
      go_wp2_with fail
      clear hmk
      go_region
      go_wp2_with fail
      clear hcp
      go_region
      go_wp2_with fail
      go_end0
      exact HD.out
    · have hA := HBG.out.hA (by omega)
      obtain ⟨rfl, hgp, _⟩ := hA
      obtain ⟨w4, hcp2, hr4, ho4⟩ := fin (some ⟨g, at_ + gap, none⟩) (fun _ => rfl)
      have HD := Lib.hid (HDONE.out w4 hr4 ho4)
      have hw3 : w3.drew.heap.size = w3.heap.size := rfl
      have r0 : w4.cell? ⟨p, 0, none⟩ = some (.slice (some ⟨g, 0, none⟩) m m) := (ho4.cell (by rw [hw3]; omega) (by omega) 0).trans q0
      have r2 : w4.cell? ⟨p, 2, none⟩ = some (.int .i64 gap) := (ho4.cell (by rw [hw3]; omega) (by omega) 2).trans q2
      have rz : ∀ i, w4.frozen? ⟨p, i, none⟩ = false := fun i => (ho4.frozen (by rw [hw3]; omega) (by omega) i).trans (qz i)
      have ne1 : ¬ n + G = at_ + G := by omega
      have ne2 : ¬ m = at_ + gap := by have := HM.out; omega
      clear hr4 ho4 fin HDONE HDONE0 hw3 k2
      go_wp2_with fail
      clear hmk
      go_region
      go_wp2_with fail
      clear hcp
      go_region
      go_wp2_with fail
      go_end0
      exact HD.out
end GapU
end Go.Proofs.YtfmfmeiaekknbaaGreatDoor
end

section
/-
  Contracts of package gaps at elements of type uint64: Insert, Remove, Move, New.
-/
namespace Go.Proofs.YtfmfmeiaekknbaaGreatDoor
namespace GapU
open Go.RowKit
set_option linter.unusedVariables false

/-- The list with k elements more, from place i on. -/
def ins (l : Nat → Int) (i k : Nat) (f : Nat → Int) : Nat → Int := fun j => if j < i then l j else if j < i + k then f (j - i) else l (j - k)
/-- The list without k elements. -/
def rem (l : Nat → Int) (i k : Nat) : Nat → Int := fun j => if j < i then l j else l (j + k)

theorem chk_ok {n i k : Nat} (h : i + k ≤ n) : chkErr n i k = 0 := by unfold chkErr; rw [if_neg (by omega)]

/-- check on a range that there is. -/
theorem check_ok (w : World) (B p n at_ : Nat) (l : Nat → Int) (h : Buf w B p n at_ l) (i k : Nat) (hi : i + k ≤ n) :
    Calls Tryz.prog 58 #[.pointer (some ⟨p, 0, none⟩), .int .i64 i, .int .i64 k] w fun e w' => e = .returned (.int .i64 0) ∧ Drawn w w' := by
  have hn := h.le.2.2
  have := check_any w B p n at_ l h i k ⟨by omega, by omega⟩ ⟨by omega, by omega⟩
  rwa [chk_ok hi] at this
theorem BG.buf0 {w : World} {p g m n at_ gap : Nat} {A : Option Addr} {F : Nat → Value} {l : Nat → Int} (h : BG w p g m n at_ gap A F l) : Buf w 0 p n at_ l := ⟨g, m, gap, A, F, h, Nat.zero_le _, fun _ => Nat.zero_le _⟩

/-- What Insert leaves. -/
def InsPost (w : World) (p g n i k : Nat) (l' : Nat → Int) (e : Ending) (w' : World) : Prop :=
  e = .returned (.int .i64 0) ∧ (∃ g' m' gap' A' F', BG w' p g' m' (n + k) (i + k) gap' A' F' l' ∧ (g' = g ∨ w.heap.size ≤ g')) ∧ Only2 w w' p g

set_option maxRecDepth 100000 in
set_option maxHeartbeats 1600000 in
theorem insert_raw (w : World) (p g m n at_ gap : Nat) (A : Option Addr) (F : Nat → Value) (l : Nat → Int) (h : BG w p g m n at_ gap A F l) (i k : Nat) (x : Int) (hx : x = (i : Int)) (hi : i ≤ n) (hk : 0 < k) (hnk : n + k ≤ 4096)
    (b o c' : Nat) (f : Nat → Int) (hb : b < w.heap.size) (hbp : b ≠ p) (hbg : b ≠ g) (hc : ∀ j, j < k → w.cell? ⟨b, o + j, none⟩ = some (.int .u64 (f j))) :
    Calls Tryz.prog 57 #[.pointer (some ⟨p, 0, none⟩), .int .i64 x, .slice (some ⟨b, o, none⟩) k c'] w (InsPost w p g n i k (ins l i k f)) := by
  subst hx
  have HB := Lib.hid h
  clear h
  have hne : ((k : Int) == 0) = false := by simp; omega
  have HC := Lib.hid hc
  clear hc
  go_enter Tryz.func57, Tryz.ntmps57
  go_wp2_with fail
  refine (check_ok w 0 p n at_ l HB.out.buf0 i 0 (by omega)).mono ?_
  rintro e w1 ⟨rfl, hd1⟩
  go_wp2_with fail
  refine (len_any w1 0 p n at_ l (HB.out.drawn hd1).buf0).mono ?_
  rintro e w2 ⟨rfl, hd2⟩
  have hd := hd1.trans hd2
  have h2 := HB.out.drawn hd
  have HB2 := Lib.hid h2
  clear h2 hd1 hd2
  go_wp2_with fail
  refine (bring_any w2 p g m n at_ gap A F l HB2.out i hi).mono ?_
  rintro e w3 ⟨rfl, ⟨F3, h3⟩, o3⟩
  have HB3 := Lib.hid h3
  have HO3 := Lib.hid o3
  clear h3 o3
  go_wp2_with fail
  refine (widen_any w3 p g m n i gap A F3 l HB3.out k (by omega)).mono ?_
  rintro e w4 ⟨rfl, ⟨g4, m4, gap4, A4, F4, h4, hgap, hg4⟩, o4⟩
  have b0 : gap4 ≤ m4 := by have := h4.hm; omega
  have b1 : n + gap4 = m4 := h4.hm.symm
  have b2 := h4.hm2
  obtain ⟨rfl, hgp, hrow⟩ := h4.hA (by omega)
  obtain ⟨c0, c1, c2, fz⟩ := cells_of h4.hp
  have hbs : b < w4.heap.size := by have := HO3.out.size; have := o4.size; rw [hd.size] at *; omega
  have s2 : w2.heap.size = w.heap.size := hd.size
  have hcell : ∀ j, j < k → w4.cell? ⟨b, o + j, none⟩ = some (.int .u64 (f j)) := by
    intro j hj
    have e4 : w4.heap[b]? = w3.heap[b]? := o4.block b (by have := HO3.out.size; omega) hbp hbp
    have e3 : w3.heap[b]? = w2.heap[b]? := HO3.out.block b (by omega) hbp hbg
    have := HC.out j hj
    rw [← hd.cell] at this
    rw [World.cell?_of_block (w := w3) (a := ⟨b, o + j, none⟩) e4, World.cell?_of_block (w := w2) (a := ⟨b, o + j, none⟩) e3]
    exact this
  have hbg4 : b ≠ g4 := by
    rcases hg4 with e | e
    · rw [e]; exact hbg
    · have := HO3.out.size; omega
  obtain ⟨w5, hcp, hrow5, ho5⟩ := copy_row (P := Tryz.prog) w4.drew (dT := 76) (sT := 76) Tryz.underlying76 infoSize (show w4.drew.rowIs g4 58 m4 F4 from hrow) i (m4 - i) (m4 - i)
    (B := w4.heap.size) (A := some ⟨b, o, none⟩) (sLen := k) (sCap := c') (cs := fun j => .int .u64 (f j)) (fun _ => ⟨b, o, rfl, hbs, fun j hj => hcell j hj⟩) (fun _ => rfl) k (by simp only [Nat.min_def]; rw [if_pos (by omega)]) (by omega)
  have plt : p < w4.drew.heap.size := h4.hp.lt
  have hgp' : p ≠ g4 := fun e => hgp e.symm
  have q0 : w5.cell? ⟨p, 0, none⟩ = some (.slice (some ⟨g4, 0, none⟩) m4 m4) := (ho5.cell plt hgp' 0).trans c0
  have q1 : w5.cell? ⟨p, 1, none⟩ = some (.int .i64 i) := (ho5.cell plt hgp' 1).trans c1
  have q2 : w5.cell? ⟨p, 2, none⟩ = some (.int .i64 gap4) := (ho5.cell plt hgp' 2).trans c2
  have qz : ∀ i, w5.frozen? ⟨p, i, none⟩ = false := fun i => (ho5.frozen plt hgp' i).trans (fz i)
  have hp5 : w5.rowIs p 126 3 (bufCells (some ⟨g4, 0, none⟩) m4 i gap4) := ho5.row (show w4.drew.rowIs p _ 3 _ from h4.hp) hgp'
  have fin : InsPost w p g n i k (ins l i k f) (.returned (.int .i64 0)) ((w5.setCell ⟨p, 1, none⟩ (.int .i64 ((i : Int) + (k : Int)))).setCell ⟨p, 2, none⟩ (.int .i64 ((gap4 : Int) - (k : Int)))) := by
    have hg40 : g4 = g ∨ w.heap.size ≤ g4 := by
      rcases hg4 with e | e
      · exact .inl e
      · right; have := HO3.out.size; omega
    refine ⟨rfl, ⟨g4, m4, gap4 - k, some ⟨g4, 0, none⟩, _, ⟨?_, fun _ => ⟨rfl, hgp, (hrow5.setOther (by show g4 ≠ p; exact hgp) _).setOther (by show g4 ≠ p; exact hgp) _⟩, by omega, by omega, fun j hj => ?_, fun j h1 h2 => ?_, hnk, b2, ?_⟩, hg40⟩, ?_⟩
    · refine ((hp5.set 1 (.int .i64 ((i : Int) + (k : Int)))).set 2 (.int .i64 ((gap4 : Int) - (k : Int)))).congr (fun j hj => ?_)
      match j, hj with
      | 0, _ => rfl
      | 1, _ => show Value.int .i64 ((i : Int) + (k : Int)) = .int .i64 ((i + k : Nat) : Int); rw [Int.natCast_add]
      | 2, _ => show Value.int .i64 ((gap4 : Int) - (k : Int)) = .int .i64 ((gap4 - k : Nat) : Int); congr 1; omega
    · unfold spliced ins
      by_cases d : j < i
      · rw [if_neg (by omega), if_pos d]; exact h4.lo j d
      · rw [if_pos (by omega), if_neg d, if_pos hj]
    · unfold spliced ins
      rw [if_neg (by omega), if_neg (by omega), if_neg (by omega), show j + (gap4 - k) = j - k + gap4 from by omega]
      exact h4.hi (j - k) (by omega) (by omega)
    · exact spliced_one h4.one fun _ => rfl
    · have x2 : Only2 w w3 p g := (Only2.of_drawn hd).trans HO3.out (.inl rfl)
      have x3 : Only2 w w4 p g := x2.trans o4 (.inr (.inl rfl))
      have x4 : Only2 w w5 p g := by
        rcases hg40 with e | e
        · subst e; exact x3.trans (Only2.of_only ho5 (.inr rfl)).drewL (.inl rfl)
        · exact x3.trans (Only2.of_only (p := p) (g := g4) ho5 (.inr rfl)).drewL (.inr (.inr e))
      exact (x4.setCell p 1 (.inl rfl) _).setCell p 2 (.inl rfl) _
  have HH := Lib.hid fin
  have ne1 : ¬ m4 = i := by omega
  have j1 : (i : Int) + (k : Int) ≤ 4096 := by omega
  have j2 : (0 : Int) ≤ (gap4 : Int) - (k : Int) := by omega
  have j3 : i ≤ m4 := by omega
  clear fin hrow hrow5 ho5 hp5 o4 hcell b1
  go_wp2_with fail
  go_region
  go_wp2_with fail
  go_ret
  exact HH.out

theorem BG.zero_g {w : World} {p g n at_ gap : Nat} {A : Option Addr} {F : Nat → Value} {l : Nat → Int} (h : BG w p g 0 n at_ gap A F l) : BG w p p 0 n at_ gap A F l :=
  ⟨h.hp, fun h => absurd h (by omega), h.hm, h.hat, h.lo, h.hi, h.hn, h.hm2, h.one⟩
/-- A buffer by its blocks, both at B or above. -/
theorem Buf.open_ {w : World} {B p n at_ : Nat} {l : Nat → Int} (h : Buf w B p n at_ l) : ∃ g m gap A F, BG w p g m n at_ gap A F l ∧ B ≤ p ∧ B ≤ g ∧ g < w.heap.size := by
  obtain ⟨g, m, gap, A, F, h1, h2, h3⟩ := h
  by_cases m0 : 0 < m
  · exact ⟨g, m, gap, A, F, h1, h2, h3 m0, (h1.hA m0).2.2.lt⟩
  · obtain rfl : m = 0 := by omega
    exact ⟨p, 0, gap, A, F, h1.zero_g, h2, h2, h1.hp.lt⟩

/-- What a change of the buffer leaves. -/
def ChgPost (w : World) (B p n' at' : Nat) (l' : Nat → Int) (e : Ending) (w' : World) : Prop :=
  e = .returned (.int .i64 0) ∧ Buf w' B p n' at' l' ∧ Below B w w'

/-- Insert, the source apart from the buffer's blocks. -/
theorem insert_ok (w : World) (B p n at_ : Nat) (l : Nat → Int) (h : Buf w B p n at_ l) (i k : Nat) (x : Int) (hx : x = (i : Int)) (hi : i ≤ n) (hk : 0 < k) (hnk : n + k ≤ 4096) (A' : Option Addr) (c' : Nat) (f : Nat → Int)
    (hs : Sees w B A' k fun j => .int .u64 (f j)) :
    Calls Tryz.prog 57 #[.pointer (some ⟨p, 0, none⟩), .int .i64 x, .slice A' k c'] w (ChgPost w B p (n + k) (i + k) (ins l i k f)) := by
  obtain ⟨g, m, gap, A, F, h1, h2, h3, h4⟩ := h.open_
  obtain ⟨b, o, rfl, hb, hc⟩ := hs hk
  have plt := h1.hp.lt
  refine (insert_raw w p g m n at_ gap A F l h1 i k x hx hi hk hnk b o c' f (by omega) (by omega) (by omega) hc).mono ?_
  rintro e w' ⟨rfl, ⟨g', m', gap', A'', F', q1, q2⟩, q3⟩
  exact ⟨rfl, ⟨g', m', gap', A'', F', q1, h2, fun _ => by omega⟩, q3.below h2 h3 (by omega)⟩

set_option maxHeartbeats 800000 in
theorem insert_none (w : World) (B p n at_ : Nat) (l : Nat → Int) (h : Buf w B p n at_ l) (i : Nat) (x : Int) (hx : x = (i : Int)) (hi : i ≤ n) (A' : Option Addr) (c' : Nat) :
    Calls Tryz.prog 57 #[.pointer (some ⟨p, 0, none⟩), .int .i64 x, .slice A' 0 c'] w fun e w' => e = .returned (.int .i64 0) ∧ Drawn w w' := by
  subst hx
  have HB := Lib.hid h
  have hn := h.le.2.2
  clear h
  go_enter Tryz.func57, Tryz.ntmps57
  go_wp2_with fail
  refine (check_ok w B p n at_ l HB.out i 0 (by omega)).mono ?_
  rintro e w1 ⟨rfl, hd1⟩
  go_wp2_with fail
  refine (len_any w1 B p n at_ l (HB.out.drawn hd1)).mono ?_
  rintro e w2 ⟨rfl, hd2⟩
  go_wp2_with fail
  go_ret
  exact ⟨rfl, hd1.trans hd2⟩
end GapU
end Go.Proofs.YtfmfmeiaekknbaaGreatDoor
end

section
/-
  Contracts of package gaps at elements of type uint64: Remove, Move, New.
-/
namespace Go.Proofs.YtfmfmeiaekknbaaGreatDoor
namespace GapU
open Go.RowKit
set_option linter.unusedVariables false

/-- What Remove leaves, by the blocks. -/
def RemPost (w : World) (p g m n i k gap : Nat) (A : Option Addr) (l' : Nat → Int) (e : Ending) (w' : World) : Prop :=
  e = .returned (.int .i64 0) ∧ (∃ F', BG w' p g m (n - k) i (gap + k) A F' l') ∧ Only2 w w' p g

set_option maxRecDepth 100000 in
set_option maxHeartbeats 1600000 in
theorem remove_raw (w : World) (p g m n at_ gap : Nat) (A : Option Addr) (F : Nat → Value) (l : Nat → Int) (h : BG w p g m n at_ gap A F l) (i k : Nat) (hk : 0 < k) (hi : i + k ≤ n) :
    Calls Tryz.prog 69 #[.pointer (some ⟨p, 0, none⟩), .int .i64 i, .int .i64 k] w (RemPost w p g m n i k gap A (rem l i k)) := by
  have HB := Lib.hid h
  have hn := h.hn
  clear h
  have hne : ((k : Int) == 0) = false := by simp; omega
  go_enter Tryz.func69, Tryz.ntmps69
  go_wp2_with fail
  refine (check_ok w 0 p n at_ l HB.out.buf0 i k hi).mono ?_
  rintro e w1 ⟨rfl, hd⟩
  have HB1 := Lib.hid (HB.out.drawn hd)
  go_wp2_with fail
  refine (bring_any w1 p g m n at_ gap A F l HB1.out i (by omega)).mono ?_
  rintro e w3 ⟨rfl, ⟨F3, h3⟩, o3⟩
  have hm := h3.hm
  have hm2 := h3.hm2
  obtain ⟨rfl, hgp, hrow⟩ := h3.hA (by omega)
  obtain ⟨c0, c1, c2, fz⟩ := cells_of h3.hp
  obtain ⟨w4, hcl, hrow4, ho4⟩ := clear_row (P := Tryz.prog) w3.drew Tryz.underlying76 zeroE rfl rfl (show w3.drew.rowIs g 58 m F3 from hrow) (some ⟨g, i + gap, none⟩) (i + gap) k (m - (i + gap)) (fun _ => rfl) (by omega)
  have plt : p < w3.drew.heap.size := h3.hp.lt
  have hgp' : p ≠ g := fun e => hgp e.symm
  have q0 : w4.cell? ⟨p, 0, none⟩ = some (.slice (some ⟨g, 0, none⟩) m m) := (ho4.cell plt hgp' 0).trans c0
  have q1 : w4.cell? ⟨p, 1, none⟩ = some (.int .i64 i) := (ho4.cell plt hgp' 1).trans c1
  have q2 : w4.cell? ⟨p, 2, none⟩ = some (.int .i64 gap) := (ho4.cell plt hgp' 2).trans c2
  have qz : ∀ i, w4.frozen? ⟨p, i, none⟩ = false := fun i => (ho4.frozen plt hgp' i).trans (fz i)
  have hp4 : w4.rowIs p 126 3 (bufCells (some ⟨g, 0, none⟩) m i gap) := ho4.row (show w3.drew.rowIs p _ 3 _ from h3.hp) hgp'
  have fin : RemPost w p g m n i k gap (some ⟨g, 0, none⟩) (rem l i k) (.returned (.int .i64 0)) (w4.setCell ⟨p, 2, none⟩ (.int .i64 ((gap : Int) + (k : Int)))) := by
    refine ⟨rfl, ⟨_, ⟨?_, fun _ => ⟨rfl, hgp, hrow4.setOther (by show g ≠ p; exact hgp) _⟩, by omega, by omega, fun j hj => ?_, fun j h1 h2 => ?_, by omega, hm2, ?_⟩⟩, ?_⟩
    · refine (hp4.set 2 (.int .i64 ((gap : Int) + (k : Int)))).congr (fun j hj => ?_)
      match j, hj with
      | 0, _ => rfl
      | 1, _ => rfl
      | 2, _ => show Value.int .i64 ((gap : Int) + (k : Int)) = .int .i64 ((gap + k : Nat) : Int); rw [Int.natCast_add]
    · unfold spliced rem
      rw [if_neg (by omega), if_pos hj]; exact h3.lo j hj
    · unfold spliced rem
      rw [if_neg (by omega), if_neg (by omega), show j + (gap + k) = j + k + gap from by omega]
      exact h3.hi (j + k) (by omega) (by omega)
    · exact spliced_one h3.one fun _ => rfl
    · exact (((Only2.of_drawn hd).trans o3 (.inl rfl)).trans (Only2.of_only ho4 (.inr rfl)).drewL (.inl rfl)).setCell p 2 (.inl rfl) _
  have HH := Lib.hid fin
  have ne1 : ¬ m = i + gap := by omega
  have e1 : i + gap + k - (i + gap) = k := by omega
  have j1 : i + gap + k ≤ m := by omega
  have E1 := e1
  clear fin hrow hrow4 ho4 hp4 o3 hm h3
  go_wp2_with fail
  go_region
  go_wp2_with fail
  go_ret
  exact HH.out

/-! ### Move -/
/-- The elements that are taken so far. -/
def takenTo (l : Nat → Int) (i r : Nat) : Nat → Value := fun j => if j < r then .int .u64 (l (i + j)) else .int .u64 0

set_option maxRecDepth 100000 in
set_option maxHeartbeats 1600000 in
theorem move_raw (w : World) (p g m n at_ gap : Nat) (A : Option Addr) (F : Nat → Value) (l : Nat → Int) (h : BG w p g m n at_ gap A F l) (hgl : g < w.heap.size) (i k t : Nat) (hk : 0 < k) (hi : i + k ≤ n) (ht : t + k ≤ n) :
    Calls Tryz.prog 36 #[.pointer (some ⟨p, 0, none⟩), .int .i64 i, .int .i64 k, .int .i64 t] w (InsPost w p g (n - k) t k (ins (rem l i k) t k fun j => l (i + j))) := by
  have HB := Lib.hid h
  have hn := h.hn
  clear h
  have hne : ((k : Int) == 0) = false := by simp; omega
  have htk : ¬ (n : Int) - (k : Int) < (t : Int) := by omega
  go_enter Tryz.func36, Tryz.ntmps36
  go_wp2_with fail
  refine (check_ok w 0 p n at_ l HB.out.buf0 i k hi).mono ?_
  rintro e w1 ⟨rfl, hd1⟩
  go_wp2_with fail
  refine (len_any w1 0 p n at_ l (HB.out.drawn hd1).buf0).mono ?_
  rintro e w2 ⟨rfl, hd2⟩
  have hd := hd1.trans hd2
  have HB2 := Lib.hid (HB.out.drawn hd)
  have hmk := make_e k k rfl (by omega)
  clear hd1 hd2
  go_wp2_with fail
  clear hmk
  obtain ⟨s, hs⟩ : ∃ s, s = w2.heap.size := ⟨_, rfl⟩
  go_loopw [35] (fun c wr => ∃ r : Nat, r ≤ k ∧ c = .int .i64 r ∧ wr.rowIs w2.heap.size 58 k (takenTo l i r) ∧ Below w2.heap.size w2 wr) (fun c _ => k - (intOf c).toNat)
  case atStart =>
    refine ⟨0, Nat.zero_le _, rfl, (World.rowIs_made w2 _ k _).congr (fun j hj => ?_), (Below.refl _ _).alloc (Nat.le_refl _) _⟩
    unfold takenTo
    rw [if_neg (by omega)]
  case round =>
    obtain ⟨r, hr, rfl, hrow, hb⟩ := hrel
    by_cases hlt : r < k
    · have hbw : BG wr p g m n at_ gap A F l := HB2.out.keep (hb.block p HB2.out.hp.lt) (fun hm => hb.block g (HB2.out.hA hm).2.2.lt)
      have b3 := hbw.hm2
      have b4 := hbw.hm
      obtain ⟨s1, s2⟩ := hbw.stands (i := i + r) (by omega)
      obtain ⟨rfl, hgp, hrg⟩ := hbw.hA (by omega)
      have hcs := cells_of hbw.hp
      obtain ⟨c0, c1, c2, fz⟩ := cells_of hbw.hp
      obtain ⟨q, hq⟩ : ∃ q, q = stands at_ gap (i + r) := ⟨_, rfl⟩
      have hcell := hrg.cell s1
      rw [s2, ← hq] at hcell
      rw [← hq] at s1
      have HP : ∀ d : Nat, Calls Tryz.prog 59 #[.pointer (some ⟨p, 0, none⟩), .int .i64 ((i : Int) + (r : Int))] (wr.drewN d) fun e w' => e = .returned (.int .i64 q) ∧ wr.drewN d = w' := by
        intro d
        have := place_any (wr.drewN d) p m at_ gap (some ⟨g, 0, none⟩) (hcs.drewN d) (i + r) (by omega) (by omega)
        rw [← hq, Int.natCast_add] at this
        exact this
      have HPP : Hid (Calls Tryz.prog 59 #[.pointer (some ⟨p, 0, none⟩), .int .i64 ((i : Int) + (r : Int))] wr.drew fun e w' => e = .returned (.int .i64 q) ∧ w' = wr.drew) := (HP 1).mono fun _ _ ⟨he, hw⟩ => ⟨he, hw.symm⟩
      have hcr : wr.cell? ⟨w2.heap.size, r, none⟩ = some (.int .u64 0) := by
        have := hrow.cell (i := r) hlt
        unfold takenTo at this
        rwa [if_neg (by omega)] at this
      have hfr : wr.frozen? ⟨w2.heap.size, r, none⟩ = false := hrow.frozen _
      have s3 : (q : Int) < (m : Int) := by omega
      have r3 : (r : Int) < (k : Int) := by omega
      have hrow' : (wr.setCell ⟨w2.heap.size, r, none⟩ (.int .u64 (l (i + r)))).rowIs w2.heap.size 58 k (takenTo l i (r + 1)) := by
        refine (hrow.set r _).congr (fun j hj => ?_)
        unfold takenTo
        by_cases hj : j = r
        · subst hj; rw [if_pos rfl, if_pos (by omega)]
        · rw [if_neg hj]
          by_cases hj2 : j < r
          · rw [if_pos hj2, if_pos (by omega)]
          · rw [if_neg hj2, if_neg (by omega)]
      have HR := Lib.hid hrow'
      clear HP hrow' hq s2 b4 hbw hrg hcs fz hs
      go_wp2_with fail
      have hsum : IntKind.i64.wrap ((i : Int) + (r : Int)) = (i : Int) + (r : Int) := IntWalk.i64_in _ (by omega)
      refine wp_region_still_tail 14 (by kernel_rfl) (by kernel_rfl) ?_
      change wpStill _ _ wr.drew (fun a' => wpList _ _ _ _ a' wr.drew) _ _
      simp only [List.take_succ_cons, List.take_zero, List.drop_succ_cons, List.drop_zero]
      repeat still_step
      refine wpStill_step (fun K hK => ?_)
      go_simp
      refine ⟨_, HPP.out, hK _ ?_⟩
      clear hK K
      repeat still_step
      try refine wpStill_nil ?_
      clear hsum
      go_wp2_with fail
      go_roundw
      case rel => exact ⟨r + 1, by omega, by go_num, HR.out, (hb.setCell (Nat.le_refl _) _).drew⟩
      case measure => simp [intOf]; omega
    · obtain rfl : r = k := by omega
      have hbw : BG wr p g m n at_ gap A F l := HB2.out.keep (hb.block p HB2.out.hp.lt) (fun hm => hb.block g (HB2.out.hA hm).2.2.lt)
      have HBW := Lib.hid hbw
      have HROW := Lib.hid hrow
      clear hbw hrow
      go_wp2_with fail
      refine (remove_raw wr p g m n at_ gap A F l HBW.out i r hk hi).mono ?_
      rintro e w3 ⟨rfl, ⟨F3, h3⟩, o3⟩
      have HB3 := Lib.hid h3
      have HO3 := Lib.hid o3
      have s2 : w2.heap.size = w.heap.size := hd.size
      have s3 : w2.heap.size < wr.heap.size := HROW.out.lt
      have plt : p < w.heap.size := HB.out.hp.lt
      have hrow3 : w3.rowIs w2.heap.size 58 r (takenTo l i r) := HROW.out.of_block (HO3.out.block _ s3 (by omega) (by omega))
      have HR3 := Lib.hid hrow3
      have S2 := Lib.hid s2
      clear h3 o3 hrow3 s2
      go_wp2_with fail
      refine (insert_raw w3 p g m (n - r) i (gap + r) A F3 (rem l i r) HB3.out t r t rfl (by omega) hk (by omega) w2.heap.size 0 r (fun j => l (i + j)) (by have := HO3.out.size; omega) (by have := S2.out; omega) (by have := S2.out; omega) (fun j hj => ?_)).mono ?_
      · rw [Nat.zero_add, HR3.out.cell hj]
        unfold takenTo
        rw [if_pos hj]
      rintro e w4 ⟨rfl, h4, o4⟩
      have H : InsPost w p g (n - r) t r (ins (rem l i r) t r fun j => l (i + j)) (.returned (.int .i64 0)) w4 := by
        have x1 : Only2 w wr p g := (Only2.of_drawn hd).trans (g' := g) ⟨hb.os, hb.tape, hb.output, hb.size, fun b hb' h1 h2 => hb.block b hb'⟩ (.inl rfl)
        have x2 := (x1.trans HO3.out (.inl rfl)).trans o4 (.inl rfl)
        obtain ⟨g', m', gap', A', F', y1, y2⟩ := h4
        refine ⟨rfl, ⟨g', m', gap', A', F', y1, ?_⟩, x2⟩
        rcases y2 with e | e
        · exact .inl e
        · right; have := (x1.trans HO3.out (.inl rfl)).size; omega
      have HH := Lib.hid H
      clear H
      go_wp2_with fail
      go_ret
      exact HH.out

/-! ### New -/
theorem buf_zero (w : World) (l : Nat → Int) : Buf (w.alloc (.cells #[.slice none 0 0, .int .i64 0, .int .i64 0] 126)) w.heap.size w.heap.size 0 0 l := by
  refine ⟨0, 0, 0, none, fun _ => .int .u64 0, ⟨(World.rowIs_alloc w _ _ _ ?_), fun h => absurd h (by omega), rfl, Nat.le_refl _, fun j h => absurd h (by omega), fun j _ h => absurd h (by omega), by omega, by omega, fun _ => rfl⟩, Nat.le_refl _, fun h => absurd h (by omega)⟩
  intro i hi
  match i, hi with
  | 0, _ => rfl
  | 1, _ => rfl
  | 2, _ => rfl

/-- What New leaves. -/
def NewPost (w : World) (k : Nat) (f : Nat → Int) (e : Ending) (w' : World) : Prop :=
  ∃ p, e = .returned (.tuple #[.pointer (some ⟨p, 0, none⟩), .int .i64 0]) ∧ Buf w' w.heap.size p k k f ∧ Below w.heap.size w w'
set_option maxHeartbeats 800000 in
theorem new_ok (w : World) (k c' : Nat) (A' : Option Addr) (f : Nat → Int) (hs : Sees w w.heap.size A' k fun j => .int .u64 (f j)) (hk : k ≤ 4096) :
    Calls Tryz.prog 28 #[.slice A' k c'] w (NewPost w k f) := by
  by_cases k0 : k = 0
  · subst k0
    go_enter Tryz.func28, Tryz.ntmps28
    go_wp2_with fail
    refine (insert_none _ w.heap.size w.heap.size 0 0 f (buf_zero w f) 0 0 rfl (Nat.le_refl _) A' c').mono ?_
    rintro e w1 ⟨rfl, hd⟩
    have H : NewPost w 0 f (.returned (.tuple #[.pointer (some ⟨w.heap.size, 0, none⟩), .int .i64 0])) w1 :=
      ⟨_, rfl, (buf_zero w f).drawn hd, ((Below.refl _ w).alloc (Nat.le_refl _) _).trans (hd.below _)⟩
    have HH := Lib.hid H
    clear H
    go_wp2_with fail
    go_ret2
    exact HH.out
  · have HS := Lib.hid hs
    clear hs
    go_enter Tryz.func28, Tryz.ntmps28
    go_wp2_with fail
    refine (insert_ok _ w.heap.size w.heap.size 0 0 f (buf_zero w f) 0 k 0 rfl (Nat.le_refl _) (by omega) (by omega) A' c' f (HS.out.below ((Below.refl _ w).alloc (Nat.le_refl _) _))).mono ?_
    rintro e w1 ⟨rfl, hB, hb⟩
    have H : NewPost w k f (.returned (.tuple #[.pointer (some ⟨w.heap.size, 0, none⟩), .int .i64 0])) w1 := by
      refine ⟨_, rfl, ?_, ((Below.refl _ w).alloc (Nat.le_refl _) _).trans hb⟩
      rw [Nat.zero_add] at hB
      refine hB.congr fun j hj => ?_
      unfold ins
      rw [if_neg (by omega), if_pos (by omega), Nat.sub_zero]
    have HH := Lib.hid H
    clear H hB
    go_wp2_with fail
    go_ret2
    exact HH.out
end GapU
end Go.Proofs.YtfmfmeiaekknbaaGreatDoor
end

section
/-
  gaps.Move, with what it turns and no more: elements of type uint64.
-/
namespace Go.Proofs.YtfmfmeiaekknbaaGreatDoor
namespace GapU
open Go.RowKit
set_option linter.unusedVariables false

theorem move_fr (w : World) (B p n at_ : Nat) (l : Nat → Int) (h : Buf w B p n at_ l) (i k t : Nat) (hk : 0 < k) (hi : i + k ≤ n) (ht : t + k ≤ n) :
    Calls Tryz.prog 36 #[.pointer (some ⟨p, 0, none⟩), .int .i64 i, .int .i64 k, .int .i64 t] w fun e w' => e = .returned (.int .i64 0) ∧ Buf w' B p n (t + k) (ins (rem l i k) t k fun j => l (i + j)) ∧
      ∃ g, Fr (fun b => b = p ∨ b = g) w w' ∧ B ≤ p ∧ B ≤ g ∧ (∃ f, w.rowIs p 126 3 f) ∧ ∃ m f, w.rowIs g 58 m f := by
  obtain ⟨g, m, gap, A, F, h1, h2, h3, h4⟩ := h.open_
  have hm : 0 < m := by have := h1.hm; omega
  obtain ⟨_, _, hg⟩ := h1.hA hm
  refine (move_raw w p g m n at_ gap A F l h1 h4 i k t hk hi ht).mono ?_
  rintro e w' ⟨rfl, ⟨g', m', gap', A', F', q1, q2⟩, q3⟩
  rw [show n - k + k = n from by omega] at q1
  exact ⟨rfl, ⟨g', m', gap', A', F', q1, h2, fun _ => by omega⟩, g, ⟨q3.os, q3.tape, q3.output, q3.size, fun b hb hn => q3.block b hb (fun e => hn (.inl e)) (fun e => hn (.inr e))⟩, h2, by omega, ⟨_, h1.hp⟩, _, _, hg⟩
end GapU
end Go.Proofs.YtfmfmeiaekknbaaGreatDoor
end

section
/-
  Contracts of package ropes, fifteenth: List's closure.
-/
namespace Go.Proofs.YtfmfmeiaekknbaaGreatDoor
open Go.RowKit
set_option linter.unusedVariables false
set_option linter.unusedSimpArgs false

/-- Blocks of two types. -/
theorem rows_ne {w : World} {b b' : Nat} {t t' : TypeId} {n n' : Nat} {f f' : Nat → Value} (h : w.rowIs b t n f) (h' : w.rowIs b' t' n' f') (ht : t ≠ t') : b ≠ b' := by
  rintro rfl
  obtain ⟨c1, h1, _⟩ := h
  obtain ⟨c2, h2, _⟩ := h'
  rw [h1] at h2
  injection h2 with h2
  injection h2 with _ h2 _
  exact ht h2
end Go.Proofs.YtfmfmeiaekknbaaGreatDoor
end

section
/-
  Package keymaps at the keys 7, 8, 9 (which the examples of the layers 1 to 11 use): eight slots, no two keys at one slot.
-/
namespace Go.Proofs.YtfmfmeiaekknbaaGreatDoor
open Go.RowKit
set_option linter.unusedVariables false
set_option linter.unusedSimpArgs false

/-- A key of the examples; its slot; what it is mixed to. -/
def K3 (k : Int) : Prop := k = 7 ∨ k = 8 ∨ k = 9
def hh (k : Int) : Nat := if k = 7 then 4 else if k = 8 then 0 else 7
def mixF (k : Int) : Int := if k = 7 then 1346066267577507604 else if k = 8 then 15378420243238726120 else 9398003893131893463
theorem K3.lt {k : Int} (h : K3 k) : hh k < 8 := by rcases h with rfl | rfl | rfl <;> decide

set_option maxRecDepth 100000 in
set_option maxHeartbeats 1600000 in
theorem mixed_any (w : World) (k : Int) (hk : K3 k) :
    Calls Tryz.prog 94 #[.int .u64 k] w fun e w' => e = .returned (.int .u64 (mixF k)) ∧ w = w' := by
  rcases hk with rfl | rfl | rfl
  all_goals
    go_enter Tryz.func94, Tryz.ntmps94
    go_wp2_with fail
    go_ret
    exact ⟨ret_int (by decide), rfl⟩

/-- What a slot holds, of the values T of the keys. -/
def ks (T : Int → Option Int) (s : Nat) : Option (Int × Int) := if s = 4 then (T 7).map (fun v => (7, v)) else if s = 0 then (T 8).map (fun v => (8, v)) else if s = 7 then (T 9).map (fun v => (9, v)) else none
def kcell (o : Option (Int × Int)) (i : Nat) : Value := match o with
  | none => if i = 0 then .int .u8 0 else if i = 1 then .int .u64 0 else .int .i64 0
  | some (k, v) => if i = 0 then .int .u8 1 else if i = 1 then .int .u64 k else .int .i64 v
def kcells (T : Int → Option Int) : Nat → Value := fun j => kcell (ks T (j / 3)) (j % 3)
def kmany (T : Int → Option Int) : Nat := (T 7).toList.length + (T 8).toList.length + (T 9).toList.length
def kmc (A : Option Addr) (n m : Nat) : Nat → Value := fun j => if j = 0 then .slice A n n else if j = 1 then .int .i64 m else .int .i64 0
theorem ks_at (T : Int → Option Int) {k : Int} (h : K3 k) : ks T (hh k) = (T k).map (fun v => (k, v)) := by rcases h with rfl | rfl | rfl <;> rfl
theorem kcells_0 (T : Int → Option Int) (s : Nat) : kcells T (s * 3) = kcell (ks T s) 0 := by unfold kcells; rw [Nat.mul_div_cancel _ (by omega), Nat.mul_mod_left]
theorem kcells_1 (T : Int → Option Int) (s : Nat) : kcells T (s * 3 + 1) = kcell (ks T s) 1 := by unfold kcells; rw [show (s * 3 + 1) / 3 = s by omega, show (s * 3 + 1) % 3 = 1 by omega]
theorem kcells_2 (T : Int → Option Int) (s : Nat) : kcells T (s * 3 + 2) = kcell (ks T s) 2 := by unfold kcells; rw [show (s * 3 + 2) / 3 = s by omega, show (s * 3 + 2) % 3 = 2 by omega]
/-- A map at p whose slots lie in g. -/
structure KG (w : World) (p g : Nat) (T : Int → Option Int) : Prop where
  hp : w.rowIs p 130 3 (kmc (some ⟨g, 0, none⟩) 8 (kmany T))
  hg : w.rowIs g 133 24 (kcells T)
  ne : g ≠ p
theorem KG.keep {w w' : World} {p g : Nat} {T : Int → Option Int} (h : KG w p g T) (k1 : w'.heap[p]? = w.heap[p]?) (k2 : w'.heap[g]? = w.heap[g]?) : KG w' p g T := ⟨h.hp.of_block k1, h.hg.of_block k2, h.ne⟩
theorem KG.below {w w' : World} {p g : Nat} {T : Int → Option Int} (h : KG w p g T) (hb : Below w.heap.size w w') : KG w' p g T := h.keep (hb.block p h.hp.lt) (hb.block g h.hg.lt)
/-- The cells of the map's head. -/
structure KC (w : World) (p : Nat) (A : Option Addr) (n m : Nat) : Prop where
  c0 : w.cell? ⟨p, 0, none⟩ = some (.slice A n n)
  c1 : w.cell? ⟨p, 1, none⟩ = some (.int .i64 m)
  c2 : w.cell? ⟨p, 2, none⟩ = some (.int .i64 0)
  fz : ∀ i, w.frozen? ⟨p, i, none⟩ = false
theorem kmcells {w : World} {p n m : Nat} {A : Option Addr} (h : w.rowIs p 130 3 (kmc A n m)) : KC w p A n m := ⟨h.cell (i := 0) (by omega), h.cell (i := 1) (by omega), h.cell (i := 2) (by omega), fun i => h.frozen i⟩

set_option maxRecDepth 100000 in
set_option maxHeartbeats 3200000 in
theorem look_any (w : World) (p g : Nat) (T : Int → Option Int) (h : KG w p g T) (k : Int) (hk : K3 k) :
    Calls Tryz.prog 60 #[.pointer (some ⟨p, 0, none⟩), .int .u64 k] w fun e w' => e = .returned (.tuple #[.int .i64 (hh k), .bool (T k).isSome]) ∧ Below w.heap.size w w' := by
  obtain ⟨c0, c1, c2, fz⟩ := kmcells h.hp
  have HM : Hid (∀ q : Nat, Calls Tryz.prog 94 #[.int .u64 k] (w.drewN q) fun e w' => e = .returned (.int .u64 (mixF k)) ∧ w.drewN q = w') := fun q => mixed_any _ k hk
  have hs := hk.lt
  have hm : (mixF k).tmod 8 = (hh k : Int) := by rcases hk with rfl | rfl | rfl <;> decide
  have g0 := h.hg.cell (i := hh k * 3) (by omega)
  have g1 := h.hg.cell (i := hh k * 3 + 1) (by omega)
  have g2 := h.hg.cell (i := hh k * 3 + 2) (by omega)
  rw [kcells_0, ks_at T hk] at g0
  rw [kcells_1, ks_at T hk] at g1
  rw [kcells_2, ks_at T hk] at g2
  obtain ⟨s, es⟩ : ∃ s, s = hh k := ⟨_, rfl⟩
  rw [← es] at hm hs g0 g1 g2 ⊢
  clear h c1 c2 fz es
  go_enter Tryz.func60, Tryz.ntmps60
  go_wp2_with fail
  go_step3
  go_wp2_with fail
  go_quiet ((go_at_call 94; exact quiet_left' (HM.out _)))
  clear HM
  have e0 : (w.drewN nq).cell? ⟨p, 0, none⟩ = some (.slice (some ⟨g, 0, none⟩) 8 8) := c0
  have D : Hid (Below w.heap.size w (w.drewN nq)) := Go.below_drewN (Below.refl _ w) nq
  cases hT : T k with
  | none =>
    rw [hT] at g0 g1 g2
    have d0 : (w.drewN nq).cell? ⟨g, s * 3, none⟩ = some (.int .u8 0) := g0
    have d1 : (w.drewN nq).cell? ⟨g, s * 3 + 1, none⟩ = some (.int .u64 0) := g1
    have d2 : (w.drewN nq).cell? ⟨g, s * 3 + 2, none⟩ = some (.int .i64 0) := g2
    have HT := Lib.hid hT
    clear g0 g1 g2 hT c0
    generalize w.drewN nq = W at e0 d0 d1 d2 D ⊢
    have E : Hid (Below w.heap.size w (W.alloc (.cells #[.int .u8 0, .int .u64 0, .int .i64 0] 133))) := D.out.alloc D.out.size _
    clear D
    go_wp2_with fail
    go_step3
    go_wp2_with fail
    rw [Exit.noGoto_ret]
    go_ret2
    exact ⟨by rw [HT.out]; rfl, E.out⟩
  | some v =>
    rw [hT] at g0 g1 g2
    have d0 : (w.drewN nq).cell? ⟨g, s * 3, none⟩ = some (.int .u8 1) := g0
    have d1 : (w.drewN nq).cell? ⟨g, s * 3 + 1, none⟩ = some (.int .u64 k) := g1
    have d2 : (w.drewN nq).cell? ⟨g, s * 3 + 2, none⟩ = some (.int .i64 v) := g2
    have HT := Lib.hid hT
    clear g0 g1 g2 hT c0
    generalize w.drewN nq = W at e0 d0 d1 d2 D ⊢
    have E : Hid (Below w.heap.size w (W.alloc (.cells #[.int .u8 1, .int .u64 k, .int .i64 v] 133))) := D.out.alloc D.out.size _
    clear D
    go_wp2_with fail
    go_step3
    go_wp2_with fail
    rw [Exit.noGoto_ret]
    go_ret2
    exact ⟨by rw [HT.out]; rfl, E.out⟩

set_option maxRecDepth 100000 in
set_option maxHeartbeats 1600000 in
theorem klen_any (w : World) (p m n : Nat) (A : Option Addr) (h : w.rowIs p 130 3 (kmc A n m)) :
    Calls Tryz.prog 63 #[.pointer (some ⟨p, 0, none⟩)] w fun e w' => e = .returned (.int .i64 m) ∧ w = w' := by
  obtain ⟨c0, c1, c2, fz⟩ := kmcells h
  clear c0 c2 fz h
  go_enter Tryz.func63, Tryz.ntmps63
  go_wp2_with fail
  go_ret
  exact ⟨rfl, rfl⟩
set_option maxRecDepth 100000 in
set_option maxHeartbeats 1600000 in
theorem kget_none (w : World) (p n : Nat) (A : Option Addr) (h : w.rowIs p 130 3 (kmc A n 0)) (k : Int) :
    Calls Tryz.prog 33 #[.pointer (some ⟨p, 0, none⟩), .int .u64 k] w fun e w' => e = .returned (.tuple #[.int .i64 0, .bool false]) ∧ w = w' := by
  have HL := Lib.hid (klen_any w p 0 n A h)
  clear h
  go_enter Tryz.func33, Tryz.ntmps33
  go_wp2_with fail
  refine (HL.out).mono ?_
  rintro e w' ⟨rfl, rfl⟩
  go_wp2_with fail
  go_ret2
  exact ⟨rfl, rfl⟩
set_option maxRecDepth 100000 in
set_option maxHeartbeats 1600000 in
theorem kget_any (w : World) (p g : Nat) (T : Int → Option Int) (h : KG w p g T) (k : Int) (hk : K3 k) (hm : 0 < kmany T) :
    Calls Tryz.prog 33 #[.pointer (some ⟨p, 0, none⟩), .int .u64 k] w fun e w' => e = .returned (.tuple #[.int .i64 ((T k).getD 0), .bool (T k).isSome]) ∧ Below w.heap.size w w' := by
  have HL := Lib.hid (klen_any w p _ 8 _ h.hp)
  have HK := Lib.hid (look_any w p g T h k hk)
  have H := Lib.hid h
  have hkl := hk.lt
  have hn : ((kmany T : Nat) : Int) ≠ 0 := by omega
  generalize kmany T = m at *
  clear h
  go_enter Tryz.func33, Tryz.ntmps33
  go_wp2_with fail
  refine (HL.out).mono ?_
  rintro e w' ⟨rfl, rfl⟩
  go_wp2_with fail
  refine (HK.out).mono ?_
  rintro e w1 ⟨rfl, hb⟩
  have H1 := H.out.below hb
  have B1 := Lib.hid hb
  obtain ⟨c0, c1, c2, fz⟩ := kmcells H1.hp
  have g2 := H1.hg.cell (i := hh k * 3 + 2) (by omega)
  rw [kcells_2, ks_at T hk] at g2
  clear H1 HL HK c1 c2 fz hb
  generalize hh k = s at *
  cases hT : T k with
  | none =>
    clear g2
    go_wp2_with fail
    go_ret2
    exact ⟨by rw [hT]; rfl, B1.out⟩
  | some v =>
    rw [hT] at g2
    have d2 : w1.cell? ⟨g, s * 3 + 2, none⟩ = some (.int .i64 v) := g2
    clear g2
    go_wp2_with fail
    go_ret2
    exact ⟨by rw [hT]; rfl, B1.out⟩

set_option maxRecDepth 100000 in
set_option maxHeartbeats 1600000 in
theorem knew_any (w : World) :
    Calls Tryz.prog 29 #[] w fun e w' => e = .returned (.pointer (some ⟨w.heap.size, 0, none⟩)) ∧ w'.rowIs w.heap.size 130 3 (kmc none 0 0) ∧ Below w.heap.size w w' := by
  go_enter Tryz.func29, Tryz.ntmps29
  go_wp2_with fail
  go_ret
  exact ⟨rfl, World.rowIs_alloc _ _ _ _ (fun j hj => by
    have : j = 0 ∨ j = 1 ∨ j = 2 := by simp at hj; omega
    rcases this with rfl | rfl | rfl <;> rfl), (Below.refl _ w).alloc (Nat.le_refl _) _⟩

theorem infoSlot : (Tryz.prog.info? 133).map (fun i => (i.zero, i.size, i.bytes)) = some (some (.agg #[.int .u8 0, .int .u64 0, .int .i64 0]), 3, 24) := by kernel_rfl
def slots8 : Array Value := madeCells #[.int .u8 0, .int .u64 0, .int .i64 0] 24
theorem make_slots (W : World) : (Instr.makeSlice 128 (.int .i64 8) (.int .i64 8)).run Tryz.prog W = .ok (.slice (some ⟨W.heap.size, 0, none⟩) 8 8) (W.alloc (.cells slots8 133)) := by
  obtain ⟨i, hi, hzz⟩ := Option.map_eq_some_iff.1 infoSlot
  simp only [Prod.mk.injEq] at hzz
  obtain ⟨hz, hs, hb⟩ := hzz
  have := run_make (P := Tryz.prog) W 128 133 i _ Tryz.underlying128 hi hz .i64 .i64 8 8 (by omega) (by omega) (by rw [hb]; decide) (by omega)
  rw [hs] at this
  exact this
theorem slots8_row (W : World) : (W.alloc (.cells slots8 133)).rowIs W.heap.size 133 24 (kcells fun _ => none) := by
  have := World.rowIs_alloc W slots8 133 (kcells fun _ => none) (fun j hj => by
    have hj' : j < 24 := by simpa [slots8, size_madeCells] using hj
    have e : kcells (fun _ => none) j = kcell none (j % 3) := by
      show kcell (ks _ _) _ = _
      have h0 : ∀ s, ks (fun _ => none) s = none := fun s => by unfold ks; repeat' split
                                                                all_goals rfl
      rw [h0]
    rw [e]
    have h3 : j % 3 = 0 ∨ j % 3 = 1 ∨ j % 3 = 2 := by omega
    rcases h3 with h | h | h <;> simp [slots8, madeCells, hj', h, kcell])
  rw [show slots8.size = 24 from by simp [slots8, size_madeCells]] at this
  exact this
set_option maxRecDepth 100000 in
set_option maxHeartbeats 3200000 in
theorem widen_any (w : World) (p : Nat) (h : w.rowIs p 130 3 (kmc none 0 0)) :
    Calls Tryz.prog 61 #[.pointer (some ⟨p, 0, none⟩), .int .i64 1] w fun e w' => e = .returned (.tuple #[]) ∧ KG w' p w.heap.size (fun _ => none) ∧ Fr (fun b => b = p) w w' := by
  obtain ⟨c0, c1, c2, fz⟩ := kmcells h
  have hm := make_slots
  have hp := h.lt
  have H := Lib.hid h
  have RA : Hid (∀ W : World, W.rowIs p 130 3 (kmc none 0 0) → (W.setCell ⟨p, 0, none⟩ (.slice (some ⟨w.heap.size, 0, none⟩) 8 8)).rowIs p 130 3 (kmc (some ⟨w.heap.size, 0, none⟩) 8 0)) := fun W hW => (hW.set 0 _).congr fun j hj => by
    show (if j = 0 then _ else kmc none 0 0 j) = _
    by_cases c : j = 0
    · subst c; rfl
    · rw [if_neg c]; unfold kmc; rw [if_neg c, if_neg c]
  clear h
  go_enter Tryz.func61, Tryz.ntmps61
  go_wp2_with fail
  go_loopw [4] (fun n wr => n = .int .i64 8 ∧ w = wr) (fun _ _ => 0)
  case atStart => exact ⟨rfl, rfl⟩
  case round =>
    obtain ⟨rfl, rfl⟩ := hrel
    have KW : Hid (KG (((w.setCell ⟨p, 0, none⟩ (.slice (some ⟨w.heap.size, 0, none⟩) 8 8)).setCell ⟨p, 2, none⟩ (.int .i64 0)).alloc (.cells slots8 133)) p w.heap.size (fun _ => none)) := by
      have h1 := RA.out w H.out
      have h2 := (h1.set 2 (.int .i64 0)).congr (g := kmc (some ⟨w.heap.size, 0, none⟩) 8 0) fun j hj => by
        show (if j = 2 then _ else _) = _
        by_cases c : j = 2
        · subst c; rfl
        · rw [if_neg c]
      have hz : ((w.setCell ⟨p, 0, none⟩ (.slice (some ⟨w.heap.size, 0, none⟩) 8 8)).setCell ⟨p, 2, none⟩ (.int .i64 0)).heap.size = w.heap.size := by simp [World.setCell]
      refine ⟨h2.of_block (Below.heap_alloc _ _ _ h2.lt), ?_, ?_⟩
      · have := slots8_row ((w.setCell ⟨p, 0, none⟩ (.slice (some ⟨w.heap.size, 0, none⟩) 8 8)).setCell ⟨p, 2, none⟩ (.int .i64 0))
        rw [hz] at this
        exact this
      · omega
    have FW : Hid (Fr (fun b => b = p) w (((w.setCell ⟨p, 0, none⟩ (.slice (some ⟨w.heap.size, 0, none⟩) 8 8)).setCell ⟨p, 2, none⟩ (.int .i64 0)).alloc (.cells slots8 133))) :=
      Fr.alloc (S := fun b => b = p) (Fr.setCell (S := fun b => b = p) (Fr.setCell (S := fun b => b = p) (Fr.refl _ w) (p := ⟨p, 0, none⟩) rfl _) (p := ⟨p, 2, none⟩) rfl _) _
    clear RA H
    go_wp2_with fail
    go_loopw [30] (fun n wr => n = .int .i64 0 ∧ Hid (KG wr p w.heap.size (fun _ => none)) ∧ Hid (Fr (fun b => b = p) w wr)) (fun _ _ => 0)
    case atStart => exact ⟨rfl, KW, FW⟩
    case round =>
      obtain ⟨rfl, h1, h2⟩ := hrel
      go_wp2_with fail
      go_end0
      exact ⟨rfl, h1.out, h2.out⟩

/-- A key that is put. -/
def tput (T : Int → Option Int) (k v : Int) : Int → Option Int := fun x => if x = k then some v else T x
theorem kmany_put {T : Int → Option Int} {k : Int} (hk : K3 k) (hT : T k = none) (v : Int) : kmany (tput T k v) = kmany T + 1 := by
  unfold kmany tput
  rcases hk with rfl | rfl | rfl <;> simp [hT] <;> omega
theorem ks_put {T : Int → Option Int} {k : Int} (hk : K3 k) (v : Int) (s : Nat) : ks (tput T k v) s = if s = hh k then some (k, v) else ks T s := by
  unfold ks tput
  rcases hk with rfl | rfl | rfl
  · show _ = if s = 4 then _ else _
    by_cases c : s = 4
    · rw [if_pos c, if_pos c]; rfl
    · rw [if_neg c, if_neg c]; simp only [show ¬ (8 : Int) = 7 by decide, show ¬ (9 : Int) = 7 by decide, if_false]
      rw [if_neg c]
  · show _ = if s = 0 then _ else _
    by_cases c : s = 0
    · subst c; rfl
    · rw [if_neg c]; simp only [show ¬ (7 : Int) = 8 by decide, show ¬ (9 : Int) = 8 by decide, if_false]
      rw [if_neg c, if_neg c]
  · show _ = if s = 7 then _ else _
    by_cases c : s = 7
    · subst c; rfl
    · rw [if_neg c]; simp only [show ¬ (7 : Int) = 9 by decide, show ¬ (8 : Int) = 9 by decide, if_false]
      rw [if_neg c, if_neg c]
def putW (w : World) (p g s : Nat) (k v m : Int) : World := (((w.setCell ⟨g, s * 3, none⟩ (.int .u8 1)).setCell ⟨g, s * 3 + 1, none⟩ (.int .u64 k)).setCell ⟨g, s * 3 + 2, none⟩ (.int .i64 v)).setCell ⟨p, 1, none⟩ (.int .i64 m)
theorem KG.put {w : World} {p g : Nat} {T : Int → Option Int} (h : KG w p g T) {k : Int} (hk : K3 k) (hT : T k = none) (v : Int) :
    KG (putW w p g (hh k) k v ((kmany T : Nat) + 1)) p g (tput T k v) := by
  have hs := hk.lt
  have hpw := h.hp.lt
  unfold putW
  generalize es : hh k = s at *
  have a1 := (((h.hg.set (s * 3) (.int .u8 1)).set (s * 3 + 1) (.int .u64 k)).set (s * 3 + 2) (.int .i64 v)).congr (g := kcells (tput T k v)) fun j hj => by
    show (if j = s * 3 + 2 then _ else if j = s * 3 + 1 then _ else if j = s * 3 then _ else kcells T j) = kcell (ks (tput T k v) (j / 3)) (j % 3)
    rw [ks_put hk, es]
    by_cases c2 : j = s * 3 + 2
    · rw [if_pos c2, if_pos (by omega), show j % 3 = 2 by omega]; rfl
    by_cases c1 : j = s * 3 + 1
    · rw [if_neg c2, if_pos c1, if_pos (by omega), show j % 3 = 1 by omega]; rfl
    by_cases c0 : j = s * 3
    · rw [if_neg c2, if_neg c1, if_pos c0, if_pos (by omega), show j % 3 = 0 by omega]; rfl
    · rw [if_neg c2, if_neg c1, if_neg c0, if_neg (by omega)]; rfl
  have hgp := h.ne
  refine ⟨?_, a1.of_block (Below.heap_setCell _ _ _ _ hgp), hgp⟩
  have b0 := h.hp.of_block (w' := ((w.setCell ⟨g, s * 3, none⟩ (.int .u8 1)).setCell ⟨g, s * 3 + 1, none⟩ (.int .u64 k)).setCell ⟨g, s * 3 + 2, none⟩ (.int .i64 v)) (by
    rw [Below.heap_setCell _ _ _ _ (Ne.symm hgp), Below.heap_setCell _ _ _ _ (Ne.symm hgp), Below.heap_setCell _ _ _ _ (Ne.symm hgp)])
  refine (b0.set 1 (.int .i64 ((kmany T : Nat) + 1))).congr fun j hj => ?_
  show (if j = 1 then _ else _) = _
  rw [kmany_put hk hT]
  by_cases c : j = 1
  · subst c; rfl
  · rw [if_neg c]; unfold kmc; by_cases d : j = 0
    · rw [if_pos d, if_pos d]
    · rw [if_neg d, if_neg d, if_neg c, if_neg c]
theorem Fr.putW {w : World} {p g s : Nat} {k v m : Int} : Fr (fun b => b = p ∨ b = g) w (putW w p g s k v m) :=
  let S := fun b => b = p ∨ b = g
  Fr.setCell (S := S) (Fr.setCell (S := S) (Fr.setCell (S := S) (Fr.setCell (S := S) (Fr.refl _ w) (p := ⟨g, _, none⟩) (.inr rfl) _) (p := ⟨g, _, none⟩) (.inr rfl) _) (p := ⟨g, _, none⟩) (.inr rfl) _) (p := ⟨p, _, none⟩) (.inl rfl) _

set_option maxRecDepth 100000 in
set_option maxHeartbeats 6400000 in
theorem kput_new (w : World) (p g : Nat) (T : Int → Option Int) (h : KG w p g T) (k v : Int) (hk : K3 k) (hT : T k = none) (hm : kmany T ≤ 3) :
    Calls Tryz.prog 31 #[.pointer (some ⟨p, 0, none⟩), .int .u64 k, .int .i64 v] w fun e w' => e = .returned (.int .i64 0) ∧ KG w' p g (tput T k v) ∧ Fr (fun b => b = p ∨ b = g) w w' := by
  have HK := Lib.hid (look_any w p g T h k hk)
  have H := Lib.hid h
  have hk0 : k ≠ 0 := by rcases hk with rfl | rfl | rfl <;> decide
  have hkl := hk.lt
  obtain ⟨c0, c1, c2, fz⟩ := kmcells h.hp
  rw [hT] at HK
  clear h fz
  obtain ⟨s, es⟩ : ∃ s, s = hh k := ⟨_, rfl⟩
  obtain ⟨m, em⟩ : ∃ m, m = kmany T := ⟨_, rfl⟩
  have ES := Lib.hid es
  have EM := Lib.hid em
  rw [← es] at HK hkl
  rw [← em] at c1 hm
  clear es em
  go_enter Tryz.func31, Tryz.ntmps31
  go_wp2_with fail
  refine (HK.out).mono ?_
  rintro e w1 ⟨rfl, b1⟩
  have H1 := Lib.hid (H.out.below b1)
  have B1 := Lib.hid b1
  have HK1 : Hid (∀ q, Calls Tryz.prog 60 #[.pointer (some ⟨p, 0, none⟩), .int .u64 k] (w1.drewN q) fun e w' => e = .returned (.tuple #[.int .i64 s, .bool false]) ∧ Below (w1.drewN q).heap.size (w1.drewN q) w') := fun q => by
    have := look_any (w1.drewN q) p g T (H1.out.keep rfl rfl) k hk
    rw [hT, ← ES.out] at this
    exact this
  obtain ⟨d0, d1, d2, fz⟩ := kmcells H1.out.hp
  rw [← EM.out] at d1
  have hm1 : ¬ (m : Int) = 4096 := by omega
  clear HK b1 fz c0 c1 c2
  go_wp2_with fail
  go_quiet (fail)
  go_wp2_with fail
  refine (HK1.out _).mono ?_
  rintro e w2 ⟨rfl, b2⟩
  have H2 := Lib.hid ((H1.out.keep (w' := w1.drewN _) rfl rfl).below b2)
  have F2 : Hid (Fr (fun b => b = p ∨ b = g) w w2) := Fr.trans (Fr.of_below B1.out) (Fr.trans (Fr.of_below (Go.below_drewN (Below.refl _ w1) _)) (Fr.of_below b2))
  clear HK1 H1 b2 d0 d1 d2 hm1
  obtain ⟨c0, c1, c2, fz⟩ := kmcells H2.out.hp
  have g0 := H2.out.hg.cell (i := s * 3) (by omega)
  have g1 := H2.out.hg.cell (i := s * 3 + 1) (by omega)
  have g2 := H2.out.hg.cell (i := s * 3 + 2) (by omega)
  have gf := fun i => H2.out.hg.frozen i
  rw [kcells_0, ES.out, ks_at T hk, hT, ← ES.out] at g0
  rw [kcells_1, ES.out, ks_at T hk, hT, ← ES.out] at g1
  rw [kcells_2, ES.out, ks_at T hk, hT, ← ES.out] at g2
  have d0 : w2.cell? ⟨g, s * 3, none⟩ = some (.int .u8 0) := g0
  have d1 : w2.cell? ⟨g, s * 3 + 1, none⟩ = some (.int .u64 0) := g1
  have d2 : w2.cell? ⟨g, s * 3 + 2, none⟩ = some (.int .i64 0) := g2
  have hgp : g ≠ p := H2.out.ne
  have hpg : p ≠ g := hgp.symm
  have RW : Hid (KG (putW w2 p g s k v (m + 1)) p g (tput T k v)) := by
    have := H2.out.put hk hT v
    rwa [← ES.out, ← EM.out] at this
  have FW : Hid (Fr (fun b => b = p ∨ b = g) w (putW w2 p g s k v (m + 1))) := F2.out.trans Fr.putW
  rw [← EM.out] at c1
  clear g0 g1 g2 H2 F2
  go_wp2_with fail
  go_ret
  exact ⟨rfl, RW.out, FW.out⟩
set_option maxRecDepth 100000 in
set_option maxHeartbeats 6400000 in
theorem kput_first (w : World) (p : Nat) (h : w.rowIs p 130 3 (kmc none 0 0)) (k v : Int) (hk : K3 k) :
    Calls Tryz.prog 31 #[.pointer (some ⟨p, 0, none⟩), .int .u64 k, .int .i64 v] w fun e w' => ∃ g, e = .returned (.int .i64 0) ∧ KG w' p g (tput (fun _ => none) k v) ∧ w.heap.size ≤ g ∧ Fr (fun b => b = p ∨ w.heap.size ≤ b) w w' := by
  have HK := Lib.hid (widen_any (w.drewN 0) p h)
  have HW : Hid (∀ q, Calls Tryz.prog 61 #[.pointer (some ⟨p, 0, none⟩), .int .i64 1] (w.drewN q) fun e w' => e = .returned (.tuple #[]) ∧ KG w' p w.heap.size (fun _ => none) ∧ Fr (fun b => b = p) w w') := fun q => (widen_any (w.drewN q) p h).mono fun e w' ⟨a, b, c⟩ => ⟨a, b, Fr.trans (Fr.of_below (Go.below_drewN (Below.refl _ w) q)) c⟩
  have hk0 : k ≠ 0 := by rcases hk with rfl | rfl | rfl <;> decide
  have hkl := hk.lt
  obtain ⟨c0, c1, c2, fz⟩ := kmcells h
  have hpl := h.lt
  clear h fz HK
  obtain ⟨s, es⟩ : ∃ s, s = hh k := ⟨_, rfl⟩
  obtain ⟨g, eg⟩ : ∃ g, g = w.heap.size := ⟨_, rfl⟩
  have ES := Lib.hid es
  have EG := Lib.hid eg
  rw [← es] at hkl
  rw [← eg] at HW hpl
  clear es eg
  go_enter Tryz.func31, Tryz.ntmps31
  go_wp2_with fail
  go_quiet (fail)
  go_wp2_with fail
  refine (HW.out _).mono ?_
  rintro e w1 ⟨rfl, k1, f1⟩
  have H1 := Lib.hid k1
  have F1 := Lib.hid f1
  have HK1 := Lib.hid (look_any w1 p g (fun _ => none) k1 k hk)
  rw [← ES.out] at HK1
  clear HW c0 c1 c2 k1 f1
  go_wp2_with fail
  refine (HK1.out).mono ?_
  rintro e w2 ⟨rfl, b2⟩
  have H2 := Lib.hid (H1.out.below b2)
  have F2 : Hid (Fr (fun b => b = p ∨ g ≤ b) w w2) := Fr.trans (F1.out.mono fun b h => .inl h) (Fr.of_below b2)
  clear HK1 H1 b2 F1
  obtain ⟨c0, c1, c2, fz⟩ := kmcells H2.out.hp
  have g0 := H2.out.hg.cell (i := s * 3) (by omega)
  have g1 := H2.out.hg.cell (i := s * 3 + 1) (by omega)
  have g2 := H2.out.hg.cell (i := s * 3 + 2) (by omega)
  have gf := fun i => H2.out.hg.frozen i
  rw [kcells_0, ES.out, ks_at _ hk, ← ES.out] at g0
  rw [kcells_1, ES.out, ks_at _ hk, ← ES.out] at g1
  rw [kcells_2, ES.out, ks_at _ hk, ← ES.out] at g2
  have d0 : w2.cell? ⟨g, s * 3, none⟩ = some (.int .u8 0) := g0
  have d1 : w2.cell? ⟨g, s * 3 + 1, none⟩ = some (.int .u64 0) := g1
  have d2 : w2.cell? ⟨g, s * 3 + 2, none⟩ = some (.int .i64 0) := g2
  have c1' : w2.cell? ⟨p, 1, none⟩ = some (.int .i64 0) := c1
  have hgp : g ≠ p := H2.out.ne
  have hpg : p ≠ g := hgp.symm
  have RW : Hid (KG (putW w2 p g s k v 1) p g (tput (fun _ => none) k v)) := by
    have := H2.out.put hk rfl v
    rwa [← ES.out] at this
  have FW : Hid (Fr (fun b => b = p ∨ g ≤ b) w (putW w2 p g s k v 1)) := F2.out.trans (Fr.putW.mono fun b h => h.imp id fun e => by omega)
  clear g0 g1 g2 H2 F2 c1
  go_wp2_with fail
  go_ret
  exact ⟨g, rfl, RW.out, by rw [EG.out]; exact Nat.le_refl _, by rw [← EG.out]; exact FW.out⟩
end Go.Proofs.YtfmfmeiaekknbaaGreatDoor
end

section
/-
  Package tables: Check, of the table of the examples (two heights).
-/
namespace Go.Proofs.YtfmfmeiaekknbaaGreatDoor
open Go.RowKit
set_option linter.unusedVariables false
set_option linter.unusedSimpArgs false

set_option maxRecDepth 100000 in
set_option maxHeartbeats 3200000 in
theorem tone_first (w : World) (p : Nat) (h : w.rowIs p 130 3 (kmc none 0 0)) (k s : Int) (hk : K3 k) (h1 : 1 ≤ s) (h2 : s ≤ 2305843009213693952) :
    Calls Tryz.prog 62 #[.agg #[.int .u64 k, .int .i64 s], .int .i64 1, .pointer (some ⟨p, 0, none⟩)] w fun e w' => ∃ g, e = .returned (.int .i64 0) ∧ KG w' p g (tput (fun _ => none) k 0) ∧ w.heap.size ≤ g ∧ Fr (fun b => b = p ∨ w.heap.size ≤ b) w w' := by
  have L0 : Below w.heap.size w (w.alloc (.cells #[.int .u64 k, .int .i64 s] 83)) := (Below.refl _ w).alloc (Nat.le_refl _) _
  have H1 : (w.alloc (.cells #[.int .u64 k, .int .i64 s] 83)).rowIs p 130 3 (kmc none 0 0) := h.of_block (L0.block p h.lt)
  have KG1 := Lib.hid (kget_none _ p 0 none H1 k)
  have KP := Lib.hid (kput_first _ p H1 k 0 hk)
  have hk0 : ¬ k = 0 := by rcases hk with rfl | rfl | rfl <;> decide
  have hs1 : ¬ s < 1 := by omega
  have hs2 : ¬ 2305843009213693952 < s := by omega
  have L1 := Lib.hid L0
  clear h H1 L0
  go_enter Tryz.func62, Tryz.ntmps62
  go_wp2_with fail
  refine (KG1.out).mono ?_
  rintro e w' ⟨rfl, rfl⟩
  go_wp2_with fail
  refine (KP.out).mono ?_
  rintro e w2 ⟨g, rfl, k1, k2, k3⟩
  rw [World.size_alloc] at k2 k3
  have R := Lib.hid k1
  have F : Hid (Fr (fun b => b = p ∨ w.heap.size ≤ b) w w2) := (Fr.of_below L1.out).trans (k3.mono fun b h => h.imp id fun h => by omega)
  clear k1 k3 KP KG1
  go_wp2_with fail
  go_ret
  exact ⟨g, rfl, R.out, by omega, F.out⟩
set_option maxRecDepth 100000 in
set_option maxHeartbeats 3200000 in
theorem tone_new (w : World) (p g : Nat) (T : Int → Option Int) (h : KG w p g T) (k s : Int) (hk : K3 k) (hT : T k = none) (hm : 0 < kmany T) (hm3 : kmany T ≤ 3) (h1 : 1 ≤ s) (h2 : s ≤ 2305843009213693952) :
    Calls Tryz.prog 62 #[.agg #[.int .u64 k, .int .i64 s], .int .i64 1, .pointer (some ⟨p, 0, none⟩)] w fun e w' => e = .returned (.int .i64 0) ∧ KG w' p g (tput T k 0) ∧ Fr (fun b => b = p ∨ b = g) w w' := by
  have L0 : Below w.heap.size w (w.alloc (.cells #[.int .u64 k, .int .i64 s] 83)) := (Below.refl _ w).alloc (Nat.le_refl _) _
  have H1 := h.below L0
  have KG1 := Lib.hid (kget_any _ p g T H1 k hk hm)
  rw [hT] at KG1
  have hk0 : ¬ k = 0 := by rcases hk with rfl | rfl | rfl <;> decide
  have hs1 : ¬ s < 1 := by omega
  have hs2 : ¬ 2305843009213693952 < s := by omega
  have L1 := Lib.hid L0
  have HH := Lib.hid H1
  clear h H1 L0
  go_enter Tryz.func62, Tryz.ntmps62
  go_wp2_with fail
  refine (KG1.out).mono ?_
  rintro e w1 ⟨rfl, b1⟩
  have KP := Lib.hid (kput_new w1 p g T (HH.out.below b1) k 0 hk hT hm3)
  have B1 : Hid (Below w.heap.size w w1) := L1.out.trans (b1.mono (by rw [World.size_alloc]; omega))
  have c0 := (b1.cell (p := ⟨w.heap.size, 0, none⟩) (by show w.heap.size < _; simp)).trans (show (w.alloc (.cells #[.int .u64 k, .int .i64 s] 83)).cell? ⟨w.heap.size, 0, none⟩ = some (.int .u64 k) from by simp)
  have c1 := (b1.cell (p := ⟨w.heap.size, 1, none⟩) (by show w.heap.size < _; simp)).trans (show (w.alloc (.cells #[.int .u64 k, .int .i64 s] 83)).cell? ⟨w.heap.size, 1, none⟩ = some (.int .i64 s) from by simp)
  clear b1 KG1 HH
  go_wp2_with fail
  refine (KP.out).mono ?_
  rintro e w2 ⟨rfl, k1, k3⟩
  have R := Lib.hid k1
  have F : Hid (Fr (fun b => b = p ∨ b = g) w w2) := (Fr.of_below B1.out).trans k3
  clear k1 k3 KP
  go_wp2_with fail
  go_ret
  exact ⟨rfl, R.out, F.out⟩

/-- The cells of the table. -/
def tabC : Nat → Value := fun j => if j = 0 then .int .u64 9 else if j = 1 then .int .i64 4 else if j = 2 then .int .u64 7 else .int .i64 3
set_option maxRecDepth 100000 in
set_option maxHeartbeats 6400000 in
theorem tcheck_ok (w : World) (t : Nat) (h : w.rowIs t 83 4 tabC) :
    Calls Tryz.prog 32 #[.slice (some ⟨t, 0, none⟩) 2 2, .int .i64 1] w fun e w' => e = .returned (.tuple #[.int .i64 0, .int .i64 0]) ∧ Below w.heap.size w w' := by
  have KN := Lib.hid (knew_any w)
  have ht := h.lt
  have HT := Lib.hid h
  clear h
  go_enter Tryz.func32, Tryz.ntmps32
  go_wp2_with fail
  refine (KN.out).mono ?_
  rintro e w1 ⟨rfl, k1, k2⟩
  have R1 := Lib.hid k1
  have B1 := Lib.hid k2
  clear KN k1 k2
  go_wp2_with fail
  obtain ⟨p, ep⟩ : ∃ p, p = w.heap.size := ⟨_, rfl⟩
  have EP := Lib.hid ep
  rw [← ep] at R1 ⊢
  clear ep
  go_loopw [24] (fun i wr => ∃ k : Nat, i = .int .i64 k ∧ Hid ((k = 0 ∧ wr.rowIs p 130 3 (kmc none 0 0)) ∨ (k = 1 ∧ ∃ g, w.heap.size ≤ g ∧ KG wr p g (tput (fun _ => none) 9 0)) ∨ k = 2) ∧ Hid (Below w.heap.size w wr)) (fun i _ => 2 - (intOf i).toNat)
  case atStart => exact ⟨0, rfl, .inl ⟨rfl, R1.out⟩, B1⟩
  case round =>
    obtain ⟨k, rfl, hM, hD⟩ := hrel
    clear R1 B1
    have T := HT.out.of_block (hD.out.block t ht)
    have t0 : wr.cell? ⟨t, 0, none⟩ = some (.int .u64 9) := T.cell (i := 0) (by omega)
    have t1 : wr.cell? ⟨t, 1, none⟩ = some (.int .i64 4) := T.cell (i := 1) (by omega)
    have t2 : wr.cell? ⟨t, 2, none⟩ = some (.int .u64 7) := T.cell (i := 2) (by omega)
    have t3 : wr.cell? ⟨t, 3, none⟩ = some (.int .i64 3) := T.cell (i := 3) (by omega)
    clear T
    rcases hM.out with ⟨rfl, hR⟩ | ⟨rfl, g, hg, hR⟩ | rfl
    · have L0 : Below wr.heap.size wr (wr.alloc (.cells #[.int .u64 9, .int .i64 4] 83)) := (Below.refl _ wr).alloc (Nat.le_refl _) _
      have KO := Lib.hid (tone_first (wr.alloc (.cells #[.int .u64 9, .int .i64 4] 83)) p (hR.of_block (L0.block p hR.lt)) 9 4 (.inr (.inr rfl)) (by omega) (by omega))
      have B1 := Lib.hid (hD.out.trans (L0.mono hD.out.size))
      have hsz := hD.out.size
      clear hM hD hR L0
      go_wp2_with fail
      refine (KO.out).mono ?_
      rintro e w2 ⟨g, rfl, k1, k2, k3⟩
      have R2 := Lib.hid k1
      have B2 : Hid (Below w.heap.size w w2) := B1.out.trans (k3.below (by rw [World.size_alloc]; omega) (fun b h => by rw [World.size_alloc] at h; have := EP.out; omega))
      have hg : w.heap.size ≤ g := by rw [World.size_alloc] at k2; omega
      clear KO k1 k3
      go_wp2_with fail
      go_roundw
      case rel => exact ⟨1, by go_num, .inr (.inl ⟨rfl, g, hg, R2.out⟩), B2⟩
      case measure => simp [intOf]
    · have L0 : Below wr.heap.size wr (wr.alloc (.cells #[.int .u64 7, .int .i64 3] 83)) := (Below.refl _ wr).alloc (Nat.le_refl _) _
      have KO := Lib.hid (tone_new (wr.alloc (.cells #[.int .u64 7, .int .i64 3] 83)) p g _ (hR.below L0) 7 3 (.inl rfl) rfl (by decide) (by decide) (by omega) (by omega))
      have B1 := Lib.hid (hD.out.trans (L0.mono hD.out.size))
      have hsz := hD.out.size
      clear hM hD hR L0
      go_wp2_with fail
      refine (KO.out).mono ?_
      rintro e w2 ⟨rfl, k1, k3⟩
      have B2 : Hid (Below w.heap.size w w2) := B1.out.trans (k3.below (by rw [World.size_alloc]; omega) (fun b h => by have := EP.out; omega))
      clear KO k1 k3
      go_wp2_with fail
      go_roundw
      case rel => exact ⟨2, by go_num, .inr (.inr rfl), B2⟩
      case measure => simp [intOf]
    · go_wp2_with fail
      go_ret2
      exact ⟨rfl, hD.out⟩
end Go.Proofs.YtfmfmeiaekknbaaGreatDoor
end

section
/-
  Longest rising subsequences, plainly: lengths from each position on; the patience row; a greatest one; moves that carry an order into another one. No Go text.
-/
namespace Go.Proofs.YtfmfmeiaekknbaaGreatDoor
open Go.RowKit
set_option linter.unusedVariables false

/-- f i is the length of the longest rising subsequence that begins at i, for each i from d on. -/
def IsFr (l : Nat → Int) (n d : Nat) (f : Nat → Nat) : Prop :=
  ∀ i, d ≤ i → i < n → 1 ≤ f i ∧ (∀ j, i < j → j < n → l i < l j → f j + 1 ≤ f i) ∧ (f i = 1 ∨ ∃ j, i < j ∧ j < n ∧ l i < l j ∧ f i = f j + 1)
/-- The patience row of the positions from d on: S k is the greatest first number of those of length k + 1. -/
structure Pat (l : Nat → Int) (n d : Nat) (f : Nat → Nat) (S : Nat → Int) (K : Nat) : Prop where
  fr : IsFr l n d f
  at_ : ∀ k, k < K → ∃ j, d ≤ j ∧ j < n ∧ f j = k + 1 ∧ l j = S k
  top : ∀ j, d ≤ j → j < n → ∀ k, k < f j → l j ≤ S k
  le : ∀ j, d ≤ j → j < n → f j ≤ K
  kn : K + d ≤ n
theorem Pat.start (l : Nat → Int) (n : Nat) (f : Nat → Nat) (S : Nat → Int) : Pat l n n f S 0 :=
  ⟨fun i h1 h2 => by omega, fun k hk => by omega, fun j h1 h2 => by omega, fun j h1 h2 => by omega, by omega⟩
theorem Pat.desc {l : Nat → Int} {n d : Nat} {f : Nat → Nat} {S : Nat → Int} {K : Nat} (h : Pat l n d f S K) {k : Nat} (hk : k + 1 < K) : S (k + 1) < S k := by
  obtain ⟨j, h1, h2, h3, h4⟩ := h.at_ (k + 1) hk
  obtain ⟨_, _, h5⟩ := h.fr j h1 h2
  rcases h5 with h5 | ⟨j', q1, q2, q3, q4⟩
  · omega
  · have := h.top j' (by omega) q2 k (by omega)
    omega
theorem Pat.mono {l : Nat → Int} {n d : Nat} {f : Nat → Nat} {S : Nat → Int} {K : Nat} (h : Pat l n d f S K) {a b : Nat} (hab : a ≤ b) (hb : b < K) : S b ≤ S a := by
  induction b with
  | zero => rw [show a = 0 by omega]; exact Int.le_refl _
  | succ b ih =>
    by_cases e : a = b + 1
    · rw [e]; exact Int.le_refl _
    · have := ih (by omega) (by omega)
      have := h.desc hb
      omega
theorem Pat.step {l : Nat → Int} {n d : Nat} {f : Nat → Nat} {S : Nat → Int} {K : Nat} (h : Pat l n (d + 1) f S K) {k : Nat} (hk : k ≤ K) (h1 : ∀ j, j < k → l d < S j) (h2 : k < K → S k ≤ l d) :
    Pat l n d (fun i => if i = d then k + 1 else f i) (fun i => if i = k then l d else S i) (max K (k + 1)) := by
  have hne : ∀ {j}, d < j → ¬ j = d := fun h => by omega
  have F : ∀ j, d < j → (fun i => if i = d then k + 1 else f i) j = f j := fun j hj => if_neg (by omega)
  have hkn := h.kn
  refine ⟨fun i hi hin => ?_, fun a ha => ?_, fun j hj hjn a ha => ?_, fun j hj hjn => ?_, by omega⟩
  · by_cases e : i = d
    · subst e
      show 1 ≤ (if i = i then k + 1 else f i) ∧ (∀ j, i < j → j < n → l i < l j → (if j = i then k + 1 else f j) + 1 ≤ (if i = i then k + 1 else f i)) ∧ ((if i = i then k + 1 else f i) = 1 ∨ ∃ j, i < j ∧ j < n ∧ l i < l j ∧ (if i = i then k + 1 else f i) = (if j = i then k + 1 else f j) + 1)
      rw [if_pos rfl]
      refine ⟨by omega, fun j q1 q2 q3 => ?_, ?_⟩
      · rw [if_neg (by omega)]
        have hK := h.le j (by omega) q2
        by_cases c : k < f j
        · have := h.top j (by omega) q2 k c
          have := h2 (by omega)
          omega
        · omega
      · by_cases c : k = 0
        · left; omega
        · right
          obtain ⟨j, q1, q2, q3, q4⟩ := h.at_ (k - 1) (by omega)
          have := h1 (k - 1) (by omega)
          exact ⟨j, by omega, q2, by omega, by rw [if_neg (by omega)]; omega⟩
    · obtain ⟨q1, q2, q3⟩ := h.fr i (by omega) hin
      show 1 ≤ (if i = d then k + 1 else f i) ∧ (∀ j, i < j → j < n → l i < l j → (if j = d then k + 1 else f j) + 1 ≤ (if i = d then k + 1 else f i)) ∧ ((if i = d then k + 1 else f i) = 1 ∨ ∃ j, i < j ∧ j < n ∧ l i < l j ∧ (if i = d then k + 1 else f i) = (if j = d then k + 1 else f j) + 1)
      rw [if_neg e]
      refine ⟨q1, fun j a b c => by rw [if_neg (by omega)]; exact q2 j a b c, q3.imp id fun ⟨j, a, b, c, e'⟩ => ⟨j, a, b, c, by rw [if_neg (by omega)]; exact e'⟩⟩
  · show ∃ j, d ≤ j ∧ j < n ∧ (if j = d then k + 1 else f j) = a + 1 ∧ l j = (if a = k then l d else S a)
    by_cases e : a = k
    · subst e
      exact ⟨d, Nat.le_refl _, by omega, by rw [if_pos rfl], by rw [if_pos rfl]⟩
    · obtain ⟨j, q1, q2, q3, q4⟩ := h.at_ a (by omega)
      exact ⟨j, by omega, q2, by rw [if_neg (by omega)]; exact q3, by rw [if_neg e]; exact q4⟩
  · show l j ≤ (if a = k then l d else S a)
    by_cases e : j = d
    · subst e
      have ha' : a < k + 1 := by have := ha; rwa [if_pos rfl] at this
      by_cases c : a = k
      · rw [if_pos c]; exact Int.le_refl _
      · rw [if_neg c]; have := h1 a (by omega); omega
    · have ha' : a < f j := by have := ha; rwa [if_neg e] at this
      by_cases c : a = k
      · subst c
        rw [if_pos rfl]
        have := h.top j (by omega) hjn a ha'
        have hK := h.le j (by omega) hjn
        have := h2 (by omega)
        omega
      · rw [if_neg c]; exact h.top j (by omega) hjn a ha'
  · show (if j = d then k + 1 else f j) ≤ _
    by_cases e : j = d
    · rw [if_pos e]; omega
    · rw [if_neg e]; have := h.le j (by omega) hjn; omega

/-- r lists m positions below n, rising, of rising numbers. -/
structure Rise (l : Nat → Int) (n m : Nat) (r : Nat → Nat) : Prop where
  lt : ∀ a, a < m → r a < n
  up : ∀ a, a + 1 < m → r a < r (a + 1)
  num : ∀ a, a + 1 < m → l (r a) < l (r (a + 1))
/-- No rising subsequence is longer than the greatest of the lengths. -/
theorem Rise.le {l : Nat → Int} {n m : Nat} {r : Nat → Nat} (h : Rise l n m r) {f : Nat → Nat} (hf : IsFr l n 0 f) {M : Nat} (hM : ∀ i, i < n → f i ≤ M) : m ≤ M := by
  have key : ∀ c a, a + c + 1 = m → c + 1 ≤ f (r a) := by
    intro c
    induction c with
    | zero => intro a ha; exact (hf (r a) (by omega) (h.lt a (by omega))).1
    | succ c ih =>
      intro a ha
      have h1 := ih (a + 1) (by omega)
      have h2 := (hf (r a) (by omega) (h.lt a (by omega))).2.1 (r (a + 1)) (h.up a (by omega)) (h.lt (a + 1) (by omega)) (h.num a (by omega))
      omega
  by_cases c : m = 0
  · omega
  · have h1 := key (m - 1) 0 (by omega)
    have h2 := hM (r 0) (h.lt 0 (by omega))
    omega
/-- A greatest rising subsequence. -/
structure Longest (l : Nat → Int) (n m : Nat) (r : Nat → Nat) : Prop where
  rise : Rise l n m r
  best : ∀ m' r', Rise l n m' r' → m' ≤ m
/-- The state of the scan: the first i positions looked at; q positions taken; left to take. -/
structure Scan (l : Nat → Int) (n : Nat) (f : Nat → Nat) (M i q : Nat) (r : Nat → Nat) : Prop where
  le : q ≤ M
  rise : Rise l n q r
  lt : ∀ a, a < q → r a < i ∧ f (r a) = M - a
  no : q < M → ∀ j, j < i → (0 < q → r (q - 1) < j ∧ l (r (q - 1)) < l j) → f j ≠ M - q
theorem Scan.start (l : Nat → Int) (n : Nat) (f : Nat → Nat) (M : Nat) (r : Nat → Nat) : Scan l n f M 0 0 r :=
  ⟨Nat.zero_le _, ⟨fun a h => by omega, fun a h => by omega, fun a h => by omega⟩, fun a h => by omega, fun _ j h => by omega⟩
theorem Scan.skip {l : Nat → Int} {n : Nat} {f : Nat → Nat} {M i q : Nat} {r : Nat → Nat} (h : Scan l n f M i q r) (hs : f i ≠ M - q ∨ (0 < q ∧ l i ≤ l (r (q - 1)))) : Scan l n f M (i + 1) q r :=
  ⟨h.le, h.rise, fun a ha => ⟨by have := (h.lt a ha).1; omega, (h.lt a ha).2⟩, fun hq j hj hc => by
    by_cases e : j = i
    · subst e
      rcases hs with hs | ⟨h1, h2⟩
      · exact hs
      · have := (hc h1).2; omega
    · exact h.no hq j (by omega) hc⟩
theorem Scan.take {l : Nat → Int} {n : Nat} {f : Nat → Nat} {M i q : Nat} {r : Nat → Nat} (h : Scan l n f M i q r) (hi : i < n) (hq : q < M) (hs : f i = M - q) (h2 : 0 < q → l (r (q - 1)) < l i) : Scan l n f M (i + 1) (q + 1) (fun a => if a = q then i else r a) := by
  have R : ∀ a, a < q → (if a = q then i else r a) = r a := fun a ha => if_neg (by omega)
  refine ⟨hq, ⟨fun a ha => ?_, fun a ha => ?_, fun a ha => ?_⟩, fun a ha => ?_, fun hq2 j hj hc => ?_⟩
  · show (if a = q then i else r a) < n
    by_cases e : a = q
    · rw [if_pos e]; exact hi
    · rw [if_neg e]; exact h.rise.lt a (by omega)
  · show (if a = q then i else r a) < (if a + 1 = q then i else r (a + 1))
    rw [R a (by omega)]
    by_cases e : a + 1 = q
    · rw [if_pos e]; exact (h.lt a (by omega)).1
    · rw [if_neg e]; exact h.rise.up a (by omega)
  · show l (if a = q then i else r a) < l (if a + 1 = q then i else r (a + 1))
    rw [R a (by omega)]
    by_cases e : a + 1 = q
    · rw [if_pos e]; have := h2 (by omega); rwa [show q - 1 = a by omega] at this
    · rw [if_neg e]; exact h.rise.num a (by omega)
  · show (if a = q then i else r a) < i + 1 ∧ f (if a = q then i else r a) = M - a
    by_cases e : a = q
    · rw [if_pos e, e]; exact ⟨by omega, hs⟩
    · rw [if_neg e]; have := h.lt a (by omega); exact ⟨by omega, this.2⟩
  · have := (hc (by omega)).1
    rw [show q + 1 - 1 = q by omega, if_pos rfl] at this
    omega
/-- At the end all are taken. -/
theorem Scan.done {l : Nat → Int} {n : Nat} {f : Nat → Nat} {M q : Nat} {r : Nat → Nat} (h : Scan l n f M n q r) (hf : IsFr l n 0 f) (hM : ∃ i, i < n ∧ f i = M) : q = M := by
  by_cases c : q = M
  · exact c
  · have hq : q < M := by have := h.le; omega
    exfalso
    by_cases c0 : q = 0
    · obtain ⟨i, h1, h2⟩ := hM
      exact h.no hq i h1 (fun h => by omega) (by omega)
    · obtain ⟨h1, h2⟩ := h.lt (q - 1) (by omega)
      obtain ⟨_, _, h3⟩ := hf (r (q - 1)) (by omega) h1
      rcases h3 with h3 | ⟨j, a, b, c', d⟩
      · omega
      · exact h.no hq j b (fun _ => ⟨a, c'⟩) (by omega)
end Go.Proofs.YtfmfmeiaekknbaaGreatDoor
end

section
/-
  Package rises: the lengths (by sort.Search over the patience row).
-/
namespace Go.Proofs.YtfmfmeiaekknbaaGreatDoor
open Go.RowKit
set_option linter.unusedVariables false
set_option linter.unusedSimpArgs false

/-- What the closure of lengths looks at: the row of starts, the list, the position. -/
structure LC (w : World) (bs bl pi gs K c : Nat) (S : Nat → Int) (A : Option Addr) (nl cl : Nat) (l : Nat → Int) (i : Nat) : Prop where
  b1 : w.cell? ⟨bs, 0, none⟩ = some (.slice (some ⟨gs, 0, none⟩) K c)
  b2 : w.cell? ⟨bl, 0, none⟩ = some (.slice A nl cl)
  b3 : w.cell? ⟨pi, 0, none⟩ = some (.int .i64 i)
  s : ∀ k, k < K → w.cell? ⟨gs, k, none⟩ = some (.int .i64 (S k))
  l : ∃ b o, A = some ⟨b, o, none⟩ ∧ w.cell? ⟨b, o + i, none⟩ = some (.int .i64 (l i))
  hi : i < nl
theorem LC.drawn {w w' : World} {bs bl pi gs K c : Nat} {S : Nat → Int} {A : Option Addr} {nl cl : Nat} {l : Nat → Int} {i : Nat} (h : LC w bs bl pi gs K c S A nl cl l i) (hd : Drawn w w') : LC w' bs bl pi gs K c S A nl cl l i := by obtain ⟨q, rfl⟩ := hd; exact ⟨h.b1, h.b2, h.b3, h.s, h.l, h.hi⟩
set_option maxRecDepth 100000 in
set_option maxHeartbeats 1600000 in
theorem lclos_any (w : World) (bs bl pi gs K c : Nat) (S : Nat → Int) (A : Option Addr) (nl cl : Nat) (l : Nat → Int) (i : Nat) (h : LC w bs bl pi gs K c S A nl cl l i) (k : Nat) (hk : k < K) (hK : K ≤ 4096) (hn : nl ≤ 4096) :
    Calls Tryz.prog 133 #[.int .i64 k, .pointer (some ⟨bs, 0, none⟩), .pointer (some ⟨bl, 0, none⟩), .pointer (some ⟨pi, 0, none⟩)] w fun e w' => e = .returned (.bool (decide (S k ≤ l i))) ∧ Drawn w w' := by
  obtain ⟨b1, b2, b3, s, ⟨b, o, rfl, c2⟩, hi⟩ := h
  have c1 := s k hk
  have hki : (k : Int) < (K : Int) := by omega
  have hii : (i : Int) < (nl : Int) := by omega
  clear s
  generalize S k = x at *
  generalize l i = y at *
  go_enter Tryz.func133, Tryz.ntmps133
  go_wp2_with fail
  go_quiet (fail)
  go_wp2_with fail
  go_ret
  exact ⟨rfl, _, rfl⟩
set_option maxRecDepth 100000 in
set_option maxHeartbeats 1600000 in
theorem search_any (w : World) (bs bl pi gs K c : Nat) (S : Nat → Int) (A : Option Addr) (nl cl : Nat) (l : Nat → Int) (i : Nat) (h : LC w bs bl pi gs K c S A nl cl l i) (hK : K ≤ 4096) (hn : nl ≤ 4096) (hm : ∀ a b, a ≤ b → b < K → S b ≤ S a) :
    Calls Tryz.prog 132 #[.int .i64 K, .func (.func 133) #[] #[.pointer (some ⟨bs, 0, none⟩), .pointer (some ⟨bl, 0, none⟩), .pointer (some ⟨pi, 0, none⟩)]] w fun e w' => ∃ k : Nat, e = .returned (.int .i64 k) ∧ (k ≤ K ∧ (∀ j, j < k → l i < S j) ∧ (k < K → S k ≤ l i)) ∧ Drawn w w' := by
  have H := Lib.hid h
  have HM := Lib.hid hm
  clear h hm
  go_enter Tryz.func132, Tryz.ntmps132
  go_wp2_with fail
  go_loopw [5, 6, 7] (fun a b _ wr => ∃ x y : Nat, a = .int .i64 x ∧ b = .int .i64 y ∧ x ≤ y ∧ y ≤ K ∧ Hid (∀ j, j < x → l i < S j) ∧ Hid (y < K → S y ≤ l i) ∧ Hid (Drawn w wr)) (fun a b _ _ => (intOf b).toNat - (intOf a).toNat)
  case atStart => exact ⟨0, K, rfl, rfl, Nat.zero_le _, Nat.le_refl _, fun j hj => by omega, fun h => by omega, Drawn.refl _⟩
  case round =>
    obtain ⟨x, y, rfl, rfl, hxy, hyK, h1, h2, hD⟩ := hrel
    by_cases hlt : x < y
    · have hlti : (x : Int) < (y : Int) := by omega
      obtain ⟨m, em⟩ : ∃ m, m = (x + y) / 2 := ⟨_, rfl⟩
      have hdiv : ((x : Int) + (y : Int)).fdiv (2 ^ min (Int.toNat 1) IntKind.u64.bits) = (m : Int) := by
        rw [show (2 : Int) ^ min (Int.toNat 1) IntKind.u64.bits = 2 from rfl, Int.fdiv_eq_ediv_of_nonneg _ (by omega)]; omega
      have hdiv2 : ((x : Int) + (y : Int)) / 2 = (m : Int) := by omega
      have KL := Lib.hid (lclos_any wr bs bl pi gs K c S A nl cl l i (H.out.drawn hD.out) m (by omega) hK hn)
      have EM := Lib.hid em
      have hmK : m < 4096 := by omega
      clear em
      go_wp2_with fail
      refine (KL.out).mono ?_
      rintro e wq ⟨rfl, hd⟩
      have D2 := Lib.hid (hD.out.trans hd)
      clear KL hdiv hdiv2 hd hD
      by_cases hs : S m ≤ l i
      · have N1 : Hid (m < K → S m ≤ l i) := fun _ => hs
        have hst := decide_eq_true hs
        generalize hv : decide (S m ≤ l i) = v at hst ⊢
        subst hst
        clear h2 hs
        go_wp2_with fail
        go_roundw
        case rel => exact ⟨x, m, rfl, rfl, by have := EM.out; omega, by have := EM.out; omega, h1, N1, D2⟩
        case measure => have := EM.out; simp [intOf]; omega
      · have N1 : Hid (∀ j, j < m + 1 → l i < S j) := fun j hj => by have := HM.out j m (by omega) (by have := EM.out; omega); omega
        have hst := decide_eq_false hs
        generalize hv : decide (S m ≤ l i) = v at hst ⊢
        subst hst
        clear h1 hs
        go_wp2_with fail
        go_roundw
        case rel => exact ⟨m + 1, y, by go_num, rfl, by have := EM.out; omega, hyK, N1, h2, D2⟩
        case measure => have := EM.out; simp [intOf]; omega
    · obtain rfl : x = y := by omega
      go_wp2_with fail
      go_ret
      exact ⟨x, rfl, ⟨hyK, h1.out, h2.out⟩, hD.out⟩

theorem infoIntR : (Tryz.prog.info? 3).map (fun i => (i.zero, i.size, i.bytes)) = some (some (.int .i64 0), 1, 8) := by kernel_rfl
theorem make_ints (n : Nat) (hn : n ≤ 100000) (W : World) : (Instr.makeSlice 64 (.int .i64 n) (.int .i64 n)).run Tryz.prog W = .ok (.slice (some ⟨W.heap.size, 0, none⟩) n n) (W.alloc (.cells (madeCells #[.int .i64 0] n) 3)) :=
  run_make_row' 64 3 (.int .i64 0) 8 Tryz.underlying64 infoIntR rfl .i64 .i64 n (by omega) (by omega) W
theorem make_introom (n : Nat) (hn : n ≤ 100000) (W : World) : (Instr.makeSlice 64 (.int .i64 0) (.int .i64 n)).run Tryz.prog W = .ok (.slice (some ⟨W.heap.size, 0, none⟩) 0 n) (W.alloc (.cells (madeCells #[.int .i64 0] n) 3)) :=
  run_make_room 64 3 (.int .i64 0) 8 Tryz.underlying64 infoIntR rfl .i64 .i64 n (by omega) (by omega) W

theorem slice_hm (A : Option Addr) (n c k : Nat) (h1 : k ≤ c) (wx : World) :
    (Instr.sliceAt 64 (.slice A n c) none (some (.int .i64 k)) (some (.int .i64 c))).run Tryz.prog wx = .ok (.slice A k c) wx := by
  have hb : ∀ wx, (Instr.sliceBounds true n c none (some (.int .i64 k)) (some (.int .i64 c))).run Tryz.prog wx = .ok (0, k, c) wx := fun wx => by
    simp [Instr.sliceBounds, run_sliceBound, h1]
  have := slice_of_bounds (P := Tryz.prog) (sz := 1) Tryz.underlying64 (by kernel_rfl) A n c none (some (.int .i64 k)) (some (.int .i64 c)) hb wx
  rw [subA_zero] at this
  exact this

/-- The memory of lengths: the list's box, the lengths, the patience row, its box, the position's box. -/
structure LS (w wr : World) (A : Option Addr) (n c : Nat) (l : Nat → Int) (d K : Nat) (f : Nat → Nat) (S : Nat → Int) (pi : Nat) : Prop where
  bl : wr.rowIs w.heap.size 64 1 (fun _ => .slice A n c)
  go : wr.rowIs (w.heap.size + 1) 3 n (i64s fun j => if j < d then 0 else f j)
  gs : wr.rowIs (w.heap.size + 1 + 1) 3 n (i64s S)
  bs : wr.rowIs (w.heap.size + 1 + 1 + 1) 64 1 (fun _ => .slice (some ⟨w.heap.size + 1 + 1, 0, none⟩) K n)
  ip : wr.rowIs pi 3 1 (fun _ => .int .i64 ((d : Int) - 1))
  pb : w.heap.size + 1 + 1 + 1 < pi
  pat : Pat l n d f S K
  be : Below w.heap.size w wr
theorem LS.drawn {w wr wr' : World} {A : Option Addr} {n c : Nat} {l : Nat → Int} {d K : Nat} {f : Nat → Nat} {S : Nat → Int} {pi : Nat} (h : LS w wr A n c l d K f S pi) (hd : Drawn wr wr') : LS w wr' A n c l d K f S pi := by
  obtain ⟨q, rfl⟩ := hd
  exact ⟨h.bl, h.go, h.gs, h.bs, h.ip, h.pb, h.pat, Go.below_drewN h.be q⟩
theorem LS.lc {w wr : World} {A : Option Addr} {n c : Nat} {l : Nat → Int} {e K : Nat} {f : Nat → Nat} {S : Nat → Int} {pi : Nat} (h : LS w wr A n c l (e + 1) K f S pi) (hl : Sees w w.heap.size A n (i64s l)) (he : e < n) :
    LC wr (w.heap.size + 1 + 1 + 1) w.heap.size pi (w.heap.size + 1 + 1) K n S A n c l e := by
  have hk := h.pat.kn
  have h3 := h.ip.cell (i := 0) (by omega)
  rw [show ((e + 1 : Nat) : Int) - 1 = e by omega] at h3
  obtain ⟨b, o, e1, _, e2⟩ := (hl.below h.be).at_ he
  exact ⟨h.bs.cell (i := 0) (by omega), h.bl.cell (i := 0) (by omega), h3, fun k hk' => h.gs.cell (i := k) (by omega), ⟨b, o, e1, e2⟩, he⟩
theorem row1_set {w : World} {g : Nat} {t : TypeId} {v : Value} (h : w.rowIs g t 1 (fun _ => v)) (u : Value) : (w.setCell ⟨g, 0, none⟩ u).rowIs g t 1 (fun _ => u) :=
  (h.set 0 u).congr fun j hj => by
    have : j = 0 := by omega
    subst this; rfl
theorem row_past {w : World} {g b i : Nat} {t : TypeId} {n : Nat} {F : Nat → Value} (h : w.rowIs g t n F) (hb : g ≠ b) (u : Value) : (w.setCell ⟨b, i, none⟩ u).rowIs g t n F := h.of_block (Below.heap_setCell _ _ _ _ hb)
theorem row_alloc {w : World} {g : Nat} {t : TypeId} {n : Nat} {F : Nat → Value} (h : w.rowIs g t n F) (o : Obj) : (w.alloc o).rowIs g t n F := h.of_block (Below.heap_alloc _ _ _ h.lt)
/-- The patience row grows. -/
theorem LS.grow {w wr : World} {A : Option Addr} {n c : Nat} {l : Nat → Int} {d K K' : Nat} {f : Nat → Nat} {S : Nat → Int} {pi : Nat} (h : LS w wr A n c l d K f S pi) :
    ((wr.setCell ⟨w.heap.size + 1 + 1 + 1, 0, none⟩ (.slice (some ⟨w.heap.size + 1 + 1, 0, none⟩) K' n)).rowIs w.heap.size 64 1 (fun _ => .slice A n c)) ∧
    ((wr.setCell ⟨w.heap.size + 1 + 1 + 1, 0, none⟩ (.slice (some ⟨w.heap.size + 1 + 1, 0, none⟩) K' n)).rowIs (w.heap.size + 1) 3 n (i64s fun j => if j < d then 0 else f j)) ∧
    ((wr.setCell ⟨w.heap.size + 1 + 1 + 1, 0, none⟩ (.slice (some ⟨w.heap.size + 1 + 1, 0, none⟩) K' n)).rowIs (w.heap.size + 1 + 1) 3 n (i64s S)) ∧
    ((wr.setCell ⟨w.heap.size + 1 + 1 + 1, 0, none⟩ (.slice (some ⟨w.heap.size + 1 + 1, 0, none⟩) K' n)).rowIs (w.heap.size + 1 + 1 + 1) 64 1 (fun _ => .slice (some ⟨w.heap.size + 1 + 1, 0, none⟩) K' n)) ∧
    ((wr.setCell ⟨w.heap.size + 1 + 1 + 1, 0, none⟩ (.slice (some ⟨w.heap.size + 1 + 1, 0, none⟩) K' n)).rowIs pi 3 1 (fun _ => .int .i64 ((d : Int) - 1))) ∧
    Below w.heap.size w (wr.setCell ⟨w.heap.size + 1 + 1 + 1, 0, none⟩ (.slice (some ⟨w.heap.size + 1 + 1, 0, none⟩) K' n)) :=
  ⟨row_past h.bl (by omega) _, row_past h.go (by omega) _, row_past h.gs (by omega) _, row1_set h.bs _, row_past h.ip (by have := h.pb; omega) _, h.be.setCell (p := ⟨w.heap.size + 1 + 1 + 1, 0, none⟩) (by show w.heap.size ≤ w.heap.size + 1 + 1 + 1; omega) _⟩

def lenOf (w : World) (v : Value) : Nat := match v with
  | .pointer (some p) => match w.cell? p with
    | some (.int _ x) => (x + 1).toNat
    | _ => 0
  | _ => 0
theorem lenOf_at {w : World} {p : Nat} {x : Int} (h : w.cell? ⟨p, 0, none⟩ = some (.int .i64 x)) : lenOf w (.pointer (some ⟨p, 0, none⟩)) = (x + 1).toNat := by simp only [lenOf, h]
set_option maxRecDepth 100000 in
set_option maxHeartbeats 6400000 in
theorem lengths_any (w : World) (A : Option Addr) (n c : Nat) (l : Nat → Int) (h : Sees w w.heap.size A n (i64s l)) (hn : n ≤ 4096) :
    Calls Tryz.prog 114 #[.slice A n c] w fun e w' => ∃ g f, e = .returned (.slice (some ⟨g, 0, none⟩) n n) ∧ IsFr l n 0 f ∧ w'.rowIs g 3 n (i64s fun j => f j) ∧ w.heap.size ≤ g ∧ Below w.heap.size w w' := by
  have H := Lib.hid h
  have m1 := make_ints n (by omega)
  have m2 := make_introom n (by omega)
  have ST : Hid (LS w (((((w.alloc (.cells #[.slice A n c] 64)).alloc (.cells (madeCells #[.int .i64 0] n) 3)).alloc (.cells (madeCells #[.int .i64 0] n) 3)).alloc (.cells #[.slice (some ⟨w.heap.size + 1 + 1, 0, none⟩) 0 n] 64)).alloc (.cells #[.int .i64 ((n : Int) - 1)] 3)) A n c l n 0 (fun _ => 0) (fun _ => 0) (w.heap.size + 1 + 1 + 1 + 1)) := by
    have one : ∀ (W : World) (v : Value) (t : TypeId), (W.alloc (.cells #[v] t)).rowIs W.heap.size t 1 (fun _ => v) := fun W v t => World.rowIs_alloc W #[v] t _ (fun j hj => by
      have : j = 0 := by simp at hj; omega
      subst this; rfl)
    have z : ∀ W : World, (W.alloc (.cells (madeCells #[.int .i64 0] n) 3)).rowIs W.heap.size 3 n (fun _ => .int .i64 0) := fun W => World.rowIs_made W (.int .i64 0) n 3
    have r1 := one w (.slice A n c) 64
    have r2 := (z (w.alloc (.cells #[.slice A n c] 64)))
    have r3 := (z ((w.alloc (.cells #[.slice A n c] 64)).alloc (.cells (madeCells #[.int .i64 0] n) 3)))
    have r4 := one (((w.alloc (.cells #[.slice A n c] 64)).alloc (.cells (madeCells #[.int .i64 0] n) 3)).alloc (.cells (madeCells #[.int .i64 0] n) 3)) (.slice (some ⟨w.heap.size + 1 + 1, 0, none⟩) 0 n) 64
    have r5 := one ((((w.alloc (.cells #[.slice A n c] 64)).alloc (.cells (madeCells #[.int .i64 0] n) 3)).alloc (.cells (madeCells #[.int .i64 0] n) 3)).alloc (.cells #[.slice (some ⟨w.heap.size + 1 + 1, 0, none⟩) 0 n] 64)) (.int .i64 ((n : Int) - 1)) 3
    simp only [World.size_alloc] at r2 r3 r4 r5
    refine ⟨row_alloc (row_alloc (row_alloc (row_alloc r1 _) _) _) _, (row_alloc (row_alloc (row_alloc r2 _) _) _).congr fun j hj => ?_, row_alloc (row_alloc r3 _) _, row_alloc r4 _, r5, by omega, Pat.start l n _ _, ?_⟩
    · show Value.int .i64 0 = .int .i64 (if j < n then 0 else ((0 : Nat) : Int)); rw [if_pos hj]
    · exact (((((Below.refl _ w).alloc (Nat.le_refl _) _).alloc (by simp) _).alloc (by simp; omega) _).alloc (by simp; omega) _).alloc (by simp; omega) _
  clear h
  go_enter Tryz.func114, Tryz.ntmps114
  go_wp2_with fail
  clear m1 m2
  go_loopw [5, 6] (fun p k wr => ∃ (d K : Nat) (f : Nat → Nat) (S : Nat → Int) (pi : Nat), p = .pointer (some ⟨pi, 0, none⟩) ∧ Hid (LS w wr A n c l d K f S pi)) (fun p _ wr => lenOf wr p)
  case atStart => exact ⟨n, 0, _, _, _, rfl, ST⟩
  case round =>
    obtain ⟨d, K, f, S, pi, rfl, hS⟩ := hrel
    clear ST
    have hkn := hS.out.pat.kn
    by_cases hd0 : d = 0
    · subst hd0
      have c5 : wr.cell? ⟨pi, 0, none⟩ = some (.int .i64 (-1)) := hS.out.ip.cell (i := 0) (by omega)
      go_wp2_with fail
      go_ret
      refine ⟨_, f, rfl, hS.out.pat.fr, hS.out.go.congr fun j hj => ?_, by omega, hS.out.be⟩
      show Value.int .i64 (if j < 0 then 0 else ((f j : Nat) : Int)) = _
      rw [if_neg (by omega)]; rfl
    · obtain ⟨e, rfl⟩ : ∃ e, d = e + 1 := ⟨d - 1, by omega⟩
      have he : e < n := by omega
      have c5 : wr.cell? ⟨pi, 0, none⟩ = some (.int .i64 e) := by
        have := hS.out.ip.cell (i := 0) (by omega)
        rwa [show ((e + 1 : Nat) : Int) - 1 = e by omega] at this
      have hge : (0 : Int) ≤ (e : Int) := by omega
      have c6 := hS.out.bs.cell (i := 0) (by omega)
      have KS := Lib.hid (search_any wr (w.heap.size + 1 + 1 + 1) w.heap.size pi (w.heap.size + 1 + 1) K n S A n c l e (hS.out.lc H.out he) (by omega) hn (fun a b => hS.out.pat.mono))
      go_wp2_with fail
      refine (KS.out).mono ?_
      rintro e' wq ⟨k, rfl, ⟨hk1, hk2, hk3⟩, hd⟩
      have S1 := Lib.hid (hS.out.drawn hd)
      have HK2 := Lib.hid hk2
      have HK3 := Lib.hid hk3
      clear KS c5 c6 hd hk2 hk3
      have c6 := S1.out.bs.cell (i := 0) (by omega)
      have c7 := S1.out.bs.frozen 0
      by_cases hkK : k = K
      · subst hkK
        have hsl := slice_hm (some ⟨w.heap.size + 1 + 1, 0, none⟩) k n (k + 1) (by omega)
        rw [Int.natCast_add] at hsl
        obtain ⟨bl1, go1, gs1, bs1, ip1, be1⟩ := S1.out.grow (K' := k + 1)
        go_wp2_with fail
        clear c6 c7 hsl
        have e1 := bl1.cell (i := 0) (by omega)
        have e2 := bs1.cell (i := 0) (by omega)
        have e3 := ip1.cell (i := 0) (by omega)
        have e4 := gs1.cell (i := k) (by omega)
        have e5 := fun i => gs1.frozen i
        have e6 := go1.cell (i := e) (by omega)
        have e7 := fun i => go1.frozen i
        rw [show ((e + 1 : Nat) : Int) - 1 = e by omega] at e3
        obtain ⟨b, o, rfl, hbB, e8⟩ := (H.out.below be1).at_ he
        rw [i64s_at] at e8 e4 e6
        have n1 := bl1.lt
        have n2 := bs1.lt
        have n3 := ip1.lt
        have n4 := gs1.lt
        have n5 := go1.lt
        have hee : (e : Int) < (n : Int) := by omega
        have hpb := S1.out.pb
        have x1 : ¬ w.heap.size = w.heap.size + 1 + 1 := by omega
        have x2 : ¬ w.heap.size + 1 + 1 + 1 = w.heap.size + 1 + 1 := by omega
        have x3 : ¬ pi = w.heap.size + 1 + 1 := by omega
        have x4 : ¬ b = w.heap.size + 1 + 1 := by omega
        have x6 : k < k + 1 := by omega
        have x7 : (k : Int) < ((k + 1 : Nat) : Int) := by omega
        have x8 : (k : Int) < (k : Int) + 1 := by omega
        have x5 : b < (wq.setCell ⟨w.heap.size + 1 + 1 + 1, 0, none⟩ (.slice (some ⟨w.heap.size + 1 + 1, 0, none⟩) (k + 1) n)).heap.size := by have := be1.size; omega
        generalize hW : (wq.setCell ⟨w.heap.size + 1 + 1 + 1, 0, none⟩ (.slice (some ⟨w.heap.size + 1 + 1, 0, none⟩) (k + 1) n)) = W1 at *
        have S0 : Hid (Fr (fun x => x = w.heap.size + 1 + 1) W1 W1.drew) := (Fr.refl _ _).drawn ⟨1, rfl⟩
        refine wp_region_plan [(false, 0), (false, 1), (false, 2), (false, 3), (false, 4), (false, 5), (false, 6), (true, 7)] (Fr (fun x => x = w.heap.size + 1 + 1) W1) (by kernel_rfl) (by kernel_rfl) (S0.out) _ (by simp only [pickH, List.getElem?_toArray, List.getElem?_cons_succ, List.getElem?_cons_zero]; rfl) ?_
        repeat (refine HWalk.step (fun K hK => ?_); first | (apply held_yes; (focus rfl); (focus (intro w' hw; have hc' := fr_cells hw; go_simp; rfl)); (go_simp; refine hK _ ?_; clear hK K)) | (refine ite_no (by decide) ?_; go_simp; refine hK _ ?_; clear hK K))
        refine HWalk.mark ?_
        go_wp2_with fail
        refine ⟨((Fr.setCell (S := fun x => x = w.heap.size + 1 + 1) (Fr.refl _ W1) (p := ⟨w.heap.size + 1 + 1, k, none⟩) rfl _).drawn ⟨1, rfl⟩), ?_⟩
        repeat (refine HWalk.step (fun K hK => ?_); first | (apply held_yes; (focus rfl); (focus (intro w' hw; have hc' := fr_cells hw; go_simp; rfl)); (go_simp; refine hK _ ?_; clear hK K)) | (refine ite_no (by decide) ?_; go_simp; refine hK _ ?_; clear hK K))
        refine HWalk.done ?_
        have bl2 : ((W1.setCell ⟨w.heap.size + 1 + 1, k, none⟩ (.int .i64 (l e))).drew).rowIs w.heap.size 64 1 (fun _ => .slice (some ⟨b, o, none⟩) n c) := row_past bl1 (by omega) _
        have go2 : ((W1.setCell ⟨w.heap.size + 1 + 1, k, none⟩ (.int .i64 (l e))).drew).rowIs (w.heap.size + 1) 3 n (i64s fun j => if j < e + 1 then 0 else f j) := row_past go1 (by omega) _
        have gs2 : ((W1.setCell ⟨w.heap.size + 1 + 1, k, none⟩ (.int .i64 (l e))).drew).rowIs (w.heap.size + 1 + 1) 3 n (i64s fun j => if j = k then l e else S j) := (gs1.set k (.int .i64 (l e))).congr fun j hj => by
          show (if j = k then Value.int .i64 (l e) else .int .i64 (S j)) = .int .i64 (if j = k then l e else S j)
          by_cases c : j = k
          · rw [if_pos c, if_pos c]
          · rw [if_neg c, if_neg c]
        have bs2 : ((W1.setCell ⟨w.heap.size + 1 + 1, k, none⟩ (.int .i64 (l e))).drew).rowIs (w.heap.size + 1 + 1 + 1) 64 1 (fun _ => .slice (some ⟨w.heap.size + 1 + 1, 0, none⟩) (k + 1) n) := row_past bs1 (by omega) _
        have ip2 : ((W1.setCell ⟨w.heap.size + 1 + 1, k, none⟩ (.int .i64 (l e))).drew).rowIs pi 3 1 (fun _ => .int .i64 (((e + 1 : Nat) : Int) - 1)) := row_past ip1 (by omega) _
        have be2 : Below w.heap.size w ((W1.setCell ⟨w.heap.size + 1 + 1, k, none⟩ (.int .i64 (l e))).drew) := (be1.setCell (p := ⟨w.heap.size + 1 + 1, k, none⟩) (by show w.heap.size ≤ w.heap.size + 1 + 1; omega) _).drew
        clear bl1 go1 gs1 bs1 ip1 be1 e1 e2 e3 e4 e5 e6 e7 e8 n1 n2 n3 n4 n5 x1 x2 x3 x4 x5 S0
        generalize (W1.setCell ⟨w.heap.size + 1 + 1, k, none⟩ (.int .i64 (l e))).drew = W2 at bl2 go2 gs2 bs2 ip2 be2 ⊢
        have e3 := ip2.cell (i := 0) (by omega)
        have e6 := go2.cell (i := e) he
        have e7 := fun i => go2.frozen i
        have n5 := go2.lt
        rw [show ((e + 1 : Nat) : Int) - 1 = e by omega] at e3
        rw [i64s_at] at e6
        have n6 : ¬ pi = w.heap.size + 1 := by omega
        have FIN : Hid (LS w ((W2.setCell ⟨w.heap.size + 1, e, none⟩ (.int .i64 ((k : Int) + 1))).alloc (.cells #[.int .i64 ((e : Int) - 1)] 3)) (some ⟨b, o, none⟩) n c l e (k + 1) (fun i => if i = e then k + 1 else f i) (fun i => if i = k then l e else S i) W2.heap.size) := by
          have hz : (W2.setCell ⟨w.heap.size + 1, e, none⟩ (.int .i64 ((k : Int) + 1))).heap.size = W2.heap.size := by simp [World.setCell]
          have l1 := bl2.lt
          have l2 := gs2.lt
          have l3 := bs2.lt
          have ra : ((W2.setCell ⟨w.heap.size + 1, e, none⟩ (.int .i64 ((k : Int) + 1))).alloc (.cells #[.int .i64 ((e : Int) - 1)] 3)).rowIs W2.heap.size 3 1 (fun _ => .int .i64 ((e : Int) - 1)) := by
            have := World.rowIs_alloc (W2.setCell ⟨w.heap.size + 1, e, none⟩ (.int .i64 ((k : Int) + 1))) #[.int .i64 ((e : Int) - 1)] 3 (fun _ => .int .i64 ((e : Int) - 1)) (fun j hj => by
              have : j = 0 := by simp at hj; omega
              subst this; rfl)
            rw [hz] at this
            exact this
          refine ⟨row_alloc (row_past bl2 (by omega) _) _, ?_, row_alloc (row_past gs2 (by omega) _) _, row_alloc (row_past bs2 (by omega) _) _, ra, by omega, ?_, ?_⟩
          · refine (row_alloc (go2.set e (.int .i64 ((k : Int) + 1))) _).congr fun j hj => ?_
            show (if j = e then Value.int .i64 ((k : Int) + 1) else .int .i64 (if j < e + 1 then 0 else ((f j : Nat) : Int))) = .int .i64 (if j < e then 0 else (((if j = e then k + 1 else f j) : Nat) : Int))
            by_cases c : j = e
            · rw [if_pos c, if_neg (by omega), if_pos c]; rfl
            · rw [if_neg c, if_neg c]
              by_cases d : j < e
              · rw [if_pos (by omega), if_pos d]
              · rw [if_neg (by omega), if_neg d]
          · have := S1.out.pat.step hk1 HK2.out HK3.out
            rwa [show max _ (k + 1) = k + 1 by omega] at this
          · exact (be2.setCell (p := ⟨w.heap.size + 1, e, none⟩) (by show w.heap.size ≤ w.heap.size + 1; omega) _).alloc (by rw [hz]; omega) _
        clear bl2 go2 gs2 bs2 ip2 be2
        go_wp2_with fail
        go_roundw
        case rel => exact ⟨e, _, _, _, _, rfl, FIN⟩
        case measure =>
          rw [lenOf_at (FIN.out.ip.cell (i := 0) (by omega)), lenOf_at (hS.out.ip.cell (i := 0) (by omega))]
          omega
      · have hkl : k < K := by omega
        have bl1 := S1.out.bl
        have go1 := S1.out.go
        have gs1 := S1.out.gs
        have bs1 := S1.out.bs
        have ip1 := S1.out.ip
        have be1 := S1.out.be
        have hkKi : ¬ (k : Int) = (K : Int) := by omega
        go_wp2_with fail
        clear c6 c7
        have e1 := bl1.cell (i := 0) (by omega)
        have e2 := bs1.cell (i := 0) (by omega)
        have e3 := ip1.cell (i := 0) (by omega)
        have e4 := gs1.cell (i := k) (by omega)
        have e5 := fun i => gs1.frozen i
        have e6 := go1.cell (i := e) (by omega)
        have e7 := fun i => go1.frozen i
        rw [show ((e + 1 : Nat) : Int) - 1 = e by omega] at e3
        obtain ⟨b, o, rfl, hbB, e8⟩ := (H.out.below be1).at_ he
        rw [i64s_at] at e8 e4 e6
        have n1 := bl1.lt
        have n2 := bs1.lt
        have n3 := ip1.lt
        have n4 := gs1.lt
        have n5 := go1.lt
        have hee : (e : Int) < (n : Int) := by omega
        have hpb := S1.out.pb
        have x1 : ¬ w.heap.size = w.heap.size + 1 + 1 := by omega
        have x2 : ¬ w.heap.size + 1 + 1 + 1 = w.heap.size + 1 + 1 := by omega
        have x3 : ¬ pi = w.heap.size + 1 + 1 := by omega
        have x4 : ¬ b = w.heap.size + 1 + 1 := by omega
        have x6 : k < K := by omega
        have x7 : (k : Int) < ((K : Nat) : Int) := by omega
        have x8 : (k : Int) < (k : Int) + 1 := by omega
        have x5 : b < wq.heap.size := by have := be1.size; omega
        generalize hW : wq = W1 at *
        have S0 : Hid (Fr (fun x => x = w.heap.size + 1 + 1) W1 W1.drew) := (Fr.refl _ _).drawn ⟨1, rfl⟩
        refine wp_region_plan [(false, 0), (false, 1), (false, 2), (false, 3), (false, 4), (false, 5), (false, 6), (true, 7)] (Fr (fun x => x = w.heap.size + 1 + 1) W1) (by kernel_rfl) (by kernel_rfl) (S0.out) _ (by simp only [pickH, List.getElem?_toArray, List.getElem?_cons_succ, List.getElem?_cons_zero]; rfl) ?_
        repeat (refine HWalk.step (fun K hK => ?_); first | (apply held_yes; (focus rfl); (focus (intro w' hw; have hc' := fr_cells hw; go_simp; rfl)); (go_simp; refine hK _ ?_; clear hK K)) | (refine ite_no (by decide) ?_; go_simp; refine hK _ ?_; clear hK K))
        refine HWalk.mark ?_
        go_wp2_with fail
        refine ⟨((Fr.setCell (S := fun x => x = w.heap.size + 1 + 1) (Fr.refl _ W1) (p := ⟨w.heap.size + 1 + 1, k, none⟩) rfl _).drawn ⟨1, rfl⟩), ?_⟩
        repeat (refine HWalk.step (fun K hK => ?_); first | (apply held_yes; (focus rfl); (focus (intro w' hw; have hc' := fr_cells hw; go_simp; rfl)); (go_simp; refine hK _ ?_; clear hK K)) | (refine ite_no (by decide) ?_; go_simp; refine hK _ ?_; clear hK K))
        refine HWalk.done ?_
        have bl2 : ((W1.setCell ⟨w.heap.size + 1 + 1, k, none⟩ (.int .i64 (l e))).drew).rowIs w.heap.size 64 1 (fun _ => .slice (some ⟨b, o, none⟩) n c) := row_past bl1 (by omega) _
        have go2 : ((W1.setCell ⟨w.heap.size + 1 + 1, k, none⟩ (.int .i64 (l e))).drew).rowIs (w.heap.size + 1) 3 n (i64s fun j => if j < e + 1 then 0 else f j) := row_past go1 (by omega) _
        have gs2 : ((W1.setCell ⟨w.heap.size + 1 + 1, k, none⟩ (.int .i64 (l e))).drew).rowIs (w.heap.size + 1 + 1) 3 n (i64s fun j => if j = k then l e else S j) := (gs1.set k (.int .i64 (l e))).congr fun j hj => by
          show (if j = k then Value.int .i64 (l e) else .int .i64 (S j)) = .int .i64 (if j = k then l e else S j)
          by_cases c : j = k
          · rw [if_pos c, if_pos c]
          · rw [if_neg c, if_neg c]
        have bs2 : ((W1.setCell ⟨w.heap.size + 1 + 1, k, none⟩ (.int .i64 (l e))).drew).rowIs (w.heap.size + 1 + 1 + 1) 64 1 (fun _ => .slice (some ⟨w.heap.size + 1 + 1, 0, none⟩) (K) n) := row_past bs1 (by omega) _
        have ip2 : ((W1.setCell ⟨w.heap.size + 1 + 1, k, none⟩ (.int .i64 (l e))).drew).rowIs pi 3 1 (fun _ => .int .i64 (((e + 1 : Nat) : Int) - 1)) := row_past ip1 (by omega) _
        have be2 : Below w.heap.size w ((W1.setCell ⟨w.heap.size + 1 + 1, k, none⟩ (.int .i64 (l e))).drew) := (be1.setCell (p := ⟨w.heap.size + 1 + 1, k, none⟩) (by show w.heap.size ≤ w.heap.size + 1 + 1; omega) _).drew
        clear bl1 go1 gs1 bs1 ip1 be1 e1 e2 e3 e4 e5 e6 e7 e8 n1 n2 n3 n4 n5 x1 x2 x3 x4 x5 S0
        generalize (W1.setCell ⟨w.heap.size + 1 + 1, k, none⟩ (.int .i64 (l e))).drew = W2 at bl2 go2 gs2 bs2 ip2 be2 ⊢
        have e3 := ip2.cell (i := 0) (by omega)
        have e6 := go2.cell (i := e) he
        have e7 := fun i => go2.frozen i
        have n5 := go2.lt
        rw [show ((e + 1 : Nat) : Int) - 1 = e by omega] at e3
        rw [i64s_at] at e6
        have n6 : ¬ pi = w.heap.size + 1 := by omega
        have FIN : Hid (LS w ((W2.setCell ⟨w.heap.size + 1, e, none⟩ (.int .i64 ((k : Int) + 1))).alloc (.cells #[.int .i64 ((e : Int) - 1)] 3)) (some ⟨b, o, none⟩) n c l e (K) (fun i => if i = e then k + 1 else f i) (fun i => if i = k then l e else S i) W2.heap.size) := by
          have hz : (W2.setCell ⟨w.heap.size + 1, e, none⟩ (.int .i64 ((k : Int) + 1))).heap.size = W2.heap.size := by simp [World.setCell]
          have l1 := bl2.lt
          have l2 := gs2.lt
          have l3 := bs2.lt
          have ra : ((W2.setCell ⟨w.heap.size + 1, e, none⟩ (.int .i64 ((k : Int) + 1))).alloc (.cells #[.int .i64 ((e : Int) - 1)] 3)).rowIs W2.heap.size 3 1 (fun _ => .int .i64 ((e : Int) - 1)) := by
            have := World.rowIs_alloc (W2.setCell ⟨w.heap.size + 1, e, none⟩ (.int .i64 ((k : Int) + 1))) #[.int .i64 ((e : Int) - 1)] 3 (fun _ => .int .i64 ((e : Int) - 1)) (fun j hj => by
              have : j = 0 := by simp at hj; omega
              subst this; rfl)
            rw [hz] at this
            exact this
          refine ⟨row_alloc (row_past bl2 (by omega) _) _, ?_, row_alloc (row_past gs2 (by omega) _) _, row_alloc (row_past bs2 (by omega) _) _, ra, by omega, ?_, ?_⟩
          · refine (row_alloc (go2.set e (.int .i64 ((k : Int) + 1))) _).congr fun j hj => ?_
            show (if j = e then Value.int .i64 ((k : Int) + 1) else .int .i64 (if j < e + 1 then 0 else ((f j : Nat) : Int))) = .int .i64 (if j < e then 0 else (((if j = e then k + 1 else f j) : Nat) : Int))
            by_cases c : j = e
            · rw [if_pos c, if_neg (by omega), if_pos c]; rfl
            · rw [if_neg c, if_neg c]
              by_cases d : j < e
              · rw [if_pos (by omega), if_pos d]
              · rw [if_neg (by omega), if_neg d]
          · have := S1.out.pat.step hk1 HK2.out HK3.out
            rwa [show max _ (k + 1) = K by omega] at this
          · exact (be2.setCell (p := ⟨w.heap.size + 1, e, none⟩) (by show w.heap.size ≤ w.heap.size + 1; omega) _).alloc (by rw [hz]; omega) _
        clear bl2 go2 gs2 bs2 ip2 be2
        go_wp2_with fail
        go_roundw
        case rel => exact ⟨e, _, _, _, _, rfl, FIN⟩
        case measure =>
          rw [lenOf_at (FIN.out.ip.cell (i := 0) (by omega)), lenOf_at (hS.out.ip.cell (i := 0) (by omega))]
          omega
end Go.Proofs.YtfmfmeiaekknbaaGreatDoor
end

section
/-
  Package remaps: made; the map of a move, of a list that stays.
-/
namespace Go.Proofs.YtfmfmeiaekknbaaGreatDoor
open Go.RowKit
set_option linter.unusedVariables false
set_option linter.unusedSimpArgs false

def rmc (old : Int) (A : Option Addr) (n : Nat) : Nat → Value := fun j => if j = 0 then .int .i64 old else .slice A n n
theorem rm_cells {w : World} {p n : Nat} {old : Int} {A : Option Addr} (h : w.rowIs p 92 2 (rmc old A n)) : w.cell? ⟨p, 0, none⟩ = some (.int .i64 old) ∧ w.cell? ⟨p, 1, none⟩ = some (.slice A n n) ∧ (∀ i, w.frozen? ⟨p, i, none⟩ = false) ∧ p < w.heap.size := ⟨h.cell (i := 0) (by omega), h.cell (i := 1) (by omega), fun i => h.frozen i, h.lt⟩
theorem rm_new (w : World) (old : Int) (A : Option Addr) (n : Nat) : (w.alloc (.cells #[.int .i64 old, .slice A n n] 92)).rowIs w.heap.size 92 2 (rmc old A n) := World.rowIs_alloc w _ _ _ (fun j hj => by
  have : j = 0 ∨ j = 1 := by simp at hj; omega
  rcases this with rfl | rfl <;> rfl)
set_option maxRecDepth 100000 in
set_option maxHeartbeats 800000 in
theorem rwrong_any (w : World) (n : Nat) (hn : n ≤ 4096) : Calls Tryz.prog 70 #[.int .i64 n] w fun e w' => e = .returned (.bool false) ∧ w = w' := by
  have h1 : ¬ (n : Int) < 0 := by omega
  have h2 : ¬ (4096 : Int) < (n : Int) := by omega
  go_enter Tryz.func70, Tryz.ntmps70
  go_wp2_with fail
  go_ret
  exact ⟨rfl, rfl⟩
set_option maxRecDepth 100000 in
set_option maxHeartbeats 800000 in
theorem routside_any (w : World) (n a m : Nat) (hn : n ≤ 4096) (h : a + m ≤ n) : Calls Tryz.prog 71 #[.int .i64 n, .int .i64 a, .int .i64 m] w fun e w' => e = .returned (.bool false) ∧ w = w' := by
  have h1 : ¬ (a : Int) < 0 := by omega
  have h2 : ¬ (m : Int) < 0 := by omega
  have h3 : ¬ (n : Int) < (a : Int) := by omega
  have h4 : ¬ (n : Int) - (a : Int) < (m : Int) := by omega
  go_enter Tryz.func71, Tryz.ntmps71
  go_wp2_with fail
  go_ret
  exact ⟨rfl, rfl⟩
/-- Where a place of the list that a move leaves was before. -/
def restF (a m i : Nat) : Nat := if i < a then i else i + m
def movF (a m t i : Nat) : Nat := if i < t then restF a m i else if i < t + m then a + i - t else restF a m (i - m)
set_option maxRecDepth 100000 in
set_option maxHeartbeats 800000 in
theorem moved1_any (w : World) (p1 p2 a m i : Nat) (hi : i ≤ 8192) (ha : a ≤ 4096) (hm : m ≤ 4096) (c1 : w.cell? ⟨p1, 0, none⟩ = some (.int .i64 a)) (c2 : w.cell? ⟨p2, 0, none⟩ = some (.int .i64 m)) :
    Calls Tryz.prog 72 #[.int .i64 i, .pointer (some ⟨p1, 0, none⟩), .pointer (some ⟨p2, 0, none⟩)] w fun e w' => e = .returned (.int .i64 (restF a m i)) ∧ w = w' := by
  by_cases h : i < a
  · have h1 : (i : Int) < (a : Int) := by omega
    have e : restF a m i = i := if_pos h
    rw [e]
    go_enter Tryz.func72, Tryz.ntmps72
    go_wp2_with fail
    go_ret
    exact ⟨rfl, rfl⟩
  · have h1 : ¬ (i : Int) < (a : Int) := by omega
    have e : ((restF a m i : Nat) : Int) = (i : Int) + (m : Int) := by unfold restF; rw [if_neg h]; exact Int.natCast_add _ _
    rw [e]
    go_enter Tryz.func72, Tryz.ntmps72
    go_wp2_with fail
    go_ret
    exact ⟨rfl, rfl⟩
/-- What the map of a move looks at. -/
structure MC (w : World) (pt pr pm pa a m t : Nat) : Prop where
  ct : w.cell? ⟨pt, 0, none⟩ = some (.int .i64 t)
  cr : w.cell? ⟨pr, 0, none⟩ = some (.func (.func 72) #[] #[.pointer (some ⟨pa, 0, none⟩), .pointer (some ⟨pm, 0, none⟩)])
  cm : w.cell? ⟨pm, 0, none⟩ = some (.int .i64 m)
  ca : w.cell? ⟨pa, 0, none⟩ = some (.int .i64 a)
set_option maxRecDepth 100000 in
set_option maxHeartbeats 1600000 in
theorem moved2_any (w : World) (pt pr pm pa a m t i n : Nat) (h : MC w pt pr pm pa a m t) (hi : i < n) (hn : n ≤ 4096) (ha : a + m ≤ n) (ht : t + m ≤ n) :
    Calls Tryz.prog 74 #[.int .i64 i, .pointer (some ⟨pt, 0, none⟩), .pointer (some ⟨pr, 0, none⟩), .pointer (some ⟨pm, 0, none⟩), .pointer (some ⟨pa, 0, none⟩)] w fun e w' => e = .returned (.int .i64 (movF a m t i)) ∧ w = w' := by
  obtain ⟨ct, cr, cm, ca⟩ := h
  by_cases h1 : i < t
  · have q1 : (i : Int) < (t : Int) := by omega
    have K := Lib.hid (moved1_any w pa pm a m i (by omega) (by omega) (by omega) ca cm)
    rw [show movF a m t i = restF a m i from if_pos h1]
    generalize restF a m i = x at *
    go_enter Tryz.func74, Tryz.ntmps74
    go_wp2_with fail
    refine (K.out).mono ?_
    rintro e w' ⟨rfl, rfl⟩
    go_wp2_with fail
    go_ret
    exact ⟨rfl, rfl⟩
  · have q1 : ¬ (i : Int) < (t : Int) := by omega
    by_cases h2 : i < t + m
    · have q2 : (i : Int) < (t : Int) + (m : Int) := by omega
      have e : ((movF a m t i : Nat) : Int) = (a : Int) + (i : Int) - (t : Int) := by unfold movF; rw [if_neg h1, if_pos h2]; omega
      rw [e]
      go_enter Tryz.func74, Tryz.ntmps74
      go_wp2_with fail
      go_ret
      exact ⟨rfl, rfl⟩
    · have q2 : ¬ (i : Int) < (t : Int) + (m : Int) := by omega
      have K := Lib.hid (moved1_any w pa pm a m (i - m) (by omega) (by omega) (by omega) ca cm)
      rw [show movF a m t i = restF a m (i - m) from by unfold movF; rw [if_neg h1, if_neg h2]]
      generalize restF a m (i - m) = x at *
      rw [show ((i - m : Nat) : Int) = (i : Int) - (m : Int) by omega] at K
      go_enter Tryz.func74, Tryz.ntmps74
      go_wp2_with fail
      refine (K.out).mono ?_
      rintro e w' ⟨rfl, rfl⟩
      go_wp2_with fail
      go_ret
      exact ⟨rfl, rfl⟩
set_option maxRecDepth 100000 in
set_option maxHeartbeats 3200000 in
theorem madeMoved (w : World) (pt pr pm pa : Nat) (n : Nat) (hn : n ≤ 4096) (old : Int) (F : Nat → Int) (hF : ∀ i, i < n → ∀ W, Below w.heap.size w W → Calls Tryz.prog 74 #[.int .i64 i, .pointer (some ⟨pt, 0, none⟩), .pointer (some ⟨pr, 0, none⟩), .pointer (some ⟨pm, 0, none⟩), .pointer (some ⟨pa, 0, none⟩)] W fun e w' => e = .returned (.int .i64 (F i)) ∧ Drawn W w') :
    Calls Tryz.prog 73 #[.int .i64 old, .int .i64 n, .func (.func 74) #[] #[.pointer (some ⟨pt, 0, none⟩), .pointer (some ⟨pr, 0, none⟩), .pointer (some ⟨pm, 0, none⟩), .pointer (some ⟨pa, 0, none⟩)]] w fun e w' => ∃ A, e = .returned (.tuple #[.agg #[.int .i64 old, .slice A n n], .int .i64 0]) ∧ (Sees w' w'.heap.size A n (i64s F) ∧ ∀ b, A.map (·.block) = some b → w.heap.size ≤ b) ∧ Below w.heap.size w w' := by
  have HF := Lib.hid hF
  clear hF
  by_cases h0 : n = 0
  · subst h0
    clear HF
    have FIN : Hid (∀ W : World, Below w.heap.size w W → True) := fun _ _ => trivial
    go_enter Tryz.func73, Tryz.ntmps73
    go_wp2_with fail
    go_loopw [20] (fun i wr => i = .int .i64 0 ∧ wr.cell? ⟨w.heap.size + 1, 0, none⟩ = some (.int .i64 old) ∧ wr.cell? ⟨w.heap.size + 1, 1, none⟩ = some (.slice none 0 0) ∧ Hid (wr.rowIs w.heap.size 92 2 (rmc 0 none 0)) ∧ Hid (Below w.heap.size w wr)) (fun _ _ => 0)
    case atStart =>
      refine ⟨rfl, ?_, ?_, ?_, ?_⟩
      · exact (rm_cells (by have := rm_new (w.alloc (.cells #[.int .i64 0, .slice none 0 0] 92)) old none 0; rw [World.size_alloc] at this; exact this)).1
      · exact (rm_cells (by have := rm_new (w.alloc (.cells #[.int .i64 0, .slice none 0 0] 92)) old none 0; rw [World.size_alloc] at this; exact this)).2.1
      · exact row_alloc (rm_new w 0 none 0) _
      · exact ((Below.refl _ w).alloc (Nat.le_refl _) _).alloc (by simp) _
    case round =>
      obtain ⟨rfl, c0, c1, hR, hB⟩ := hrel
      obtain ⟨d0, d1, df, dl⟩ := rm_cells hR.out
      have BF : Hid (Below w.heap.size w ((wr.setCell ⟨w.heap.size, 0, none⟩ (.int .i64 old)).setCell ⟨w.heap.size, 1, none⟩ (.slice none 0 0))) := (hB.out.setCell (p := ⟨w.heap.size, 0, none⟩) (Nat.le_refl _) _).setCell (p := ⟨w.heap.size, 1, none⟩) (Nat.le_refl _) _
      clear hR hB
      go_wp2_with fail
      exact bodyPost_ret (v := .tuple #[.agg #[.int .i64 old, .slice none 0 0], .int .i64 0]) (by simp [results, Tryz.results73, go_sem, d0, d1, df]) rfl ⟨none, rfl, ⟨fun h => absurd h (by omega), fun b hb => by cases hb⟩, BF.out⟩
  · have h1 : (0 : Int) < (n : Int) := by omega
    have h1' : 0 < n := by omega
    have mk := make_ints n (by omega)
    have ST : Hid (((((w.alloc (.cells #[.int .i64 0, .slice none 0 0] 92)).alloc (.cells #[.int .i64 old, .slice (some ⟨w.heap.size + 1 + 1, 0, none⟩) n n] 92)).alloc (.cells (madeCells #[.int .i64 0] n) 3)).rowIs (w.heap.size + 1) 92 2 (rmc old (some ⟨w.heap.size + 1 + 1, 0, none⟩) n)) ∧ ((((w.alloc (.cells #[.int .i64 0, .slice none 0 0] 92)).alloc (.cells #[.int .i64 old, .slice (some ⟨w.heap.size + 1 + 1, 0, none⟩) n n] 92)).alloc (.cells (madeCells #[.int .i64 0] n) 3)).rowIs w.heap.size 92 2 (rmc 0 none 0)) ∧ ((((w.alloc (.cells #[.int .i64 0, .slice none 0 0] 92)).alloc (.cells #[.int .i64 old, .slice (some ⟨w.heap.size + 1 + 1, 0, none⟩) n n] 92)).alloc (.cells (madeCells #[.int .i64 0] n) 3)).rowIs (w.heap.size + 1 + 1) 3 n (i64s fun j => if j < 0 then F j else 0)) ∧ Below w.heap.size w (((w.alloc (.cells #[.int .i64 0, .slice none 0 0] 92)).alloc (.cells #[.int .i64 old, .slice (some ⟨w.heap.size + 1 + 1, 0, none⟩) n n] 92)).alloc (.cells (madeCells #[.int .i64 0] n) 3))) := by
      have r1 := rm_new (w.alloc (.cells #[.int .i64 0, .slice none 0 0] 92)) old (some ⟨w.heap.size + 1 + 1, 0, none⟩) n
      have r2 := World.rowIs_made ((w.alloc (.cells #[.int .i64 0, .slice none 0 0] 92)).alloc (.cells #[.int .i64 old, .slice (some ⟨w.heap.size + 1 + 1, 0, none⟩) n n] 92)) (.int .i64 0) n 3
      simp only [World.size_alloc] at r1 r2
      refine ⟨row_alloc r1 _, row_alloc (row_alloc (rm_new w 0 none 0) _) _, r2.congr fun j hj => ?_, (((Below.refl _ w).alloc (Nat.le_refl _) _).alloc (by simp) _).alloc (by simp; omega) _⟩
      show Value.int .i64 0 = .int .i64 (if j < 0 then F j else 0)
      rw [if_neg (by omega)]
    go_enter Tryz.func73, Tryz.ntmps73
    go_wp2_with fail
    clear mk
    go_loopw [20] (fun iv wr => ∃ k : Nat, k ≤ n ∧ iv = .int .i64 k ∧ Hid (wr.rowIs (w.heap.size + 1) 92 2 (rmc old (some ⟨w.heap.size + 1 + 1, 0, none⟩) n) ∧ wr.rowIs w.heap.size 92 2 (rmc 0 none 0) ∧ wr.rowIs (w.heap.size + 1 + 1) 3 n (i64s fun j => if j < k then F j else 0) ∧ Below w.heap.size w wr)) (fun iv _ => n - (intOf iv).toNat)
    case atStart => exact ⟨0, Nat.zero_le _, rfl, ST⟩
    case round =>
      obtain ⟨k, hk, rfl, hR⟩ := hrel
      clear ST
      obtain ⟨q1, q2, q3, q4⟩ := hR.out
      by_cases hlt : k < n
      · have hki : (k : Int) < (n : Int) := by omega
        obtain ⟨c0, c1, cf, cl⟩ := rm_cells q1
        have g0 := q3.cell (i := k) hlt
        have gf := fun i => q3.frozen i
        have gl := q3.lt
        rw [i64s_at] at g0
        have KF : Hid (∀ d, Calls Tryz.prog 74 #[.int .i64 k, .pointer (some ⟨pt, 0, none⟩), .pointer (some ⟨pr, 0, none⟩), .pointer (some ⟨pm, 0, none⟩), .pointer (some ⟨pa, 0, none⟩)] (wr.drewN d) fun e w' => e = .returned (.int .i64 (F k)) ∧ Drawn (wr.drewN d) w') := fun d => HF.out k hlt _ (Go.below_drewN q4 d)
        have x1 : ¬ w.heap.size + 1 = w.heap.size + 1 + 1 := by omega
        have S0 : Hid (Fr (fun x => x = w.heap.size + 1 + 1) wr wr.drew) := (Fr.refl _ _).drawn ⟨1, rfl⟩
        clear q1 q2 q3 q4
        go_wp2_with fail
        refine wp_region_plan [(false, 0), (false, 1), (false, 2), (false, 3), (false, 4), (true, 5), (false, 6), (true, 7)] (Fr (fun x => x = w.heap.size + 1 + 1) wr) (by kernel_rfl) (by kernel_rfl) (S0.out) _ (by simp only [pickH, List.getElem?_toArray, List.getElem?_cons_succ, List.getElem?_cons_zero]; rfl) ?_
        repeat (refine HWalk.step (fun K hK => ?_); first | (apply held_yes; (focus rfl); (focus (intro w' hw; have hc' := fr_cells hw; go_simp; rfl)); (go_simp; refine hK _ ?_; clear hK K)) | (refine ite_no (by decide) ?_; go_simp; refine hK _ ?_; clear hK K))
        refine HWalk.mark ?_
        go_wp2_with fail
        refine (KF.out 1).mono ?_
        rintro e W2 ⟨rfl, hd⟩
        have D2 : Drawn wr W2 := Drawn.trans ⟨1, rfl⟩ hd
        have S2 : Hid (Fr (fun x => x = w.heap.size + 1 + 1) wr W2) := (Fr.refl _ _).drawn D2
        have R2 : Hid (W2.rowIs (w.heap.size + 1) 92 2 (rmc old (some ⟨w.heap.size + 1 + 1, 0, none⟩) n) ∧ W2.rowIs w.heap.size 92 2 (rmc 0 none 0) ∧ W2.rowIs (w.heap.size + 1 + 1) 3 n (i64s fun j => if j < k then F j else 0) ∧ Below w.heap.size w W2) := by
          obtain ⟨q1, q2, q3, q4⟩ := hR.out
          obtain ⟨d, rfl⟩ := D2
          exact ⟨q1, q2, q3, Go.below_drewN q4 d⟩
        have FIN : Hid ((W2.setCell ⟨w.heap.size + 1 + 1, k, none⟩ (.int .i64 (F k))).rowIs (w.heap.size + 1) 92 2 (rmc old (some ⟨w.heap.size + 1 + 1, 0, none⟩) n) ∧ (W2.setCell ⟨w.heap.size + 1 + 1, k, none⟩ (.int .i64 (F k))).rowIs w.heap.size 92 2 (rmc 0 none 0) ∧ (W2.setCell ⟨w.heap.size + 1 + 1, k, none⟩ (.int .i64 (F k))).rowIs (w.heap.size + 1 + 1) 3 n (i64s fun j => if j < k + 1 then F j else 0) ∧ Below w.heap.size w (W2.setCell ⟨w.heap.size + 1 + 1, k, none⟩ (.int .i64 (F k)))) := by
          obtain ⟨q1, q2, q3, q4⟩ := R2.out
          refine ⟨row_past q1 (by omega) _, row_past q2 (by omega) _, (q3.set k (.int .i64 (F k))).congr fun j hj => ?_, q4.setCell (p := ⟨w.heap.size + 1 + 1, k, none⟩) (by show w.heap.size ≤ w.heap.size + 1 + 1; omega) _⟩
          show (if j = k then Value.int .i64 (F k) else .int .i64 (if j < k then F j else 0)) = .int .i64 (if j < k + 1 then F j else 0)
          by_cases e : j = k
          · rw [if_pos e, if_pos (by omega), e]
          · rw [if_neg e]
            by_cases e2 : j < k
            · rw [if_pos e2, if_pos (by omega)]
            · rw [if_neg e2, if_neg (by omega)]
        have h0 := R2.out.2.2.1.cell (i := k) hlt
        have h1 := fun i => R2.out.2.2.1.frozen i
        rw [i64s_at] at h0
        clear hR c0 c1 cf cl g0 gf gl KF S0 D2 hd
        go_wp2_with fail
        refine ⟨S2.out, ?_⟩
        repeat (refine HWalk.step (fun K hK => ?_); first | (apply held_yes; (focus rfl); (focus (intro w' hw; have hc' := fr_cells hw; go_simp; rfl)); (go_simp; refine hK _ ?_; clear hK K)) | (refine ite_no (by decide) ?_; go_simp; refine hK _ ?_; clear hK K))
        clear R2
        refine HWalk.mark ?_
        go_wp2_with fail
        refine ⟨((Fr.setCell (S := fun x => x = w.heap.size + 1 + 1) S2.out (p := ⟨w.heap.size + 1 + 1, k, none⟩) rfl _)), ?_⟩
        repeat (refine HWalk.step (fun K hK => ?_); first | (apply held_yes; (focus rfl); (focus (intro w' hw; have hc' := fr_cells hw; go_simp; rfl)); (go_simp; refine hK _ ?_; clear hK K)) | (refine ite_no (by decide) ?_; go_simp; refine hK _ ?_; clear hK K))
        refine HWalk.done ?_
        go_wp2_with fail
        go_roundw
        case rel => exact ⟨k + 1, by omega, by go_num, FIN⟩
        case measure => simp [intOf]; omega
      · obtain rfl : n = k := by omega
        obtain ⟨q1, q2, q3, q4⟩ := hR.out
        obtain ⟨c0, c1, cf, cl⟩ := rm_cells q1
        obtain ⟨d0, d1, df, dl⟩ := rm_cells q2
        have FIN : Hid (Sees ((wr.setCell ⟨w.heap.size, 0, none⟩ (.int .i64 old)).setCell ⟨w.heap.size, 1, none⟩ (.slice (some ⟨w.heap.size + 1 + 1, 0, none⟩) n n)) ((wr.setCell ⟨w.heap.size, 0, none⟩ (.int .i64 old)).setCell ⟨w.heap.size, 1, none⟩ (.slice (some ⟨w.heap.size + 1 + 1, 0, none⟩) n n)).heap.size (some ⟨w.heap.size + 1 + 1, 0, none⟩) n (i64s F) ∧ Below w.heap.size w ((wr.setCell ⟨w.heap.size, 0, none⟩ (.int .i64 old)).setCell ⟨w.heap.size, 1, none⟩ (.slice (some ⟨w.heap.size + 1 + 1, 0, none⟩) n n))) :=
          ⟨(Sees.row (row_past (row_past q3 (by omega) _) (by omega) _) (Nat.le_refl _)).congr fun j hj => by
            show Value.int .i64 (if j < n then F j else 0) = .int .i64 (F j)
            rw [if_pos hj], (q4.setCell (p := ⟨w.heap.size, 0, none⟩) (Nat.le_refl _) _).setCell (p := ⟨w.heap.size, 1, none⟩) (Nat.le_refl _) _⟩
        clear hR q1 q2 q3 q4
        go_wp2_with fail
        exact bodyPost_ret (v := .tuple #[.agg #[.int .i64 old, .slice (some ⟨w.heap.size + 1 + 1, 0, none⟩) n n], .int .i64 0]) (by simp [results, Tryz.results73, go_sem, d0, d1, df]) rfl ⟨_, rfl, ⟨FIN.out.1, fun b hb => by injection hb with hb; show w.heap.size ≤ b; rw [← hb]; show w.heap.size ≤ w.heap.size + 1 + 1; omega⟩, FIN.out.2⟩
set_option maxRecDepth 100000 in
set_option maxHeartbeats 3200000 in
theorem moved_ok (w : World) (n a m t : Nat) (hn : n ≤ 4096) (ha : a + m ≤ n) (ht : t + m ≤ n) :
    Calls Tryz.prog 37 #[.int .i64 n, .int .i64 a, .int .i64 m, .int .i64 t] w fun e w' => ∃ A, e = .returned (.tuple #[.agg #[.int .i64 n, .slice A n n], .int .i64 0]) ∧ Sees w' w'.heap.size A n (i64s fun i => movF a m t i) ∧ Below w.heap.size w w' := by
  have h1 : ¬ (t : Int) < 0 := by omega
  have h2 : ¬ (n : Int) - (m : Int) < (t : Int) := by omega
  have K1 : Hid (∀ W, Calls Tryz.prog 70 #[.int .i64 n] W fun e w' => e = .returned (.bool false) ∧ W = w') := fun W => rwrong_any W n hn
  have K2 : Hid (∀ W, Calls Tryz.prog 71 #[.int .i64 n, .int .i64 a, .int .i64 m] W fun e w' => e = .returned (.bool false) ∧ W = w') := fun W => routside_any W n a m hn ha
  obtain ⟨WM, eWM⟩ : ∃ W, W = ((((w.alloc (.cells #[.int .i64 a] 3)).alloc (.cells #[.int .i64 m] 3)).alloc (.cells #[.int .i64 t] 3)).alloc (.cells #[.int .i64 0, .slice none 0 0] 92)).alloc (.cells #[.func (.func 72) #[] #[.pointer (some ⟨w.heap.size, 0, none⟩), .pointer (some ⟨w.heap.size + 1, 0, none⟩)]] 131) := ⟨_, rfl⟩
  have FM : MC WM (w.heap.size + 1 + 1) (w.heap.size + 1 + 1 + 1 + 1) (w.heap.size + 1) w.heap.size a m t ∧ WM.rowIs (w.heap.size + 1 + 1 + 1) 92 2 (rmc 0 none 0) ∧ Below w.heap.size w WM ∧ WM.heap.size = w.heap.size + 5 := by
    rw [eWM]
    have one : ∀ (W : World) (v : Value) (t : TypeId), (W.alloc (.cells #[v] t)).rowIs W.heap.size t 1 (fun _ => v) := fun W v t => World.rowIs_alloc W #[v] t _ (fun j hj => by
      have : j = 0 := by simp at hj; omega
      subst this; rfl)
    have r1 := one w (.int .i64 a) 3
    have r2 := one (w.alloc (.cells #[.int .i64 a] 3)) (.int .i64 m) 3
    have r3 := one ((w.alloc (.cells #[.int .i64 a] 3)).alloc (.cells #[.int .i64 m] 3)) (.int .i64 t) 3
    have r4 := rm_new (((w.alloc (.cells #[.int .i64 a] 3)).alloc (.cells #[.int .i64 m] 3)).alloc (.cells #[.int .i64 t] 3)) 0 none 0
    have r5 := one ((((w.alloc (.cells #[.int .i64 a] 3)).alloc (.cells #[.int .i64 m] 3)).alloc (.cells #[.int .i64 t] 3)).alloc (.cells #[.int .i64 0, .slice none 0 0] 92)) (.func (.func 72) #[] #[.pointer (some ⟨w.heap.size, 0, none⟩), .pointer (some ⟨w.heap.size + 1, 0, none⟩)]) 131
    simp only [World.size_alloc] at r2 r3 r4 r5
    exact ⟨⟨(row_alloc (row_alloc r3 _) _).cell (i := 0) (by omega), r5.cell (i := 0) (by omega), (row_alloc (row_alloc (row_alloc r2 _) _) _).cell (i := 0) (by omega), (row_alloc (row_alloc (row_alloc (row_alloc r1 _) _) _) _).cell (i := 0) (by omega)⟩, row_alloc r4 _, (((((Below.refl _ w).alloc (Nat.le_refl _) _).alloc (by simp) _).alloc (by simp; omega) _).alloc (by simp; omega) _).alloc (by simp; omega) _, by simp⟩
  obtain ⟨M1, M2, M3, M4⟩ := FM
  have KM := Lib.hid (madeMoved WM (w.heap.size + 1 + 1) (w.heap.size + 1 + 1 + 1 + 1) (w.heap.size + 1) w.heap.size n hn n (fun i => movF a m t i) (fun i hi W hb => (moved2_any W (w.heap.size + 1 + 1) (w.heap.size + 1 + 1 + 1 + 1) (w.heap.size + 1) w.heap.size a m t i n ⟨(hb.cell (p := ⟨w.heap.size + 1 + 1, 0, none⟩) (by show w.heap.size + 1 + 1 < _; omega)).trans M1.ct, (hb.cell (p := ⟨w.heap.size + 1 + 1 + 1 + 1, 0, none⟩) (by show w.heap.size + 1 + 1 + 1 + 1 < _; omega)).trans M1.cr, (hb.cell (p := ⟨w.heap.size + 1, 0, none⟩) (by show w.heap.size + 1 < _; omega)).trans M1.cm, (hb.cell (p := ⟨w.heap.size, 0, none⟩) (by show w.heap.size < _; omega)).trans M1.ca⟩ hi hn ha ht).mono fun e w' ⟨x, y⟩ => ⟨x, by rw [← y]; exact Drawn.refl _⟩))
  have R2 := Lib.hid M2
  have R3 := Lib.hid M3
  have EW := Lib.hid eWM
  have MS := Lib.hid M4
  clear M1 M2 M3 M4 eWM
  go_enter Tryz.func37, Tryz.ntmps37
  go_wp2_with fail
  refine (K1.out _).mono ?_
  rintro e w' ⟨rfl, rfl⟩
  go_wp2_with fail
  refine (K2.out _).mono ?_
  rintro e w' ⟨rfl, rfl⟩
  go_wp2_with fail
  rw [← EW.out]
  refine (KM.out).mono ?_
  rintro e w2 ⟨A, rfl, ⟨hs, hA⟩, hb⟩
  have sz := MS.out
  have Q2 := R2.out.of_block (hb.block _ R2.out.lt)
  obtain ⟨d0, d1, df, dl⟩ := rm_cells Q2
  have B2 := R3.out.trans (hb.mono R3.out.size)
  have FIN : Hid (Sees ((w2.setCell ⟨w.heap.size + 1 + 1 + 1, 0, none⟩ (.int .i64 n)).setCell ⟨w.heap.size + 1 + 1 + 1, 1, none⟩ (.slice A n n)) ((w2.setCell ⟨w.heap.size + 1 + 1 + 1, 0, none⟩ (.int .i64 n)).setCell ⟨w.heap.size + 1 + 1 + 1, 1, none⟩ (.slice A n n)).heap.size A n (i64s fun i => movF a m t i) ∧ Below w.heap.size w ((w2.setCell ⟨w.heap.size + 1 + 1 + 1, 0, none⟩ (.int .i64 n)).setCell ⟨w.heap.size + 1 + 1 + 1, 1, none⟩ (.slice A n n))) := by
    refine ⟨fun h0 => ?_, (B2.setCell (p := ⟨w.heap.size + 1 + 1 + 1, 0, none⟩) (by show w.heap.size ≤ w.heap.size + 1 + 1 + 1; omega) _).setCell (p := ⟨w.heap.size + 1 + 1 + 1, 1, none⟩) (by show w.heap.size ≤ w.heap.size + 1 + 1 + 1; omega) _⟩
    obtain ⟨b, o, e, h1, h2⟩ := hs h0
    have hne : b ≠ w.heap.size + 1 + 1 + 1 := by
      have := hA b (by rw [e]; rfl)
      omega
    refine ⟨b, o, e, by simp [World.setCell]; exact h1, fun j hj => ?_⟩
    rw [World.cell?_of_block (w := w2) (by rw [Below.heap_setCell _ _ _ _ hne, Below.heap_setCell _ _ _ _ hne])]
    exact h2 j hj
  clear hs hb Q2 B2 KM R2 R3 EW sz
  go_wp2_with fail
  exact bodyPost_ret (v := .tuple #[.agg #[.int .i64 n, .slice A n n], .int .i64 0]) (by simp [results, Tryz.results37, go_sem, d0, d1, df]) rfl ⟨_, rfl, FIN.out⟩
end Go.Proofs.YtfmfmeiaekknbaaGreatDoor
end

section
/-
  float64 over whole numbers below 2^53 is exact: plain facts on the model's words, no Go text.
-/
namespace Go.Proofs.YtfmfmeiaekknbaaGreatDoor
open Ieee

/-- The word of a whole number. -/
def F (n : Int) : Nat := floatOfInt .f64 n
end Go.Proofs.YtfmfmeiaekknbaaGreatDoor
end

section
/-
  Contracts of Tops and Rows of package offsets, and of the law's own comparison of rows.
-/
namespace Go.Proofs.YtfmfmeiaekknbaaGreatDoor
open Go.RowKit
set_option linter.unusedVariables false

theorem Tryz.infoI64 : (Tryz.prog.info? 2).map (fun i => (i.zero, i.size, i.bytes)) = some (some (.int .i64 0), 1, 8) := by kernel_rfl
/-- make([]int64, n). -/
theorem omake_i64 (n : Nat) (x : Int) (hx : x = (n : Int)) (hn : n ≤ 1000000) (W : World) :
    (Instr.makeSlice 57 (.int .i64 x) (.int .i64 x)).run Tryz.prog W = .ok (.slice (some ⟨W.heap.size, 0, none⟩) n n) (W.alloc (.cells (madeCells #[.int .i64 0] n) 2)) := by
  subst hx
  exact run_make_row' 57 2 (.int .i64 0) 8 Tryz.underlying57 Tryz.infoI64 rfl .i64 .i64 n (by omega) (by omega) W
/-- What Tops returns of valid sizes. -/
def TopsOk (l : Nat → Int) (n : Nat) (w : World) (e : Ending) (w' : World) : Prop :=
  ∃ g, e = .returned (.tuple #[.slice (some ⟨g, 0, none⟩) (n + 1) (n + 1), .int .i64 0]) ∧ w'.rowIs g 2 (n + 1) (i64s (psum l)) ∧ w.heap.size ≤ g ∧ Below w.heap.size w w'
/-- What it returns of others. -/
def TopsBad (c : Int) (w : World) (e : Ending) (w' : World) : Prop :=
  e = .returned (.tuple #[.slice none 0 0, .int .i64 c]) ∧ Below w.heap.size w w'
def TopsAny (l : Nat → Int) (n : Nat) (w : World) (e : Ending) (w' : World) : Prop :=
  (chk l n = 0 ∧ TopsOk l n w e w') ∨ (chk l n ≠ 0 ∧ TopsBad (chk l n) w e w')

/-- The tops that are reckoned already. -/
def oupto (l : Nat → Int) (k : Nat) : Nat → Value := fun j => .int .i64 (if j ≤ k then psum l j else 0)

set_option maxHeartbeats 800000 in
theorem tops_any (A : Option Addr) (n c : Nat) (l : Nat → Int) (w : World) (hs : Sees w w.heap.size A n (i64s l)) (hf : ∀ k, Fits (l k)) (hn : n ≤ 1000000000000000) :
    Calls Tryz.prog 40 #[.slice A n c] w (TopsAny l n w) := by
  by_cases hbig : 4096 < n
  · have hc : chk l n = 3 := by unfold chk; rw [if_pos hbig]
    have H : TopsBad 3 w (.returned (.tuple #[.slice none 0 0, .int .i64 3])) w := ⟨rfl, Below.refl _ _⟩
    have HH : TopsAny l n w (.returned (.tuple #[.slice none 0 0, .int .i64 3])) w := .inr ⟨by rw [hc]; decide, by rw [hc]; exact H⟩
    clear hc H
    go_enter Tryz.func40, Tryz.ntmps40
    go_wp2
    go_ret2
    exact HH
  · have hfin : Hid (chk l n = chkTo l n) := by show chk l n = _; unfold chk; rw [if_neg hbig]
    have hle : n ≤ 4096 := by omega
    clear hbig
    have bad : ∀ (k : Nat) (x : Int) (w' : World), k < n → chkTo l (k + 1) = x → x ≠ 0 → Below w.heap.size w w' → TopsAny l n w (.returned (.tuple #[.slice none 0 0, .int .i64 x])) w' := by
      intro k x w' hk hx hx0 hb
      have e : chk l n = x := hfin.out.trans ((chkTo_stays l (by rw [hx]; exact hx0) hk).trans hx)
      exact .inr ⟨by rw [e]; exact hx0, by rw [e]; exact ⟨rfl, hb⟩⟩
    have HB := Lib.hid bad; clear bad
    have hmk := omake_i64 (n + 1) ((n : Int) + 1) (by omega) (by omega)
    go_enter Tryz.func40, Tryz.ntmps40
    go_wp2
    clear hmk
    go_loopw [16] (fun i wr => ∃ k : Nat, k ≤ n ∧ i = .int .i64 k ∧ wr.rowIs w.heap.size 2 (n + 1) (oupto l k) ∧ Below w.heap.size w wr ∧ Hid (chkTo l k = 0)) (fun i _ => n - (intOf i).toNat)
    case atStart =>
      refine ⟨0, Nat.zero_le _, rfl, (World.rowIs_made w (.int .i64 0) (n + 1) 2).congr (fun j _ => ?_), (Below.refl _ _).alloc (Nat.le_refl _) _, rfl⟩
      unfold oupto
      by_cases hj : j = 0
      · subst hj; rfl
      · rw [if_neg (by omega)]
    case round =>
      obtain ⟨k, hk, rfl, hrow, hb, h0⟩ := hrel
      by_cases hlt : k < n
      · obtain ⟨b, o, rfl, hbb, hcell0⟩ := hs.at_ (k := k) hlt
        have hcell : wr.cell? ⟨b, o + k, none⟩ = some (.int .i64 (l k)) := (hb.cell (p := ⟨b, o + k, none⟩) hbb).trans hcell0
        have hg : wr.cell? ⟨w.heap.size, k, none⟩ = some (.int .i64 (psum l k)) := by
          have := hrow.cell (i := k) (by omega)
          unfold oupto at this
          rwa [if_pos (Nat.le_refl _)] at this
        have hg1 : wr.cell? ⟨w.heap.size, k + 1, none⟩ = some (.int .i64 0) := by
          have := hrow.cell (i := k + 1) (by omega)
          unfold oupto at this
          rwa [if_neg (by omega)] at this
        have hfz : wr.frozen? ⟨w.heap.size, k + 1, none⟩ = false := hrow.frozen _
        clear hcell0
        obtain ⟨p1, p2⟩ := psum_bd l h0.out
        obtain ⟨f1, f2⟩ := hf k
        by_cases c1 : l k < 0
        · have H := HB.out k 12 wr hlt (chkTo_12 l h0.out (.inl c1)) (by decide) hb
          have H := Lib.hid H
          go_wp2
          go_ret2
          exact H.out
        · by_cases c2 : 2305843009213693952 < l k
          · have H := HB.out k 12 wr hlt (chkTo_12 l h0.out (.inr c2)) (by decide) hb
            have H := Lib.hid H
            go_wp2
            go_ret2
            exact H.out
          · by_cases c3 : 4611686018427387904 - psum l k < l k
            · have H := HB.out k 13 wr hlt (chkTo_13 l h0.out (by omega) (by omega) (by omega)) (by decide) hb
              have H := Lib.hid H
              go_wp2
              go_ret2
              exact H.out
            · have H0 : Hid (chkTo l (k + 1) = 0) := chkTo_0 l h0.out (by omega) (by omega) (by omega)
              have hrow' : (wr.setCell ⟨w.heap.size, k + 1, none⟩ (.int .i64 (psum l k + l k))).rowIs w.heap.size 2 (n + 1) (oupto l (k + 1)) := by
                refine (hrow.set (k + 1) _).congr (fun j _ => ?_)
                unfold oupto
                by_cases hj : j = k + 1
                · subst hj
                  rw [if_pos rfl, if_pos (Nat.le_refl _), psum_succ]
                · rw [if_neg hj]
                  by_cases hj2 : j ≤ k
                  · rw [if_pos hj2, if_pos (by omega)]
                  · rw [if_neg hj2, if_neg (by omega)]
              have HR := Lib.hid hrow'; clear hrow'
              go_wp2
              go_roundw
              case rel => exact ⟨k + 1, by omega, by go_num, HR.out, hb.setCell (Nat.le_refl _) _, H0⟩
              case measure => simp [intOf]; omega
      · obtain rfl : k = n := by omega
        have H : TopsAny l k w (.returned (.tuple #[.slice (some ⟨w.heap.size, 0, none⟩) (k + 1) (k + 1), .int .i64 0])) wr := by
          refine .inl ⟨hfin.out.trans h0.out, w.heap.size, rfl, hrow.congr (fun j hj => ?_), Nat.le_refl _, hb⟩
          unfold oupto i64s
          rw [if_pos (by omega)]
        have H := Lib.hid H
        go_wp2
        go_ret2
        exact H.out

attribute [local go_sem] run_store_complex'

end Go.Proofs.YtfmfmeiaekknbaaGreatDoor
end

section
/-
  Fenwick trees, plain: the last bit of a number, its successors; sums. No Go text.
-/
namespace Go.Proofs.YtfmfmeiaekknbaaGreatDoor

/-- k without its last bit. -/
def clr (k : Nat) : Nat := k &&& (k - 1)
/-- The next number whose range holds that of k. -/
def up (k : Nat) : Nat := k + (k - clr k)

theorem clr_odd (q : Nat) : clr (2 * q + 1) = 2 * q := by
  unfold clr
  rw [show 2 * q + 1 - 1 = 2 * q from by omega]
  have h1 := Nat.and_div_two (a := 2 * q + 1) (b := 2 * q)
  have h2 := Nat.and_mod_two_pow (a := 2 * q + 1) (b := 2 * q) (n := 1)
  rw [show (2 * q + 1) / 2 = q from by omega, show 2 * q / 2 = q from by omega, Nat.and_self] at h1
  rw [show (2 * q + 1) % 2 ^ 1 = 1 from by omega, show 2 * q % 2 ^ 1 = 0 from by omega] at h2
  simp at h2
  omega
theorem clr_even (q : Nat) (hq : 0 < q) : clr (2 * q) = 2 * clr q := by
  unfold clr
  have h1 := Nat.and_div_two (a := 2 * q) (b := 2 * q - 1)
  have h2 := Nat.and_mod_two_pow (a := 2 * q) (b := 2 * q - 1) (n := 1)
  rw [show 2 * q / 2 = q from by omega, show (2 * q - 1) / 2 = q - 1 from by omega] at h1
  rw [show 2 * q % 2 ^ 1 = 0 from by omega] at h2
  simp at h2
  omega
theorem parity (k : Nat) : (∃ q, k = 2 * q + 1) ∨ ∃ q, k = 2 * q := by
  rcases Nat.mod_two_eq_zero_or_one k with h | h
  · exact .inr ⟨k / 2, by omega⟩
  · exact .inl ⟨k / 2, by omega⟩
theorem clr_lt (k : Nat) (h : 0 < k) : clr k < k := by
  have : clr k ≤ k - 1 := Nat.and_le_right
  omega
theorem up_odd (q : Nat) : up (2 * q + 1) = 2 * (q + 1) := by unfold up; rw [clr_odd]; omega
theorem up_even (q : Nat) (h : 0 < q) : up (2 * q) = 2 * up q := by unfold up; rw [clr_even q h]; omega
theorem up_gt (k : Nat) (h : 0 < k) : k < up k := by have := clr_lt k h; unfold up; omega
theorem up_le (k : Nat) : up k ≤ 2 * k := by unfold up; omega
theorem clr_up (k : Nat) (h : 0 < k) : clr (up k) ≤ clr k := by
  induction k using Nat.strongRecOn with
  | ind k ih =>
    rcases parity k with ⟨q, rfl⟩ | ⟨q, rfl⟩
    · rw [up_odd, clr_even _ (by omega), clr_odd]
      have := clr_lt (q + 1) (by omega)
      omega
    · have hq : 0 < q := by omega
      rw [up_even q hq, clr_even _ (by have := up_gt q hq; omega), clr_even q hq]
      have := ih q (by omega) hq
      omega
/-- Between k and its successor. -/
theorem clr_mid (k : Nat) (h : 0 < k) : ∀ m, k < m → m < up k → k ≤ clr m := by
  induction k using Nat.strongRecOn with
  | ind k ih =>
    intro m h1 h2
    rcases parity k with ⟨q, rfl⟩ | ⟨q, rfl⟩
    · rw [up_odd] at h2; omega
    · have hq : 0 < q := by omega
      rw [up_even q hq] at h2
      rcases parity m with ⟨p, rfl⟩ | ⟨p, rfl⟩
      · rw [clr_odd]; omega
      · rw [clr_even p (by omega)]
        have := ih q (by omega) hq p (by omega) (by omega)
        omega
theorem clr_step (t : Nat) : ∀ a, clr (a * 2 ^ (t + 1) + 2 ^ t) = a * 2 ^ (t + 1) := by
  induction t with
  | zero => intro a; rw [show a * 2 ^ (0 + 1) + 2 ^ 0 = 2 * a + 1 from by omega, clr_odd]; omega
  | succ t ih =>
    intro a
    have hp := Nat.two_pow_pos t
    have e : a * 2 ^ (t + 1 + 1) + 2 ^ (t + 1) = 2 * (a * 2 ^ (t + 1) + 2 ^ t) := by rw [Nat.pow_succ 2 (t + 1), Nat.pow_succ 2 t, Nat.mul_add, ← Nat.mul_assoc a, Nat.mul_comm _ 2, Nat.mul_comm (2 ^ t) 2]
    rw [e, clr_even _ (by omega), ih, Nat.pow_succ 2 (t + 1), ← Nat.mul_assoc a, Nat.mul_comm _ 2]
/-- The last bit, by the two's complement. -/
theorem and_neg (t : Nat) : ∀ k, 0 < k → k < 2 ^ t → k &&& (2 ^ t - k) = k - clr k := by
  induction t with
  | zero => intro k h1 h2; omega
  | succ t ih =>
    intro k h1 h2
    rw [Nat.pow_succ] at h2 ⊢
    have h3 := Nat.and_div_two (a := k) (b := 2 ^ t * 2 - k)
    have h4 := Nat.and_mod_two_pow (a := k) (b := 2 ^ t * 2 - k) (n := 1)
    rcases parity k with ⟨q, rfl⟩ | ⟨q, rfl⟩
    · rw [clr_odd]
      rw [show (2 * q + 1) / 2 = q from by omega, show (2 ^ t * 2 - (2 * q + 1)) / 2 = 2 ^ t - 1 - q from by omega] at h3
      rw [show (2 * q + 1) % 2 ^ 1 = 1 from by omega, show (2 ^ t * 2 - (2 * q + 1)) % 2 ^ 1 = 1 from by omega] at h4
      have h4 : ((2 * q + 1) &&& (2 ^ t * 2 - (2 * q + 1))) % 2 = 1 := h4
      have h5 : q &&& (2 ^ t - 1 - q) = 0 := by
        apply Nat.eq_of_testBit_eq
        intro i
        rw [Nat.testBit_and, Nat.zero_testBit, show 2 ^ t - 1 - q = 2 ^ t - (q + 1) from by omega, Nat.testBit_two_pow_sub_succ (by omega)]
        cases q.testBit i <;> simp
      omega
    · have hq : 0 < q := by omega
      rw [clr_even q hq]
      rw [show 2 * q / 2 = q from by omega, show (2 ^ t * 2 - 2 * q) / 2 = 2 ^ t - q from by omega, ih q hq (by omega)] at h3
      rw [show 2 * q % 2 ^ 1 = 0 from by omega] at h4
      simp at h4
      omega

/-! ### Sums -/
/-- The list with by more at i. -/
def plusAt (l : Nat → Int) (i : Nat) (b : Int) : Nat → Int := fun j => if j = i then l i + b else l j
theorem psum_plusAt (l : Nat → Int) (i : Nat) (b : Int) (k : Nat) : psum (plusAt l i b) k = psum l k + if i < k then b else 0 := by
  induction k with
  | zero => rw [if_neg (by omega)]; rfl
  | succ k ih =>
    rw [psum_succ, psum_succ, ih]
    unfold plusAt
    by_cases c : k = i
    · subst c; rw [if_pos rfl, if_neg (by omega), if_pos (by omega)]; omega
    · rw [if_neg c]
      by_cases d : i < k
      · rw [if_pos d, if_pos (by omega)]; omega
      · rw [if_neg d, if_neg (by omega)]; omega
/-- Sizes that a tree may have. -/
structure Sizes (l : Nat → Int) (n : Nat) : Prop where
  nn : ∀ j, j < n → 0 ≤ l j
  top : psum l n ≤ 4611686018427387904
  le : n ≤ 4096
theorem Sizes.mono {l : Nat → Int} {n : Nat} (h : Sizes l n) {a b : Nat} (hab : a ≤ b) (hb : b ≤ n) : psum l a ≤ psum l b := by
  induction b with
  | zero => rw [show a = 0 from by omega]; exact Int.le_refl _
  | succ b ih =>
    by_cases c : a = b + 1
    · subst c; exact Int.le_refl _
    · have := ih (by omega) (by omega)
      have := h.nn b (by omega)
      rw [psum_succ]; omega
theorem Sizes.bd {l : Nat → Int} {n : Nat} (h : Sizes l n) {a : Nat} (ha : a ≤ n) : 0 ≤ psum l a ∧ psum l a ≤ 4611686018427387904 := by
  have h1 := h.mono (Nat.zero_le a) ha
  have h2 := h.mono ha (Nat.le_refl n)
  have h3 := h.top
  have h4 : psum l 0 = 0 := rfl
  omega
/-- What the sums of a tree are. -/
def fsum (l : Nat → Int) (k : Nat) : Int := psum l k - psum l (clr k)
theorem Sizes.fsum_bd {l : Nat → Int} {n : Nat} (h : Sizes l n) {k : Nat} (hk : k ≤ n) : 0 ≤ fsum l k ∧ fsum l k ≤ 4611686018427387904 := by
  have hc : clr k ≤ k := Nat.and_le_left
  have h1 := h.mono hc hk
  have h2 := h.bd hk
  have h3 := h.bd (Nat.le_trans hc hk)
  unfold fsum; omega
theorem fsum_plusAt (l : Nat → Int) (i : Nat) (b : Int) (k : Nat) : fsum (plusAt l i b) k = fsum l k + if clr k ≤ i ∧ i < k then b else 0 := by
  have hc : clr k ≤ k := Nat.and_le_left
  unfold fsum
  rw [psum_plusAt, psum_plusAt]
  by_cases c : i < k
  · rw [if_pos c]
    by_cases d : i < clr k
    · rw [if_pos d, if_neg (by omega)]; omega
    · rw [if_neg d, if_pos (by omega)]; omega
  · rw [if_neg c, if_neg (by omega), if_neg (by omega)]; omega
end Go.Proofs.YtfmfmeiaekknbaaGreatDoor
end

section
/-
  Contracts of package fenwicks, first: the tree in memory; none, Len, Total, at, the successor.
-/
namespace Go.Proofs.YtfmfmeiaekknbaaGreatDoor
open Go.RowKit
set_option linter.unusedVariables false

/-- The tree's four cells. -/
def treeCells (gs gt n : Nat) (total : Int) : Nat → Value := fun j => if j = 0 then .bool true else if j = 1 then .slice (some ⟨gs, 0, none⟩) n n else if j = 2 then .slice (some ⟨gt, 0, none⟩) (n + 1) (n + 1) else .int .i64 total

/-- A tree at p, its sizes in block gs, its sums in block gt. -/
structure FG (w : World) (p gs gt n : Nat) (l : Nat → Int) : Prop where
  hp : w.rowIs p 145 4 (treeCells gs gt n (psum l n))
  hs : w.rowIs gs 2 n (i64s l)
  ht : w.rowIs gt 2 (n + 1) (i64s (fsum l))
  ne1 : gs ≠ p
  ne2 : gt ≠ p
  ne3 : gt ≠ gs
  ok : Sizes l n

/-- The same; its memory lies from block B on. -/
def Fen (w : World) (B p n : Nat) (l : Nat → Int) : Prop := ∃ gs gt, FG w p gs gt n l ∧ B ≤ p ∧ B ≤ gs ∧ B ≤ gt

theorem Fen.ok {w : World} {B p n : Nat} {l : Nat → Int} (h : Fen w B p n l) : Sizes l n := by
  obtain ⟨gs, gt, h1, _⟩ := h
  exact h1.ok
theorem Fen.keep {w w' : World} {B p n : Nat} {l : Nat → Int} (h : Fen w B p n l) (k : ∀ b, B ≤ b → b < w.heap.size → w'.heap[b]? = w.heap[b]?) : Fen w' B p n l := by
  obtain ⟨gs, gt, h1, b1, b2, b3⟩ := h
  exact ⟨gs, gt, ⟨h1.hp.of_block (k p b1 h1.hp.lt), h1.hs.of_block (k gs b2 h1.hs.lt), h1.ht.of_block (k gt b3 h1.ht.lt), h1.ne1, h1.ne2, h1.ne3, h1.ok⟩, b1, b2, b3⟩
theorem Fen.below {w w' : World} {B p n : Nat} {l : Nat → Int} (h : Fen w B p n l) (hb : Below w.heap.size w w') : Fen w' B p n l := h.keep fun b _ hb' => hb.block b hb'
theorem Fen.drawn {w w' : World} {B p n : Nat} {l : Nat → Int} (h : Fen w B p n l) (hd : Drawn w w') : Fen w' B p n l := by obtain ⟨q, rfl⟩ := hd; exact h.keep fun _ _ _ => rfl
theorem Fen.less {w : World} {B B' p n : Nat} {l : Nat → Int} (h : Fen w B p n l) (hB : B' ≤ B) : Fen w B' p n l := by
  obtain ⟨gs, gt, h1, b1, b2, b3⟩ := h
  exact ⟨gs, gt, h1, by omega, by omega, by omega⟩

/-- The cells of the tree as the walk reads them. -/
structure TCells (w : World) (p gs gt n : Nat) (t : Int) : Prop where
  c0 : w.cell? ⟨p, 0, none⟩ = some (.bool true)
  c1 : w.cell? ⟨p, 1, none⟩ = some (.slice (some ⟨gs, 0, none⟩) n n)
  c2 : w.cell? ⟨p, 2, none⟩ = some (.slice (some ⟨gt, 0, none⟩) (n + 1) (n + 1))
  c3 : w.cell? ⟨p, 3, none⟩ = some (.int .i64 t)
  fz : ∀ i, w.frozen? ⟨p, i, none⟩ = false
theorem tcells_of {w : World} {p gs gt n : Nat} {t : Int} (h : w.rowIs p 145 4 (treeCells gs gt n t)) : TCells w p gs gt n t :=
  ⟨h.cell (i := 0) (by omega), h.cell (i := 1) (by omega), h.cell (i := 2) (by omega), h.cell (i := 3) (by omega), fun i => h.frozen i⟩

set_option maxHeartbeats 400000 in
theorem none_no (w : World) (p : Nat) (c0 : w.cell? ⟨p, 0, none⟩ = some (.bool true)) :
    Calls Tryz.prog 81 #[.pointer (some ⟨p, 0, none⟩)] w fun e w' => e = .returned (.bool false) ∧ w = w' := by
  go_enter Tryz.func81, Tryz.ntmps81
  go_wp2_with fail
  go_ret
  exact ⟨rfl, rfl⟩
theorem ftotal_any (w : World) (B p n : Nat) (l : Nat → Int) (h : Fen w B p n l) :
    Calls Tryz.prog 44 #[.pointer (some ⟨p, 0, none⟩)] w fun e w' => e = .returned (.int .i64 (psum l n)) ∧ w = w' := by
  obtain ⟨gs, gt, h1, _⟩ := h
  obtain ⟨c0, c1, c2, c3, fz⟩ := tcells_of h1.hp
  clear fz h1
  go_enter Tryz.func44, Tryz.ntmps44
  go_wp2_with fail
  refine (none_no w p c0).mono ?_
  rintro e w' ⟨rfl, rfl⟩
  go_wp2_with fail
  go_ret
  exact ⟨rfl, rfl⟩

theorem bits_low (k : Nat) (h0 : 0 < k) (h : k ≤ 100000) : bits .and .i64 (k : Int) (-(k : Int)) = ((k - clr k : Nat) : Int) := by
  have hx := and_neg 64 k h0 (by omega)
  have h1 : (BitVec.ofInt 64 (k : Int)).toNat = k := by
    rw [BitVec.ofInt_natCast, BitVec.toNat_ofNat]; exact Nat.mod_eq_of_lt (by omega)
  have h2 : (BitVec.ofInt 64 (-(k : Int))).toNat = 2 ^ 64 - k := by
    rw [BitVec.toNat_ofInt]; omega
  show IntKind.i64.wrap ((BitVec.ofInt 64 (k : Int) &&& BitVec.ofInt 64 (-(k : Int))).toNat : Int) = _
  rw [BitVec.toNat_and, h1, h2, hx, IntKind.wrap_i64]
  omega

set_option maxHeartbeats 400000 in
theorem up_any (w : World) (k : Nat) (h1 : 0 < k) (h2 : k ≤ 100000) :
    Calls Tryz.prog 101 #[.int .i64 k] w fun e w' => e = .returned (.int .i64 (up k)) ∧ w = w' := by
  have h := bits_low k h1 h2
  have hu : Hid ((k : Int) + ((k - clr k : Nat) : Int) = (up k : Int)) := by show _ = _; unfold up; omega
  obtain ⟨d, hd⟩ : ∃ d : Nat, d = k - clr k := ⟨_, rfl⟩
  have hd2 : d ≤ k := by omega
  rw [← hd] at h hu
  clear hd
  go_enter Tryz.func101, Tryz.ntmps101
  go_wp2_with fail
  go_ret
  exact ⟨ret_int hu.out, rfl⟩
end Go.Proofs.YtfmfmeiaekknbaaGreatDoor
end

section
/-
  Contracts of package fenwicks, second: At, Sum, add.
-/
namespace Go.Proofs.YtfmfmeiaekknbaaGreatDoor
open Go.RowKit
set_option linter.unusedVariables false

theorem plusAt_at (l : Nat → Int) (i : Nat) (b : Int) : plusAt l i b i = l i + b := if_pos rfl
theorem plusAt_ne (l : Nat → Int) {i j : Nat} (b : Int) (h : j ≠ i) : plusAt l i b j = l j := if_neg h

set_option maxHeartbeats 1600000 in
theorem add_any (w : World) (B p n : Nat) (l : Nat → Int) (h : Fen w B p n l) (hB : B ≤ w.heap.size) (i : Nat) (hi : i < n) (b : Int) (fb : Fits b) (ho : Sizes (plusAt l i b) n) :
    Calls Tryz.prog 78 #[.pointer (some ⟨p, 0, none⟩), .int .i64 i, .int .i64 b] w fun e w' => e = .returned (.tuple #[]) ∧ Fen w' B p n (plusAt l i b) ∧ Below B w w' := by
  obtain ⟨gs, gt, h1, b1, b2, b3⟩ := h
  obtain ⟨c0, c1, c2, c3, fz⟩ := tcells_of h1.hp
  have z3 := fz 3
  have hc := h1.hs.cell hi
  have hf := h1.hs.frozen i
  rw [i64s_at] at hc
  have hn := h1.ok.le
  have o1 := ho.nn i hi
  have o2 := h1.ok.nn i hi
  have o3 := h1.ok.mono (a := i) (b := i + 1) (by omega) hi
  have o4 := h1.ok.bd (a := i + 1) hi
  have o5 := h1.ok.bd (a := i) (by omega)
  rw [psum_succ] at o4 o3
  have o6 := ho.mono (a := i) (b := i + 1) (by omega) hi
  have o7 := ho.bd (a := i + 1) hi
  have o8 := ho.bd (a := i) (by omega)
  rw [psum_succ] at o7 o6
  rw [plusAt_at] at o1 o6 o7
  have t1 := h1.ok.bd (Nat.le_refl n)
  have t2 := ho.bd (Nat.le_refl n)
  have t3 := psum_plusAt l i b n
  rw [if_pos hi] at t3
  have T3 := Lib.hid t3
  have t4 : 0 ≤ psum l n + b ∧ psum l n + b ≤ 4611686018427387904 := by omega
  obtain ⟨a1, a2⟩ : 0 ≤ l i + b ∧ l i + b ≤ 4611686018427387904 := by omega
  obtain ⟨a3, a4⟩ := t4
  have HG := Lib.hid h1
  have HO := Lib.hid ho
  have NE1 := Lib.hid h1.ne1
  obtain ⟨f1, f2⟩ := fb
  have e1 : psum l n ≤ 4611686018427387904 := t1.2
  have e2 : 0 ≤ psum l n := t1.1
  have e3 : l i ≤ 4611686018427387904 := by omega
  clear t1 t2 t3 o3 o4 o5 o6 o7 o8 o1 fz h1 ho
  have k3 : ∀ v, (w.setCell ⟨gs, i, none⟩ v).cell? ⟨p, 3, none⟩ = some (.int .i64 (psum l n)) := fun v => by
    rw [World.cell?_setCell_other _ _ _ _ (fun e => NE1.out (by injection e))]; exact c3
  -- the tree behind the two stores, its sums as before
  have HW : ∀ w2, w2 = (w.setCell ⟨gs, i, none⟩ (.int .i64 (l i + b))).setCell ⟨p, 3, none⟩ (.int .i64 (psum l n + b)) →
      w2.rowIs p 145 4 (treeCells gs gt n (psum (plusAt l i b) n)) ∧ w2.rowIs gs 2 n (i64s (plusAt l i b)) ∧ w2.rowIs gt 2 (n + 1) (i64s (fsum l)) ∧ Below B w w2 := by
    rintro w2 rfl
    refine ⟨(((HG.out.hp.setOther (Ne.symm NE1.out) _).set 3 _)).congr fun j hj => ?_, ((HG.out.hs.set i _).setOther NE1.out _).congr fun j hj => ?_, (HG.out.ht.setOther HG.out.ne3 _).setOther HG.out.ne2 _, (((Below.refl B w).setCell (p := ⟨gs, i, none⟩) b2 _).setCell (p := ⟨p, 3, none⟩) b1 _)⟩
    · match j, hj with
      | 0, _ => rfl
      | 1, _ => rfl
      | 2, _ => rfl
      | 3, _ => show Value.int .i64 _ = Value.int .i64 _; rw [T3.out]
    · show (if j = i then Value.int .i64 (l i + b) else .int .i64 (l j)) = .int .i64 (plusAt l i b j)
      by_cases c : j = i
      · rw [if_pos c, c, plusAt_at]
      · rw [if_neg c, plusAt_ne l b c]
  have HW' := Lib.hid HW
  clear HW
  go_enter Tryz.func78, Tryz.ntmps78
  go_wp2_with fail
  obtain ⟨w2, e2⟩ : ∃ w2, w2 = (w.setCell ⟨gs, i, none⟩ (.int .i64 (l i + b))).setCell ⟨p, 3, none⟩ (.int .i64 (psum l n + b)) := ⟨_, rfl⟩
  rw [← e2]
  obtain ⟨r1, r2, r3, r4⟩ := HW'.out w2 e2
  clear e2 HW' k3
  have NE2 := Lib.hid HG.out.ne2
  have NE3 := Lib.hid HG.out.ne3
  have OL := Lib.hid HG.out.ok
  have R := Lib.hid (show w2.rowIs p 145 4 (treeCells gs gt n (psum (plusAt l i b) n)) ∧ w2.rowIs gs 2 n (i64s (plusAt l i b)) ∧ w2.rowIs gt 2 (n + 1) (i64s fun m => if m < i + 1 then fsum (plusAt l i b) m else fsum l m) ∧ Below B w w2 from
    ⟨r1, r2, r3.congr (fun m _ => by
      show Value.int .i64 (fsum l m) = Value.int .i64 (if m < i + 1 then fsum (plusAt l i b) m else fsum l m)
      by_cases c : m < i + 1
      · rw [if_pos c, fsum_plusAt, if_neg (by omega), Int.add_zero]
      · rw [if_neg c]), r4⟩)
  have hci := clr_lt (i + 1) (by omega)
  clear r1 r2 r3 r4 c0 c1 c2 c3 z3 hc hf HG T3
  go_loopw [7] (fun k wr => ∃ j : Nat, clr j ≤ i ∧ i < j ∧ j ≤ 8192 ∧ k = .int .i64 j ∧ Hid (wr.rowIs p 145 4 (treeCells gs gt n (psum (plusAt l i b) n)) ∧ wr.rowIs gs 2 n (i64s (plusAt l i b)) ∧ wr.rowIs gt 2 (n + 1) (i64s fun m => if m < j then fsum (plusAt l i b) m else fsum l m) ∧ Below B w wr)) (fun k _ => n + 1 - (intOf k).toNat)
  case atStart => exact ⟨i + 1, by omega, by omega, by omega, by first | rfl | go_num, R⟩
  case round =>
    obtain ⟨j, hj1, hj2, hj3, rfl, hR⟩ := hrel
    obtain ⟨c0, c1, c2, c3, fz⟩ := tcells_of hR.out.1
    clear R fz
    by_cases hlt : j < n + 1
    · have hc := hR.out.2.2.1.cell (i := j) hlt
      have hf := hR.out.2.2.1.frozen j
      rw [i64s_at, if_neg (Nat.lt_irrefl j)] at hc
      have hki : (j : Int) < (n : Int) + 1 := by omega
      have b5 := OL.out.fsum_bd (k := j) (by omega)
      have b6 := HO.out.fsum_bd (k := j) (by omega)
      have b7 := fsum_plusAt l i b j
      rw [if_pos ⟨hj1, hj2⟩] at b7
      rw [b7] at b6
      obtain ⟨b51, b52⟩ := b5
      obtain ⟨b61, b62⟩ := b6
      have B7 := Lib.hid b7
      have u1 := up_gt j (by omega)
      have u2 := up_le j
      have u3 := clr_up j (by omega)
      have u4 := clr_mid j (by omega)
      have U4 := Lib.hid u4
      clear b7 u4
      have HN : Hid (∀ wr', wr' = wr.setCell ⟨gt, j, none⟩ (.int .i64 (fsum l j + b)) → wr'.rowIs p 145 4 (treeCells gs gt n (psum (plusAt l i b) n)) ∧ wr'.rowIs gs 2 n (i64s (plusAt l i b)) ∧ wr'.rowIs gt 2 (n + 1) (i64s fun m => if m < up j then fsum (plusAt l i b) m else fsum l m) ∧ Below B w wr') := by
        rintro wr' rfl
        refine ⟨hR.out.1.setOther (Ne.symm NE2.out) _, hR.out.2.1.setOther (Ne.symm NE3.out) _, (hR.out.2.2.1.set j _).congr fun m _ => ?_, hR.out.2.2.2.setCell (p := ⟨gt, j, none⟩) b3 _⟩
        show (if m = j then Value.int .i64 (fsum l j + b) else .int .i64 (if m < j then fsum (plusAt l i b) m else fsum l m)) = .int .i64 (if m < up j then fsum (plusAt l i b) m else fsum l m)
        by_cases d1 : m = j
        · rw [if_pos d1, d1, if_pos u1, B7.out]
        · rw [if_neg d1]
          by_cases d2 : m < j
          · rw [if_pos d2, if_pos (by omega)]
          · rw [if_neg d2]
            by_cases d3 : m < up j
            · rw [if_pos d3, fsum_plusAt, if_neg (by have := U4.out m (by omega) d3; omega), Int.add_zero]
            · rw [if_neg d3]
      obtain ⟨q, hq⟩ : ∃ q, q = up j := ⟨_, rfl⟩
      have HU : Hid (∀ W, Calls Tryz.prog 101 #[.int .i64 j] W fun e w' => e = .returned (.int .i64 q) ∧ W = w') := by rw [hq]; exact fun W => up_any W j (by omega) (by omega)
      rw [← hq] at u1 u2 u3 HN
      clear hq U4 B7 hR
      go_wp2_with fail
      refine (HU.out _).mono ?_
      rintro e w' ⟨rfl, rfl⟩
      go_wp2_with fail
      go_roundw
      case rel => exact ⟨q, by omega, by omega, by omega, by go_num, HN.out _ rfl⟩
      case measure => simp [intOf]; omega
    · have HE : Hid (Fen wr B p n (plusAt l i b) ∧ Below B w wr) := ⟨⟨gs, gt, ⟨hR.out.1, hR.out.2.1, hR.out.2.2.1.congr fun m hm => by show Value.int .i64 (if m < j then _ else _) = _; rw [if_pos (by omega)]; rfl, NE1.out, NE2.out, NE3.out, HO.out⟩, b1, b2, b3⟩, hR.out.2.2.2⟩
      clear hR
      go_wp2_with fail
      go_end0
      exact ⟨rfl, HE.out⟩
end Go.Proofs.YtfmfmeiaekknbaaGreatDoor
end

section
/-
  Contracts of package fenwicks, third: Check, New.
-/
namespace Go.Proofs.YtfmfmeiaekknbaaGreatDoor
open Go.RowKit
set_option linter.unusedVariables false

theorem infoI64 : (Tryz.prog.info? 2).map (fun i => (i.zero, i.size, i.bytes)) = some (some (.int .i64 0), 1, 8) := by kernel_rfl
/-- make([]int64, n). -/
theorem make_i64 (n : Nat) (x : Int) (hx : x = (n : Int)) (hn : n ≤ 1000000) (W : World) :
    (Instr.makeSlice 57 (.int .i64 x) (.int .i64 x)).run Tryz.prog W = .ok (.slice (some ⟨W.heap.size, 0, none⟩) n n) (W.alloc (.cells (madeCells #[.int .i64 0] n) 2)) := by
  subst hx
  exact run_make_row' 57 2 (.int .i64 0) 8 Tryz.underlying57 infoI64 rfl .i64 .i64 n (by omega) (by omega) W

/-- The first k sizes. -/
def upto (l : Nat → Int) (k : Nat) : Nat → Int := fun j => if j < k then l j else 0
theorem upto_step (l : Nat → Int) (k : Nat) : plusAt (upto l k) k (l k) = upto l (k + 1) := by
  funext j
  unfold plusAt upto
  by_cases c : j = k
  · subst c; rw [if_pos rfl, if_neg (by omega), if_pos (by omega)]; omega
  · rw [if_neg c]
    by_cases d : j < k
    · rw [if_pos d, if_pos (by omega)]
    · rw [if_neg d, if_neg (by omega)]
theorem psum_upto (l : Nat → Int) (k : Nat) : ∀ m, psum (upto l k) m = psum l (min m k) := by
  intro m
  induction m with
  | zero => rw [Nat.zero_min]; rfl
  | succ m ih =>
    rw [psum_succ, ih]
    unfold upto
    by_cases c : m < k
    · rw [if_pos c, show min m k = m from by omega, show min (m + 1) k = m + 1 from by omega, psum_succ]
    · rw [if_neg c, show min m k = k from by omega, show min (m + 1) k = k from by omega]; omega
theorem sizes_of_chk (l : Nat → Int) (n : Nat) (hn : n ≤ 4096) (h : chkTo l n = 0) : Sizes l n :=
  ⟨fun j hj => (chkTo_step l (chkTo_zero l h (show j + 1 ≤ n from hj))).2.1, (psum_bd l h).2, hn⟩
theorem sizes_upto (l : Nat → Int) (n k : Nat) (h : Sizes l n) : Sizes (upto l k) n := by
  refine ⟨fun j hj => ?_, ?_, h.le⟩
  · unfold upto; by_cases c : j < k
    · rw [if_pos c]; exact h.nn j hj
    · rw [if_neg c]; exact Int.le_refl _
  · rw [psum_upto]; exact (h.bd (show min n k ≤ n by omega)).2
theorem psum_zero (k : Nat) (l : Nat → Int) : psum (upto l 0) k = 0 := by rw [psum_upto, Nat.min_zero]; rfl
theorem fsum_zero (k : Nat) (l : Nat → Int) : fsum (upto l 0) k = 0 := by unfold fsum; rw [psum_zero, psum_zero]; rfl

/-- The tree whose two rows and whose cells were made, in some order. -/
theorem fen_made (w : World) (W : World) (p gs gt n : Nat) (l : Nat → Int) (h : Sizes l n) (hp : W.rowIs p 145 4 (treeCells gs gt n 0)) (hs : W.rowIs gs 2 n (fun _ => .int .i64 0)) (ht : W.rowIs gt 2 (n + 1) (fun _ => .int .i64 0))
    (n1 : gs ≠ p) (n2 : gt ≠ p) (n3 : gt ≠ gs) (b1 : w.heap.size ≤ p) (b2 : w.heap.size ≤ gs) (b3 : w.heap.size ≤ gt) : Fen W w.heap.size p n (upto l 0) :=
  ⟨gs, gt, ⟨by rw [psum_zero]; exact hp, hs.congr fun j _ => (by show Value.int .i64 0 = Value.int .i64 (upto l 0 j); unfold upto; rw [if_neg (by omega)]), ht.congr fun j _ => (by show Value.int .i64 0 = Value.int .i64 (fsum (upto l 0) j); rw [fsum_zero]), n1, n2, n3, sizes_upto l n 0 h⟩, b1, b2, b3⟩

theorem fen_congr {w : World} {B p n : Nat} {l l' : Nat → Int} (h : Fen w B p n l) (e : ∀ j, j < n → l j = l' j) : Fen w B p n l' := by
  obtain ⟨gs, gt, h1, b1, b2, b3⟩ := h
  have ep : ∀ k, k ≤ n → psum l k = psum l' k := by
    intro k
    induction k with
    | zero => intro _; rfl
    | succ k ih => intro hk; rw [psum_succ, psum_succ, ih (by omega), e k (by omega)]
  refine ⟨gs, gt, ⟨by rw [← ep n (Nat.le_refl n)]; exact h1.hp, h1.hs.congr fun j hj => (by show Value.int .i64 _ = Value.int .i64 _; rw [e j hj]), h1.ht.congr fun j hj => ?_, h1.ne1, h1.ne2, h1.ne3, ⟨fun j hj => by rw [← e j hj]; exact h1.ok.nn j hj, by rw [← ep n (Nat.le_refl n)]; exact h1.ok.top, h1.ok.le⟩⟩, b1, b2, b3⟩
  have hc : clr j ≤ j := Nat.and_le_left
  show Value.int .i64 (fsum l j) = Value.int .i64 (fsum l' j)
  unfold fsum
  rw [ep j (by omega), ep (clr j) (by omega)]
theorem size_alloc' (w : World) (o : Obj) : (w.alloc o).heap.size = w.heap.size + 1 := by simp

/-- What New leaves. -/
def FNewPost (w : World) (n : Nat) (l : Nat → Int) (e : Ending) (w' : World) : Prop :=
  ∃ p, e = .returned (.tuple #[.pointer (some ⟨p, 0, none⟩), .int .i64 0]) ∧ Fen w' w.heap.size p n l ∧ Below w.heap.size w w'

set_option maxHeartbeats 1600000 in
theorem fnew_ok (A : Option Addr) (n c : Nat) (l : Nat → Int) (w : World) (hs : Sees w w.heap.size A n (i64s l)) (hf : ∀ k, Fits (l k)) (hc : chk l n = 0) :
    Calls Tryz.prog 42 #[.slice A n c] w (FNewPost w n l) := by
  have hn : n ≤ 4096 := by
    rcases Nat.lt_or_ge 4096 n with h | h
    · unfold chk at hc; rw [if_pos h] at hc; exact absurd hc (by decide)
    · exact h
  have hck : chkTo l n = 0 := by unfold chk at hc; rwa [if_neg (by omega)] at hc
  have HS := Lib.hid hs
  have HC := Lib.hid hc
  have HO := Lib.hid (sizes_of_chk l n hn hck)
  have HF := Lib.hid hf
  clear hs hc hck hf
  have hm1 := fun W => make_i64 n n rfl (by omega) W
  have hm2 := fun W => make_i64 (n + 1) ((n : Int) + 1) (by omega) (by omega) W
  go_enter Tryz.func42, Tryz.ntmps42
  go_wp2_with fail
  refine (fcheck_any A n c l w _ HS.out HF.out (by omega)).mono ?_
  rintro e w' ⟨rfl, rfl⟩
  rw [HC.out]
  go_wp2_with fail
  go_region
  · have HFe : Hid (Fen (((w.alloc (.cells (madeCells #[.int .i64 0] n) 2)).alloc (.cells (madeCells #[.int .i64 0] (n + 1)) 2)).alloc (.cells #[.bool true, .slice (some ⟨w.heap.size, 0, none⟩) n n, .slice (some ⟨(w.heap.size + 1), 0, none⟩) (n + 1) (n + 1), .int .i64 0] 145)).drew w.heap.size (w.heap.size + 1 + 1) n (upto l 0)) := by
      refine fen_made w _ _ w.heap.size (w.heap.size + 1) n l HO.out ?_ ((((World.rowIs_made w (.int .i64 0) n 2).alloc _).alloc _).drew) (((by simpa using World.rowIs_made (w.alloc (.cells (madeCells #[.int .i64 0] n) 2)) (.int .i64 0) (n + 1) 2 : ((w.alloc (.cells (madeCells #[.int .i64 0] n) 2)).alloc (.cells (madeCells #[.int .i64 0] (n + 1)) 2)).rowIs (w.heap.size + 1) 2 (n + 1) (fun _ => .int .i64 0)).alloc _).drew) (by omega) (by omega) (by omega) (by omega) (by omega) (by omega)
      have := World.rowIs_alloc ((w.alloc (.cells (madeCells #[.int .i64 0] n) 2)).alloc (.cells (madeCells #[.int .i64 0] (n + 1)) 2)) #[.bool true, .slice (some ⟨w.heap.size, 0, none⟩) n n, .slice (some ⟨(w.heap.size + 1), 0, none⟩) (n + 1) (n + 1), .int .i64 0] 145 (treeCells w.heap.size (w.heap.size + 1) n 0) (fun j hj => by
        match j, hj with
        | 0, _ => rfl
        | 1, _ => rfl
        | 2, _ => rfl
        | 3, _ => rfl)
      simp only [size_alloc'] at this
      exact this
    have HBl : Hid (Below w.heap.size w (((w.alloc (.cells (madeCells #[.int .i64 0] n) 2)).alloc (.cells (madeCells #[.int .i64 0] (n + 1)) 2)).alloc (.cells #[.bool true, .slice (some ⟨w.heap.size, 0, none⟩) n n, .slice (some ⟨(w.heap.size + 1), 0, none⟩) (n + 1) (n + 1), .int .i64 0] 145)).drew) := ((((Below.refl _ w).alloc (Nat.le_refl _) _).alloc (by simp) _).alloc (by simp; omega) _).drew
    obtain ⟨p, hp⟩ : ∃ p, p = w.heap.size + 1 + 1 := ⟨_, rfl⟩
    rw [← hp] at HFe
    rw [← hp]
    clear hp hm1 hm2
    go_wp2_with fail
    go_loopw [24] (fun i wr => ∃ k : Nat, k ≤ n ∧ i = .int .i64 k ∧ Hid (Fen wr w.heap.size p n (upto l k)) ∧ Hid (Below w.heap.size w wr)) (fun i _ => n - (intOf i).toNat)
    case atStart => exact ⟨0, Nat.zero_le _, rfl, HFe, HBl⟩
    case round =>
      obtain ⟨k, hk, rfl, hFe, hBl⟩ := hrel
      clear HFe HBl
      by_cases hlt : k < n
      · obtain ⟨b, o, rfl, _, hc⟩ := (HS.out.below hBl.out).at_ hlt
        rw [i64s_at] at hc
        have HA : Hid (Calls Tryz.prog 78 #[.pointer (some ⟨p, 0, none⟩), .int .i64 k, .int .i64 (l k)] wr fun e w' => e = .returned (.tuple #[]) ∧ Fen w' w.heap.size p n (upto l (k + 1)) ∧ Below w.heap.size wr w') := by
          have := add_any wr w.heap.size p n (upto l k) hFe.out hBl.out.size k hlt (l k) (HF.out k) (by rw [upto_step]; exact sizes_upto l n _ HO.out)
          rw [upto_step] at this
          exact this
        go_wp2_with fail
        refine HA.out.mono ?_
        rintro e w5 ⟨rfl, h5, h6⟩
        have h7 := Lib.hid h5
        have h8 := Lib.hid (hBl.out.trans h6)
        clear h5 h6 HA
        go_wp2_with fail
        go_roundw
        case rel => exact ⟨k + 1, by omega, by go_num, h7, h8⟩
        case measure => simp [intOf]; omega
      · obtain rfl : k = n := by omega
        have HP : Hid (FNewPost w k l (.returned (.tuple #[.pointer (some ⟨p, 0, none⟩), .int .i64 0])) wr) := ⟨p, rfl, fen_congr hFe.out fun j hj => if_pos hj, hBl.out⟩
        clear hFe hBl
        go_wp2_with fail
        go_ret2
        exact HP.out
  · have HFe : Hid (Fen (((w.alloc (.cells (madeCells #[.int .i64 0] (n + 1)) 2)).alloc (.cells (madeCells #[.int .i64 0] n) 2)).alloc (.cells #[.bool true, .slice (some ⟨(w.heap.size + 1), 0, none⟩) n n, .slice (some ⟨w.heap.size, 0, none⟩) (n + 1) (n + 1), .int .i64 0] 145)).drew w.heap.size (w.heap.size + 1 + 1) n (upto l 0)) := by
      refine fen_made w _ _ (w.heap.size + 1) w.heap.size n l HO.out ?_ (((by simpa using World.rowIs_made (w.alloc (.cells (madeCells #[.int .i64 0] (n + 1)) 2)) (.int .i64 0) n 2 : ((w.alloc (.cells (madeCells #[.int .i64 0] (n + 1)) 2)).alloc (.cells (madeCells #[.int .i64 0] n) 2)).rowIs (w.heap.size + 1) 2 n (fun _ => .int .i64 0)).alloc _).drew) ((((World.rowIs_made w (.int .i64 0) (n + 1) 2).alloc _).alloc _).drew) (by omega) (by omega) (by omega) (by omega) (by omega) (by omega)
      have := World.rowIs_alloc ((w.alloc (.cells (madeCells #[.int .i64 0] (n + 1)) 2)).alloc (.cells (madeCells #[.int .i64 0] n) 2)) #[.bool true, .slice (some ⟨(w.heap.size + 1), 0, none⟩) n n, .slice (some ⟨w.heap.size, 0, none⟩) (n + 1) (n + 1), .int .i64 0] 145 (treeCells (w.heap.size + 1) w.heap.size n 0) (fun j hj => by
        match j, hj with
        | 0, _ => rfl
        | 1, _ => rfl
        | 2, _ => rfl
        | 3, _ => rfl)
      simp only [size_alloc'] at this
      exact this
    have HBl : Hid (Below w.heap.size w (((w.alloc (.cells (madeCells #[.int .i64 0] (n + 1)) 2)).alloc (.cells (madeCells #[.int .i64 0] n) 2)).alloc (.cells #[.bool true, .slice (some ⟨(w.heap.size + 1), 0, none⟩) n n, .slice (some ⟨w.heap.size, 0, none⟩) (n + 1) (n + 1), .int .i64 0] 145)).drew) := ((((Below.refl _ w).alloc (Nat.le_refl _) _).alloc (by simp) _).alloc (by simp; omega) _).drew
    obtain ⟨p, hp⟩ : ∃ p, p = w.heap.size + 1 + 1 := ⟨_, rfl⟩
    rw [← hp] at HFe
    rw [← hp]
    clear hp hm1 hm2
    go_wp2_with fail
    go_loopw [24] (fun i wr => ∃ k : Nat, k ≤ n ∧ i = .int .i64 k ∧ Hid (Fen wr w.heap.size p n (upto l k)) ∧ Hid (Below w.heap.size w wr)) (fun i _ => n - (intOf i).toNat)
    case atStart => exact ⟨0, Nat.zero_le _, rfl, HFe, HBl⟩
    case round =>
      obtain ⟨k, hk, rfl, hFe, hBl⟩ := hrel
      clear HFe HBl
      by_cases hlt : k < n
      · obtain ⟨b, o, rfl, _, hc⟩ := (HS.out.below hBl.out).at_ hlt
        rw [i64s_at] at hc
        have HA : Hid (Calls Tryz.prog 78 #[.pointer (some ⟨p, 0, none⟩), .int .i64 k, .int .i64 (l k)] wr fun e w' => e = .returned (.tuple #[]) ∧ Fen w' w.heap.size p n (upto l (k + 1)) ∧ Below w.heap.size wr w') := by
          have := add_any wr w.heap.size p n (upto l k) hFe.out hBl.out.size k hlt (l k) (HF.out k) (by rw [upto_step]; exact sizes_upto l n _ HO.out)
          rw [upto_step] at this
          exact this
        go_wp2_with fail
        refine HA.out.mono ?_
        rintro e w5 ⟨rfl, h5, h6⟩
        have h7 := Lib.hid h5
        have h8 := Lib.hid (hBl.out.trans h6)
        clear h5 h6 HA
        go_wp2_with fail
        go_roundw
        case rel => exact ⟨k + 1, by omega, by go_num, h7, h8⟩
        case measure => simp [intOf]; omega
      · obtain rfl : k = n := by omega
        have HP : Hid (FNewPost w k l (.returned (.tuple #[.pointer (some ⟨p, 0, none⟩), .int .i64 0])) wr) := ⟨p, rfl, fen_congr hFe.out fun j hj => if_pos hj, hBl.out⟩
        clear hFe hBl
        go_wp2_with fail
        go_ret2
        exact HP.out
end Go.Proofs.YtfmfmeiaekknbaaGreatDoor
end

section
/-
  Flags, plainly: counting bits, words made of bits, the steps of the library's OnesCount64, the lowest bit of a word.
-/
namespace Go.Proofs.YtfmfmeiaekknbaaGreatDoor
set_option linter.unusedVariables false

/-- How many of the first k hold. -/
def cnt (b : Nat → Bool) : Nat → Nat
  | 0 => 0
  | k + 1 => cnt b k + (if b k then 1 else 0)
theorem cnt_zero (b : Nat → Bool) : cnt b 0 = 0 := rfl
theorem cnt_succ (b : Nat → Bool) (k : Nat) : cnt b (k + 1) = cnt b k + (if b k then 1 else 0) := rfl
theorem cnt_le (b : Nat → Bool) : ∀ k, cnt b k ≤ k := by
  intro k
  induction k with
  | zero => exact Nat.le_refl _
  | succ k ih => rw [cnt_succ]; split <;> omega
theorem cnt_congr {x y : Nat → Bool} : ∀ {k : Nat}, (∀ j, j < k → x j = y j) → cnt x k = cnt y k := by
  intro k
  induction k with
  | zero => intro _; rfl
  | succ k ih => intro h; rw [cnt_succ, cnt_succ, ih (fun j hj => h j (by omega)), h k (by omega)]
theorem cnt_add (b : Nat → Bool) (m : Nat) : ∀ k, cnt b (m + k) = cnt b m + cnt (fun j => b (m + j)) k := by
  intro k
  induction k with
  | zero => rfl
  | succ k ih => rw [← Nat.add_assoc, cnt_succ, ih, cnt_succ]; omega
theorem cnt_none {b : Nat → Bool} {k : Nat} (h : ∀ j, j < k → b j = false) : cnt b k = 0 := by
  induction k with
  | zero => rfl
  | succ k ih => rw [cnt_succ, ih (fun j hj => h j (by omega)), h k (by omega)]; rfl
theorem cnt_hit {b : Nat → Bool} {k : Nat} (h : b k = true) : cnt b (k + 1) = cnt b k + 1 := by rw [cnt_succ, h]; rfl
theorem cnt_miss {b : Nat → Bool} {k : Nat} (h : b k = false) : cnt b (k + 1) = cnt b k := by rw [cnt_succ, h]; rfl
/-- The first hit from i on. -/
theorem first_hit (b : Nat → Bool) (i : Nat) : ∀ n, (∀ j, i ≤ j → j < n → b j = false) ∨ ∃ t, i ≤ t ∧ t < n ∧ b t = true ∧ ∀ j, i ≤ j → j < t → b j = false := by
  intro n
  induction n with
  | zero => exact .inl fun j _ h => absurd h (Nat.not_lt_zero _)
  | succ n ih =>
    rcases ih with h | ⟨t, h1, h2, h3⟩
    · by_cases c : i ≤ n
      · cases e : b n with
        | false =>
          refine .inl fun j h1 h2 => ?_
          by_cases d : j = n
          · rw [d]; exact e
          · exact h j h1 (by omega)
        | true => exact .inr ⟨n, c, Nat.lt_succ_self n, e, h⟩
      · exact .inl fun j h1 h2 => by omega
    · exact .inr ⟨t, h1, by omega, h3⟩

/-- The number with given bits. -/
def ofB (f : Nat → Bool) : Nat → Nat
  | 0 => 0
  | k + 1 => ofB f k + (if f k then 2 ^ k else 0)
theorem ofB_lt (f : Nat → Bool) : ∀ k, ofB f k < 2 ^ k := by
  intro k
  induction k with
  | zero => exact Nat.one_pos
  | succ k ih => unfold ofB; rw [Nat.pow_succ]; split <;> omega
theorem testBit_ofB (f : Nat → Bool) : ∀ k j, (ofB f k).testBit j = (decide (j < k) && f j) := by
  intro k
  induction k with
  | zero => intro j; show Nat.testBit 0 j = _; rw [Nat.zero_testBit]; simp
  | succ k ih =>
    intro j
    have hl := ofB_lt f k
    unfold ofB
    cases e : f k with
    | false =>
      simp only [Bool.false_eq_true, if_false, Nat.add_zero, ih]
      by_cases c : j = k
      · subst c; simp [e]
      · by_cases d : j < k
        · simp [d, show j < k + 1 by omega]
        · simp [d, show ¬ j < k + 1 by omega]
    | true =>
      simp only [if_true]
      rw [Nat.add_comm]
      by_cases c : j = k
      · subst c
        rw [Nat.testBit_two_pow_add_eq, ih]; simp [e]
      · by_cases d : j < k
        · rw [Nat.testBit_two_pow_add_gt d, ih]; simp [d, show j < k + 1 by omega]
        · rw [Nat.testBit_lt_two_pow (Nat.lt_of_lt_of_le (show 2 ^ k + ofB f k < 2 ^ (k + 1) by rw [Nat.pow_succ]; omega) (Nat.pow_le_pow_right (by omega) (show k + 1 ≤ j by omega)))]
          simp [show ¬ j < k + 1 by omega]
theorem ofB_congr {f g : Nat → Bool} : ∀ {k : Nat}, (∀ j, j < k → f j = g j) → ofB f k = ofB g k := by
  intro k
  induction k with
  | zero => intro _; rfl
  | succ k ih => intro h; unfold ofB; rw [ih (fun j hj => h j (by omega)), h k (by omega)]
/-- A word without its lowest bit. -/
theorem clr_testBit : ∀ (j x : Nat), (clr x).testBit j = (x.testBit j && decide (0 < cnt x.testBit j)) := by
  intro j
  induction j with
  | zero =>
    intro x
    rcases parity x with ⟨q, rfl⟩ | ⟨q, rfl⟩
    · rw [clr_odd]; simp [cnt, Nat.testBit_zero]
    · rcases Nat.eq_zero_or_pos q with rfl | hq
      · simp [clr]
      · rw [clr_even q hq]; simp [cnt, Nat.testBit_zero]
  | succ j ih =>
    intro x
    have hc : cnt x.testBit (j + 1) = cnt x.testBit 1 + cnt (x / 2).testBit j := by
      rw [Nat.add_comm j 1, cnt_add]
      congr 1
      exact cnt_congr fun i _ => by rw [Nat.add_comm 1 i, Nat.testBit_succ]
    rw [Nat.testBit_succ, Nat.testBit_succ, hc]
    rcases parity x with ⟨q, rfl⟩ | ⟨q, rfl⟩
    · rw [clr_odd, show 2 * q / 2 = q from by omega, show (2 * q + 1) / 2 = q from by omega]
      have : cnt (2 * q + 1).testBit 1 = 1 := by rw [cnt_hit (by simp [Nat.testBit_zero])]; rfl
      rw [this, decide_eq_true (by omega), Bool.and_true]
    · rcases Nat.eq_zero_or_pos q with rfl | hq
      · simp [clr]
      · rw [clr_even q hq, show 2 * clr q / 2 = clr q from by omega, show 2 * q / 2 = q from by omega, ih]
        have : cnt (2 * q).testBit 1 = 0 := by rw [cnt_miss (by simp [Nat.testBit_zero])]; rfl
        rw [this, Nat.zero_add]
/-- v is x without its m lowest bits. -/
def Less (x v m : Nat) : Prop := ∀ j, v.testBit j = (x.testBit j && decide (m ≤ cnt x.testBit j))
theorem Less.cnt {x v m : Nat} (h : Less x v m) : ∀ j, Go.Proofs.YtfmfmeiaekknbaaGreatDoor.cnt v.testBit j = Go.Proofs.YtfmfmeiaekknbaaGreatDoor.cnt x.testBit j - m := by
  intro j
  induction j with
  | zero => rw [cnt_zero, cnt_zero]; omega
  | succ j ih =>
    rw [cnt_succ, cnt_succ, ih, h j]
    cases e : x.testBit j with
    | false => simp
    | true =>
      by_cases c : m ≤ Go.Proofs.YtfmfmeiaekknbaaGreatDoor.cnt x.testBit j
      · simp [c]; omega
      · simp [c]; omega
theorem Less.start (x : Nat) : Less x x 0 := fun j => by simp
theorem Less.step {x v m : Nat} (h : Less x v m) : Less x (clr v) (m + 1) := fun j => by
  rw [clr_testBit, h.cnt j, h j, Bool.and_assoc, ← Bool.decide_and]
  congr 1
  exact decide_eq_decide.2 ⟨fun ⟨a, b⟩ => by omega, fun a => ⟨by omega, by omega⟩⟩
/-- The lowest bit of a word. -/
theorem low_bit {v t : Nat} (h : v.testBit t = true) (h0 : ∀ j, j < t → v.testBit j = false) : v - clr v = 2 ^ t := by
  have h1 : v % 2 ^ t = 0 := by
    apply Nat.eq_of_testBit_eq
    intro j
    rw [Nat.testBit_mod_two_pow, Nat.zero_testBit]
    by_cases c : j < t
    · simp [c, h0 j c]
    · simp [c]
  have h2 : v / 2 ^ t % 2 = 1 := by
    have h3 := Nat.testBit_div_two_pow (n := t) v 0
    rw [Nat.zero_add, h, Nat.testBit_zero] at h3
    exact of_decide_eq_true h3
  have h3 := Nat.div_add_mod v (2 ^ t)
  rw [h1, Nat.add_zero] at h3
  obtain ⟨a, ha⟩ : ∃ a, v / 2 ^ t = 2 * a + 1 := ⟨v / 2 ^ t / 2, by omega⟩
  rw [ha] at h3
  have e : v = a * 2 ^ (t + 1) + 2 ^ t := by
    rw [← h3, Nat.pow_succ, Nat.mul_add, Nat.mul_one, Nat.mul_comm 2 a, ← Nat.mul_assoc, Nat.mul_comm (2 ^ t) a, Nat.mul_assoc]
  rw [e, clr_step]
  omega

def q1 (b : Nat) : Nat := ((b / 2) &&& 0x55) + (b &&& 0x55)
def q2 (b : Nat) : Nat := ((b / 4) &&& 0x33) + (b &&& 0x33)
/-- Eight bytes. -/
def B8 (a b c d e f g h : Nat) : Nat := a + 256 * (b + 256 * (c + 256 * (d + 256 * (e + 256 * (f + 256 * (g + 256 * h))))))
def M0 : Nat := 0x5555555555555555
def M1 : Nat := 0x3333333333333333
def M2 : Nat := 0x0f0f0f0f0f0f0f0f
def S1 (x : Nat) : Nat := ((x / 2) &&& M0) + (x &&& M0)
def S2 (x : Nat) : Nat := ((x / 4) &&& M1) + (x &&& M1)
def S3 (x : Nat) : Nat := (x / 16 + x) &&& M2
end Go.Proofs.YtfmfmeiaekknbaaGreatDoor
end

section
/-
  Lists of bits, plainly: the bit at a place, words of sixty-four bits, how one bit that turns shows in its word and in the count.
-/
namespace Go.Proofs.YtfmfmeiaekknbaaGreatDoor
set_option linter.unusedVariables false

/-- The bit at a place; false behind the end. -/
def bt (l : List Bool) (i : Nat) : Bool := l.getD i false
theorem bt_lt {l : List Bool} {i : Nat} (h : i < l.length) : bt l i = l[i] := by
  unfold bt; rw [List.getD_eq_getElem?_getD, List.getElem?_eq_getElem h]; rfl
theorem bt_ge {l : List Bool} {i : Nat} (h : l.length ≤ i) : bt l i = false := by
  unfold bt; rw [List.getD_eq_getElem?_getD, List.getElem?_eq_none h]; rfl
theorem bt_ext {l m : List Bool} (hl : l.length = m.length) (h : ∀ i, i < l.length → bt l i = bt m i) : l = m := by
  apply List.ext_getElem hl
  intro i h1 h2
  have := h i h1
  rwa [bt_lt h1, bt_lt h2] at this
theorem bt_set {l : List Bool} {i : Nat} (hi : i < l.length) (v : Bool) (j : Nat) : bt (l.set i v) j = if j = i then v else bt l j := by
  unfold bt
  rw [List.getD_eq_getElem?_getD, List.getD_eq_getElem?_getD, List.getElem?_set]
  by_cases c : i = j
  · subst c; simp [hi]
  · rw [if_neg c, if_neg (fun e => c e.symm)]
theorem bt_take {l : List Bool} {k j : Nat} (h : j < k) : bt (l.take k) j = bt l j := by
  unfold bt; rw [List.getD_eq_getElem?_getD, List.getD_eq_getElem?_getD, List.getElem?_take_of_lt h]
theorem bt_drop (l : List Bool) (k j : Nat) : bt (l.drop k) j = bt l (k + j) := by
  unfold bt; rw [List.getD_eq_getElem?_getD, List.getD_eq_getElem?_getD, List.getElem?_drop]
theorem bt_rep (n : Nat) (v : Bool) (j : Nat) : bt (List.replicate n v) j = (decide (j < n) && v) := by
  unfold bt
  rw [List.getD_eq_getElem?_getD, List.getElem?_replicate]
  by_cases c : j < n
  · simp [c]
  · simp [c]
theorem bt_mem {l : List Bool} {i : Nat} (h : bt l i = true) : i < l.length := by
  rcases Nat.lt_or_ge i l.length with c | c
  · exact c
  · rw [bt_ge c] at h; exact absurd h (by decide)

/-- How many are true. -/
def cn (l : List Bool) : Nat := cnt (bt l) l.length
theorem cn_le (l : List Bool) : cn l ≤ l.length := cnt_le _ _
theorem cn_rep (n : Nat) : cn (List.replicate n false) = 0 := cnt_none fun j _ => by rw [bt_rep, Bool.and_false]
theorem cnt_put (b : Nat → Bool) (i : Nat) (v : Bool) : ∀ n, cnt (fun j => if j = i then v else b j) n + (if i < n then (if b i then 1 else 0) else 0) = cnt b n + (if i < n then (if v then 1 else 0) else 0) := by
  intro n
  induction n with
  | zero => simp [cnt]
  | succ n ih =>
    rw [cnt_succ, cnt_succ]
    by_cases c : n = i
    · subst c
      simp only [if_true, Nat.lt_irrefl, if_false, Nat.add_zero, Nat.lt_succ_self] at ih ⊢
      omega
    · simp only [if_neg c]
      by_cases d : i < n
      · rw [if_pos d, if_pos d] at ih
        rw [if_pos (show i < n + 1 by omega), if_pos (show i < n + 1 by omega)]
        omega
      · rw [if_neg d, if_neg d] at ih
        rw [if_neg (show ¬ i < n + 1 by omega), if_neg (show ¬ i < n + 1 by omega)]
        omega
theorem cn_set {l : List Bool} {i : Nat} (hi : i < l.length) (v : Bool) : cn (l.set i v) + (if bt l i then 1 else 0) = cn l + (if v then 1 else 0) := by
  have h := cnt_put (bt l) i v l.length
  rw [if_pos hi, if_pos hi] at h
  unfold cn
  rw [List.length_set, cnt_congr (y := fun j => if j = i then v else bt l j) (fun j _ => bt_set hi v j)]
  exact h
theorem cn_set_true {l : List Bool} {i : Nat} (hi : i < l.length) (h : bt l i = false) : cn (l.set i true) = cn l + 1 := by
  have := cn_set hi true; rw [h] at this; simpa using this
theorem cn_set_false {l : List Bool} {i : Nat} (hi : i < l.length) (h : bt l i = true) : cn (l.set i false) + 1 = cn l := by
  have := cn_set hi false; rw [h] at this; simpa using this
theorem set_same {l : List Bool} {i : Nat} (hi : i < l.length) (v : Bool) (h : bt l i = v) : l.set i v = l := by
  apply bt_ext (by simp)
  intro j hj
  rw [bt_set hi]
  by_cases c : j = i
  · rw [if_pos c, c, h]
  · rw [if_neg c]

/-- The word with a number. -/
def wd (l : List Bool) (k : Nat) : Nat := ofB (fun j => bt l (64 * k + j)) 64
theorem wd_lt (l : List Bool) (k : Nat) : wd l k < 18446744073709551616 := ofB_lt _ 64
theorem testBit_wd (l : List Bool) (k j : Nat) (hj : j < 64) : (wd l k).testBit j = bt l (64 * k + j) := by
  unfold wd; rw [testBit_ofB]; simp [hj]
theorem testBit_wd_ge (l : List Bool) (k j : Nat) (hj : 64 ≤ j) : (wd l k).testBit j = false := by
  unfold wd; rw [testBit_ofB]; simp [show ¬ j < 64 by omega]
theorem wd_at (l : List Bool) (i : Nat) : (wd l (i / 64)).testBit (i % 64) = bt l i := by
  rw [testBit_wd l _ _ (Nat.mod_lt _ (by omega)), Nat.div_add_mod]
theorem wd_set_other {l : List Bool} {i k : Nat} (hi : i < l.length) (v : Bool) (hk : k ≠ i / 64) : wd (l.set i v) k = wd l k := by
  unfold wd
  refine ofB_congr fun j hj => ?_
  rw [bt_set hi, if_neg (by omega)]
theorem wd_set_turn {l : List Bool} {i : Nat} (hi : i < l.length) (v : Bool) (h : bt l i = !v) : wd (l.set i v) (i / 64) = wd l (i / 64) ^^^ 2 ^ (i % 64) := by
  apply Nat.eq_of_testBit_eq
  intro j
  rw [Nat.testBit_xor, Nat.testBit_two_pow]
  by_cases c : j < 64
  · rw [testBit_wd _ _ _ c, testBit_wd _ _ _ c, bt_set hi]
    by_cases d : j = i % 64
    · have e : 64 * (i / 64) + j = i := by omega
      rw [e, if_pos rfl, h, decide_eq_true d.symm]; cases v <;> rfl
    · rw [if_neg (by omega), decide_eq_false (fun e => d e.symm), Bool.xor_false]
  · rw [testBit_wd_ge _ _ _ (by omega), testBit_wd_ge _ _ _ (by omega), decide_eq_false (by omega)]; rfl
theorem wd_rep (n k : Nat) : wd (List.replicate n false) k = 0 := by
  apply Nat.eq_of_testBit_eq
  intro j
  rw [Nat.zero_testBit]
  by_cases c : j < 64
  · rw [testBit_wd _ _ _ c, bt_rep, Bool.and_false]
  · exact testBit_wd_ge _ _ _ (by omega)
end Go.Proofs.YtfmfmeiaekknbaaGreatDoor
end

section
/-
  The library's OnesCount64 and TrailingZeros64; the table that the latter reads.
-/
namespace Go.Proofs.YtfmfmeiaekknbaaGreatDoor
open Go.RowKit
set_option linter.unusedVariables false

def tabL : List Nat := [0, 1, 56, 2, 57, 49, 28, 3, 61, 58, 42, 50, 38, 29, 17, 4, 62, 47, 59, 36, 45, 43, 51, 22, 53, 39, 33, 30, 24, 18, 12, 5, 63, 55, 48, 27, 60, 41, 37, 16, 46, 35, 44, 21, 52, 32, 23, 11, 54, 26, 40, 15, 34, 20, 31, 10, 25, 14, 19, 9, 13, 8, 7, 6]
/-- The table lies in memory. -/
def Tab (w : World) : Prop := ∀ i, i < 64 → w.cell? ⟨0, i, none⟩ = some (.int .u8 ((tabL.getD i 0 : Nat) : Int))
theorem Tab.below {B : Nat} {w w' : World} (h : Tab w) (hb : Below B w w') (hB : 0 < B) : Tab w' := fun i hi => (hb.cell (p := ⟨0, i, none⟩) (by show (0) < B; omega)).trans (h i hi)
theorem Tab.drawn {w w' : World} (h : Tab w) (hd : Drawn w w') : Tab w' := by obtain ⟨q, rfl⟩ := hd; exact h
theorem tab_low : ∀ t, t < 64 → tabL.getD ((2 ^ t * 285870213051353865 % 18446744073709551616) / 288230376151711744) 0 = t ∧ (2 ^ t * 285870213051353865 % 18446744073709551616) / 288230376151711744 < 64 := by decide

theorem bits_and_u64 (a b : Nat) (ha : a < 18446744073709551616) (hb : b < 18446744073709551616) : bits .and .u64 (a : Int) (b : Int) = ((a &&& b : Nat) : Int) := by
  have hx : a &&& b ≤ a := Nat.and_le_left
  have h1 : (BitVec.ofInt 64 (a : Int)).toNat = a := by
    rw [BitVec.ofInt_natCast, BitVec.toNat_ofNat]; exact Nat.mod_eq_of_lt (by omega)
  have h2 : (BitVec.ofInt 64 (b : Int)).toNat = b := by
    rw [BitVec.ofInt_natCast, BitVec.toNat_ofNat]; exact Nat.mod_eq_of_lt (by omega)
  show IntKind.u64.wrap ((BitVec.ofInt 64 (a : Int) &&& BitVec.ofInt 64 (b : Int)).toNat : Int) = _
  rw [BitVec.toNat_and, h1, h2, IntKind.wrap_u64]
  omega
theorem bits_xor_u64 (a b : Nat) (ha : a < 18446744073709551616) (hb : b < 18446744073709551616) : bits .xor .u64 (a : Int) (b : Int) = ((a ^^^ b : Nat) : Int) := by
  have hx : a ^^^ b < 2 ^ 64 := Nat.xor_lt_two_pow (n := 64) ha hb
  have h1 : (BitVec.ofInt 64 (a : Int)).toNat = a := by
    rw [BitVec.ofInt_natCast, BitVec.toNat_ofNat]; exact Nat.mod_eq_of_lt (by omega)
  have h2 : (BitVec.ofInt 64 (b : Int)).toNat = b := by
    rw [BitVec.ofInt_natCast, BitVec.toNat_ofNat]; exact Nat.mod_eq_of_lt (by omega)
  show IntKind.u64.wrap ((BitVec.ofInt 64 (a : Int) ^^^ BitVec.ofInt 64 (b : Int)).toNat : Int) = _
  rw [BitVec.toNat_xor, h1, h2, IntKind.wrap_u64]
  omega

set_option maxHeartbeats 800000 in
theorem trail_any (w : World) (hT : Tab w) (x t : Nat) (hx : x < 18446744073709551616) (ht : t < 64) (h1 : x.testBit t = true) (h0 : ∀ j, j < t → x.testBit j = false) :
    Calls Tryz.prog 27 #[.int .u64 x] w fun e w' => e = .returned (.int .i64 t) ∧ w = w' := by
  have hlow := low_bit h1 h0
  have hp := Nat.two_pow_pos t
  have hp2 : 2 ^ t < 18446744073709551616 := Nat.lt_of_lt_of_le (Nat.pow_lt_pow_right (by omega) ht) (Nat.le_refl (2 ^ 64))
  have hx0 : 0 < x := by have := clr_lt x; omega
  obtain ⟨q1, q2⟩ := tab_low t ht
  have hc := hT _ q2
  rw [q1] at hc
  have e0 : (((x : Int) == 0) = false) := by rw [beq_eq_false_iff_ne]; omega
  have e1 : bits .and .u64 (x : Int) (IntKind.u64.wrap (-(x : Int))) = ((2 ^ t : Nat) : Int) := by
    have a := bits_and_u64 x (18446744073709551616 - x) hx (by omega)
    rw [show x &&& (18446744073709551616 - x) = 2 ^ t from by rw [← hlow]; exact and_neg 64 x hx0 hx] at a
    rw [← a]
    congr 1
    rw [IntKind.wrap_u64]; omega
  generalize 2 ^ t = y at *
  have e2 : IntKind.u64.wrap ((y : Int) * 285870213051353865) = ((y * 285870213051353865 % 18446744073709551616 : Nat) : Int) := by rw [IntKind.wrap_u64]; omega
  generalize y * 285870213051353865 % 18446744073709551616 = z at *
  clear hlow hT h0 h1 q1
  go_enter Tryz.func27, Tryz.ntmps27
  go_wp2_with fail
  go_ret
  exact ⟨rfl, rfl⟩
end Go.Proofs.YtfmfmeiaekknbaaGreatDoor
end

section
/-
  Flags in memory; the plain methods.
-/
namespace Go.Proofs.YtfmfmeiaekknbaaGreatDoor
open Go.RowKit
set_option linter.unusedVariables false

/-- The cells of a list of bits. -/
def flc (l : List Bool) : Nat → Value := fun j => if j = 0 then .int .i64 l.length else if j = 1 then .int .i64 (cn l) else .int .u64 (wd l (j - 2))
/-- Flags at block p hold the bits l. -/
structure Fl (w : World) (p : Nat) (l : List Bool) : Prop where
  row : w.rowIs p 61 66 (flc l)
  len : l.length ≤ 4096
  tab : Tab w
  pos : 0 < p
theorem Fl.lt {w : World} {p : Nat} {l : List Bool} (h : Fl w p l) : p < w.heap.size := h.row.lt
theorem Fl.keep {w w' : World} {p : Nat} {l : List Bool} (h : Fl w p l) (k : w'.heap[p]? = w.heap[p]?) (ht : Tab w') : Fl w' p l := ⟨h.row.of_block k, h.len, ht, h.pos⟩
theorem Fl.below {w w' : World} {p : Nat} {l : List Bool} (h : Fl w p l) (hb : Below w.heap.size w w') : Fl w' p l :=
  h.keep (hb.block p h.lt) (h.tab.below hb (by have := h.pos; have := h.lt; omega))
theorem Fl.fr {S : Nat → Prop} {w w' : World} {p : Nat} {l : List Bool} (h : Fl w p l) (hf : Fr S w w') (hp : ¬ S p) (h0 : ∀ i : Nat, i < 64 → ¬ S (0)) : Fl w' p l :=
  h.keep (hf.block p h.lt hp) fun i hi => (World.cell?_of_block (w := w) (hf.block (0) (by have := h.pos; have := h.lt; omega) (h0 i hi))).trans (h.tab i hi)
theorem Fl.drawn {w w' : World} {p : Nat} {l : List Bool} (h : Fl w p l) (hd : Drawn w w') : Fl w' p l := by obtain ⟨q, rfl⟩ := hd; exact ⟨h.row, h.len, h.tab, h.pos⟩
/-- The cells as the walk reads them. -/
structure FC (w : World) (p : Nat) (l : List Bool) : Prop where
  c0 : w.cell? ⟨p, 0, none⟩ = some (.int .i64 l.length)
  c1 : w.cell? ⟨p, 1, none⟩ = some (.int .i64 (cn l))
  cw : ∀ k, k < 64 → w.cell? ⟨p, 2 + k, none⟩ = some (.int .u64 (wd l k))
  fz : ∀ i, w.frozen? ⟨p, i, none⟩ = false
theorem Fl.cells {w : World} {p : Nat} {l : List Bool} (h : Fl w p l) : FC w p l :=
  ⟨h.row.cell (i := 0) (by omega), h.row.cell (i := 1) (by omega), fun k hk => by
    rw [h.row.cell (i := 2 + k) (by omega)]
    unfold flc
    rw [if_neg (by omega), if_neg (by omega), Nat.add_sub_cancel_left], fun i => h.row.frozen i⟩

theorem fcount_any (w : World) (p : Nat) (l : List Bool) (h : Fl w p l) :
    Calls Tryz.prog 13 #[.pointer (some ⟨p, 0, none⟩)] w fun e w' => e = .returned (.int .i64 (cn l)) ∧ w = w' := by
  obtain ⟨c0, c1, cw, fz⟩ := h.cells
  clear cw fz h
  go_enter Tryz.func13, Tryz.ntmps13
  go_wp2_with fail
  go_ret
  exact ⟨rfl, rfl⟩
/-- The error of check. -/
def flErr (n : Nat) (i k : Int) : Int := if i < 0 ∨ k < 0 ∨ (n : Int) < i ∨ (n : Int) - i < k then 4 else 0
set_option maxHeartbeats 800000 in
theorem flcheck_any (w : World) (p : Nat) (l : List Bool) (h : Fl w p l) (i k : Int) (hi : Fits i) (hk : Fits k) :
    Calls Tryz.prog 21 #[.pointer (some ⟨p, 0, none⟩), .int .i64 i, .int .i64 k] w fun e w' => e = .returned (.int .i64 (flErr l.length i k)) ∧ w = w' := by
  obtain ⟨c0, c1, cw, fz⟩ := h.cells
  have hn := h.len
  obtain ⟨i1, i2⟩ := hi
  obtain ⟨k1, k2⟩ := hk
  generalize l.length = n at c0 hn ⊢
  clear c1 cw fz h
  by_cases d1 : i < 0
  · rw [show flErr n i k = 4 from if_pos (by omega)]
    go_enter Tryz.func21, Tryz.ntmps21
    go_wp2_with fail
    go_ret
    exact ⟨rfl, rfl⟩
  by_cases d2 : k < 0
  · rw [show flErr n i k = 4 from if_pos (by omega)]
    go_enter Tryz.func21, Tryz.ntmps21
    go_wp2_with fail
    go_ret
    exact ⟨rfl, rfl⟩
  by_cases d3 : (n : Int) < i
  · rw [show flErr n i k = 4 from if_pos (by omega)]
    go_enter Tryz.func21, Tryz.ntmps21
    go_wp2_with fail
    go_ret
    exact ⟨rfl, rfl⟩
  by_cases d4 : (n : Int) - i < k
  · rw [show flErr n i k = 4 from if_pos (by omega)]
    go_enter Tryz.func21, Tryz.ntmps21
    go_wp2_with fail
    go_ret
    exact ⟨rfl, rfl⟩
  rw [show flErr n i k = 0 from if_neg (by omega)]
  go_enter Tryz.func21, Tryz.ntmps21
  go_wp2_with fail
  go_ret
  exact ⟨rfl, rfl⟩

theorem bit_and (x j : Nat) (hx : x < 18446744073709551616) : (bits .and .u64 ((x : Int) / 2 ^ j) 1 == 1) = x.testBit j := by
  have hd : x / 2 ^ j ≤ x := Nat.div_le_self _ _
  have a := bits_and_u64 (x / 2 ^ j) 1 (by omega) (by decide)
  rw [Nat.and_one_is_mod] at a
  have e : ((x / 2 ^ j : Nat) : Int) = (x : Int) / 2 ^ j := by rw [Int.natCast_ediv, Int.natCast_pow]; rfl
  rw [e] at a
  rw [show ((1 : Nat) : Int) = 1 from rfl] at a
  rw [a, Nat.testBit_eq_decide_div_mod_eq]
  have : x / 2 ^ j % 2 = 0 ∨ x / 2 ^ j % 2 = 1 := by omega
  rcases this with h | h <;> (rw [h]; rfl)
set_option maxHeartbeats 800000 in
theorem fget_any (w : World) (p : Nat) (l : List Bool) (h : Fl w p l) (i : Nat) (hi : i < l.length) :
    Calls Tryz.prog 23 #[.pointer (some ⟨p, 0, none⟩), .int .i64 i] w fun e w' => e = .returned (.bool (bt l i)) ∧ w = w' := by
  obtain ⟨c0, c1, cw, fz⟩ := h.cells
  have hn := h.len
  have hc := cw (i / 64) (by omega)
  have HE := Lib.hid ((bit_and _ (i % 64) (wd_lt l (i / 64))).trans (wd_at l i))
  clear c0 c1 cw fz h
  go_enter Tryz.func23, Tryz.ntmps23
  go_wp2_with fail
  go_ret
  exact ⟨ret_bool HE.out, rfl⟩

theorem bits_pow (j : Nat) (hj : j < 64) : (2 : Nat) ^ j < 18446744073709551616 := Nat.lt_of_lt_of_le (Nat.pow_lt_pow_right (by omega) hj) (Nat.le_refl (2 ^ 64))
theorem pow_wrap (j : Nat) (hj : j < 64) : IntKind.u64.wrap ((2 : Int) ^ j) = ((2 ^ j : Nat) : Int) := by
  have hp := bits_pow j hj
  have e : ((2 ^ j : Nat) : Int) = (2 : Int) ^ j := by rw [Int.natCast_pow]; rfl
  rw [← e]
  generalize 2 ^ j = y at hp
  rw [IntKind.wrap_u64]
  omega
/-- Flags with one bit that has turned. -/
theorem Fl.turned {w : World} {p : Nat} {l : List Bool} (h : Fl w p l) {i : Nat} (hi : i < l.length) (v : Bool) (hv : bt l i = !v) :
    Fl ((w.setCell ⟨p, 2 + i / 64, none⟩ (.int .u64 ((wd l (i / 64) ^^^ 2 ^ (i % 64) : Nat) : Int))).setCell ⟨p, 1, none⟩ (.int .i64 (cn (l.set i v)))) p (l.set i v) := by
  have hl := h.len
  refine ⟨World.rowIs.congr ((World.rowIs.set h.row _ _).set _ _) fun j hj => ?_, by rw [List.length_set]; exact h.len, fun k hk => ?_, h.pos⟩
  · unfold flc
    by_cases j1 : j = 1
    · subst j1; simp
    · rw [if_neg j1]
      by_cases j2 : j = 2 + i / 64
      · subst j2
        rw [if_pos rfl, if_neg (by omega), if_neg (by omega), Nat.add_sub_cancel_left, wd_set_turn hi v hv]
      · rw [if_neg j2, if_neg j1]
        by_cases j0 : j = 0
        · rw [if_pos j0, if_pos j0, List.length_set]
        · rw [if_neg j0, if_neg j0, if_neg j1, wd_set_other hi v (by omega)]
  · have := h.pos
    rw [World.cell?_setCell_other, World.cell?_setCell_other]
    · exact h.tab k hk
    · intro e; injection e with e; omega
    · intro e; injection e with e; omega
theorem Fr.put {w : World} {p : Nat} (a b : Nat) (u v : Value) : Fr (fun q => q = p) w ((w.setCell ⟨p, a, none⟩ u).setCell ⟨p, b, none⟩ v) :=
  Fr.setCell (S := fun q => q = p) (Fr.setCell (S := fun q => q = p) (Fr.refl _ w) (p := ⟨p, a, none⟩) rfl u) (p := ⟨p, b, none⟩) rfl v

set_option maxHeartbeats 1600000 in
theorem fput_any (w : World) (p : Nat) (l : List Bool) (h : Fl w p l) (i : Nat) (hi : i < l.length) (v : Bool) :
    Calls Tryz.prog 22 #[.pointer (some ⟨p, 0, none⟩), .int .i64 i, .bool v] w fun e w' => e = .returned (.tuple #[]) ∧ Fl w' p (l.set i v) ∧ Fr (fun b => b = p) w w' := by
  have KG := Lib.hid (fget_any w p l h i hi)
  by_cases hv : bt l i = v
  · have HF := Lib.hid h
    have HS := Lib.hid (set_same hi v hv)
    have be : (v != v) = false := by cases v <;> rfl
    rw [hv] at KG
    clear h hv
    go_enter Tryz.func22, Tryz.ntmps22
    go_wp2_with fail
    refine (KG.out).mono ?_
    rintro e w' ⟨rfl, rfl⟩
    go_wp2_with fail
    go_end0
    exact ⟨rfl, by rw [HS.out]; exact HF.out, Fr.refl _ _⟩
  · have hv' : bt l i = !v := by cases v <;> cases q : bt l i <;> simp_all
    have HT := Lib.hid (Fl.turned h hi v hv')
    have hn := h.len
    have hcl := cn_le l
    obtain ⟨c0, c1, cw, fz⟩ := h.cells
    have hc := cw (i / 64) (by omega)
    have z1 := fz (2 + i / 64)
    have z2 := fz 1
    have hp := bits_pow (i % 64) (Nat.mod_lt _ (by omega))
    have ex := bits_xor_u64 (wd l (i / 64)) (2 ^ (i % 64)) (wd_lt _ _) hp
    rw [show ((2 ^ (i % 64) : Nat) : Int) = (2 : Int) ^ (i % 64) from by rw [Int.natCast_pow]; rfl] at ex
    have ew := pow_wrap (i % 64) (Nat.mod_lt _ (by omega))
    have HR := Lib.hid (fun a b u v => Fr.put (w := w) (p := p) a b u v)
    have HN := Lib.hid (show (v = true → cn (l.set i v) = cn l + 1) ∧ (v = false → cn (l.set i v) + 1 = cn l) from ⟨fun e => by subst e; exact cn_set_true hi hv', fun e => by subst e; exact cn_set_false hi hv'⟩)
    rw [hv'] at KG
    have hci : ∀ x, (w.setCell ⟨p, 2 + i / 64, none⟩ x).cell? ⟨p, 1, none⟩ = some (.int .i64 (cn l)) := fun x => by rw [World.cell?_setCell_other _ _ _ _ (fun e => by injection e with e1 e2; omega)]; exact c1
    clear c0 cw fz h hv hv'
    cases v with
    | true =>
      have e : ((cn (l.set i true) : Nat) : Int) = (cn l : Int) + 1 := by have := HN.out.1 rfl; omega
      rw [e] at HT
      clear HN e
      go_enter Tryz.func22, Tryz.ntmps22
      go_wp2_with fail
      refine (KG.out).mono ?_
      rintro e w' ⟨rfl, rfl⟩
      go_wp2_with fail
      go_region
      go_wp2_with fail
      go_end0
      exact ⟨rfl, Fl.drawn (w := (w.setCell _ _).setCell _ _) HT.out ⟨1, rfl⟩, Fr.drawn (w := (w.setCell _ _).setCell _ _) (HR.out _ _ _ _) ⟨1, rfl⟩⟩
    | false =>
      have e : ((cn (l.set i false) : Nat) : Int) = (cn l : Int) - 1 := by have := HN.out.2 rfl; omega
      rw [e] at HT
      clear HN e
      go_enter Tryz.func22, Tryz.ntmps22
      go_wp2_with fail
      refine (KG.out).mono ?_
      rintro e w' ⟨rfl, rfl⟩
      go_wp2_with fail
      go_region
      go_wp2_with fail
      go_end0
      exact ⟨rfl, Fl.drawn (w := (w.setCell _ _).setCell _ _) HT.out ⟨1, rfl⟩, Fr.drawn (w := (w.setCell _ _).setCell _ _) (HR.out _ _ _ _) ⟨1, rfl⟩⟩
end Go.Proofs.YtfmfmeiaekknbaaGreatDoor
end

section
/-
  Flags: Get, Set, Rank, Select, Next.
-/
namespace Go.Proofs.YtfmfmeiaekknbaaGreatDoor
open Go.RowKit
set_option linter.unusedVariables false
set_option linter.unusedSimpArgs false

theorem flErr_0 {n : Nat} {i k : Int} (h : 0 ≤ i ∧ 0 ≤ k ∧ i + k ≤ n) : flErr n i k = 0 := by unfold flErr; rw [if_neg (by omega)]
set_option maxHeartbeats 800000 in
theorem fSet_ok (w : World) (p : Nat) (l : List Bool) (h : Fl w p l) (i : Nat) (hi : i < l.length) (v : Bool) :
    Calls Tryz.prog 9 #[.pointer (some ⟨p, 0, none⟩), .int .i64 i, .bool v] w fun e w' => e = .returned (.int .i64 0) ∧ Fl w' p (l.set i v) ∧ Fr (fun b => b = p) w w' := by
  have hn := h.len
  have KC := Lib.hid (flcheck_any w p l h i 1 ⟨by omega, by omega⟩ ⟨by omega, by omega⟩)
  rw [flErr_0 (by omega)] at KC
  have KG := Lib.hid (fput_any w p l h i hi v)
  clear h hi hn
  go_enter Tryz.func9, Tryz.ntmps9
  go_wp2_with fail
  refine (KC.out).mono ?_
  rintro e w' ⟨rfl, rfl⟩
  go_wp2_with fail
  refine (KG.out).mono ?_
  rintro e w2 ⟨rfl, h1, h2⟩
  have H1 := Lib.hid h1
  have H2 := Lib.hid h2
  clear h1 h2
  go_wp2_with fail
  go_ret
  exact ⟨rfl, H1.out, H2.out⟩
theorem infoE : (Tryz.prog.info? 58).map (·.size) = some 1 := by kernel_rfl
end Go.Proofs.YtfmfmeiaekknbaaGreatDoor
end

section
/-
  Flags: Select's refusals, Next.
-/
namespace Go.Proofs.YtfmfmeiaekknbaaGreatDoor
open Go.RowKit
set_option linter.unusedVariables false
set_option linter.unusedSimpArgs false

/-- The word from a place on: nothing there, or the first place. -/
theorem next_word (l : List Bool) (v : Bool) (a X : Nat) (hX : ∀ j, j < 64 → X.testBit j = ((wd l (a / 64)).testBit j == v)) (hX2 : X < 18446744073709551616) :
    (X / 2 ^ (a % 64) = 0 ∧ ∀ j, a ≤ j → j < a + (64 - a % 64) → bt l j = !v) ∨
    (∃ t, t < 64 ∧ 0 < X / 2 ^ (a % 64) ∧ (X / 2 ^ (a % 64)).testBit t = true ∧ (∀ q, q < t → (X / 2 ^ (a % 64)).testBit q = false) ∧ bt l (a + t) = v ∧ ∀ j, a ≤ j → j < a + t → bt l j = !v) := by
  have hm : a % 64 < 64 := Nat.mod_lt _ (by omega)
  have hb : ∀ j, j < 64 - a % 64 → (X / 2 ^ (a % 64)).testBit j = (bt l (a + j) == v) := fun j hj => by
    rw [Nat.testBit_div_two_pow, hX _ (by omega), testBit_wd _ _ _ (by omega), show 64 * (a / 64) + (j + a % 64) = a + j from by omega]
  have hb2 : ∀ j, 64 - a % 64 ≤ j → (X / 2 ^ (a % 64)).testBit j = false := fun j hj => by
    rw [Nat.testBit_div_two_pow]
    exact Nat.testBit_lt_two_pow (Nat.lt_of_lt_of_le hX2 (show 2 ^ 64 ≤ 2 ^ (j + a % 64) from Nat.pow_le_pow_right (by omega) (by omega)))
  have hne : ∀ j, j < 64 - a % 64 → (X / 2 ^ (a % 64)).testBit j = false → bt l (a + j) = !v := fun j hj e => by
    rw [hb j hj] at e
    cases v <;> cases q : bt l (a + j) <;> simp_all
  rcases first_hit (X / 2 ^ (a % 64)).testBit 0 64 with h | ⟨t, _, h1, h2, h3⟩
  · left
    refine ⟨?_, fun j h1 h2 => ?_⟩
    · apply Nat.eq_of_testBit_eq
      intro j
      rw [Nat.zero_testBit]
      by_cases c : j < 64
      · exact h j (Nat.zero_le _) c
      · exact hb2 j (by omega)
    · have := hne (j - a) (by omega) (h _ (Nat.zero_le _) (by omega))
      rwa [show a + (j - a) = j from by omega] at this
  · right
    have ht : t < 64 - a % 64 := by
      rcases Nat.lt_or_ge t (64 - a % 64) with c | c
      · exact c
      · rw [hb2 t c] at h2; exact absurd h2 (by decide)
    refine ⟨t, h1, ?_, h2, fun q hq => h3 q (Nat.zero_le _) hq, ?_, fun j h4 h5 => ?_⟩
    · rcases Nat.eq_zero_or_pos (X / 2 ^ (a % 64)) with e | e
      · rw [e, Nat.zero_testBit] at h2; exact absurd h2 (by decide)
      · exact e
    · rw [hb t ht] at h2; exact eq_of_beq h2
    · have := hne (j - a) (by omega) (h3 _ (Nat.zero_le _) (by omega))
      rwa [show a + (j - a) = j from by omega] at this
/-- The word, or its complement. -/
def wdv (l : List Bool) (v : Bool) (k : Nat) : Nat := if v then wd l k else 18446744073709551615 - wd l k
theorem wdv_lt (l : List Bool) (v : Bool) (k : Nat) : wdv l v k < 18446744073709551616 := by
  have := wd_lt l k
  unfold wdv; split <;> omega
theorem wdv_bit (l : List Bool) (v : Bool) (k j : Nat) (hj : j < 64) : (wdv l v k).testBit j = ((wd l k).testBit j == v) := by
  unfold wdv
  cases v with
  | true => rw [if_pos rfl]; cases (wd l k).testBit j <;> rfl
  | false =>
    rw [if_neg (by decide), show 18446744073709551615 - wd l k = 2 ^ 64 - (wd l k + 1) from by have := wd_lt l k; omega, Nat.testBit_two_pow_sub_succ (wd_lt l k), decide_eq_true hj]
    cases (wd l k).testBit j <;> rfl
theorem comp_u64 (x : Nat) (hx : x < 18446744073709551616) : bits .xor .u64 IntKind.u64.max (x : Int) = ((18446744073709551615 - x : Nat) : Int) := by
  have a := bits_xor_u64 18446744073709551615 x (by decide) hx
  rw [show IntKind.u64.max = ((18446744073709551615 : Nat) : Int) from rfl, a]
  congr 1
  apply Nat.eq_of_testBit_eq
  intro j
  rw [Nat.testBit_xor, show 18446744073709551615 - x = 2 ^ 64 - (x + 1) from by omega, Nat.testBit_two_pow_sub_succ hx, show (18446744073709551615 : Nat) = 2 ^ 64 - 1 from rfl, Nat.testBit_two_pow_sub_one]
  by_cases c : j < 64
  · simp [c]
  · rw [Nat.testBit_lt_two_pow (Nat.lt_of_lt_of_le hx (show 2 ^ 64 ≤ 2 ^ j from Nat.pow_le_pow_right (by omega) (by omega)))]; simp [c]
theorem div_cast (X k : Nat) : (X : Int) / 2 ^ k = ((X / 2 ^ k : Nat) : Int) := by rw [Int.natCast_ediv, Int.natCast_pow]; rfl
set_option maxRecDepth 100000 in
set_option maxHeartbeats 3200000 in
theorem fNext_any (w : World) (p : Nat) (l : List Bool) (h : Fl w p l) (i : Nat) (hi : i ≤ l.length) (v : Bool) :
    Calls Tryz.prog 16 #[.pointer (some ⟨p, 0, none⟩), .int .i64 i, .bool v] w fun e w' => ((∃ t : Nat, e = .returned (.tuple #[.int .i64 t, .int .i64 0]) ∧ i ≤ t ∧ t < l.length ∧ bt l t = v ∧ ∀ j, i ≤ j → j < t → bt l j = !v) ∨ (e = .returned (.tuple #[.int .i64 0, .int .i64 11]) ∧ ∀ j, i ≤ j → j < l.length → bt l j = !v)) ∧ w = w' := by
  have hn := h.len
  have KC := Lib.hid (flcheck_any w p l h i 0 ⟨by omega, by omega⟩ ⟨by omega, by omega⟩)
  rw [flErr_0 (by omega)] at KC
  have HT := Lib.hid h.tab
  obtain ⟨c0, c1, cw, fz⟩ := h.cells
  have CW := Lib.hid cw
  obtain ⟨n, en⟩ : ∃ n, n = l.length := ⟨_, rfl⟩
  rw [← en] at hn hi c0 ⊢
  clear c1 cw fz h en
  go_enter Tryz.func16, Tryz.ntmps16
  go_wp2_with fail
  refine (KC.out).mono ?_
  rintro e w' ⟨rfl, rfl⟩
  go_wp2_with fail
  go_loopw [1] (fun i' wr => ∃ a : Nat, i ≤ a ∧ a ≤ 4200 ∧ i' = .int .i64 a ∧ Hid (∀ j, i ≤ j → j < a → j < n → bt l j = !v) ∧ Hid (w = wr)) (fun i' _ => n - (intOf i').toNat)
  case atStart => exact ⟨i, Nat.le_refl _, by omega, rfl, fun j h1 h2 _ => by omega, rfl⟩
  case round =>
    obtain ⟨a, ha, ha2, rfl, hf, hw⟩ := hrel
    have hwe := hw.out
    subst hwe
    clear hw
    by_cases hlt : a < n
    · have hc := CW.out (a / 64) (by omega)
      have hai : (a : Int) < (n : Int) := by omega
      have hm : a % 64 < 64 := Nat.mod_lt _ (by omega)
      have hxl := wd_lt l (a / 64)
      cases v with
      | true =>
        have hE : ((wdv l true (a / 64) : Nat) : Int) = (wd l (a / 64) : Int) := rfl
        have NW := Lib.hid (next_word l true a (wdv l true (a / 64)) (fun j hj => wdv_bit l true _ j hj) (wdv_lt _ _ _))
        have hX := wdv_lt l true (a / 64)
        have hD := div_cast (wdv l true (a / 64)) (a % 64)
        have hle : wdv l true (a / 64) / 2 ^ (a % 64) ≤ wdv l true (a / 64) := Nat.div_le_self _ _
        rw [hE] at hD
        obtain ⟨Y, eY⟩ : ∃ Y, Y = wdv l true (a / 64) / 2 ^ (a % 64) := ⟨_, rfl⟩
        rw [← eY] at NW hD hle
        have hY : Y < 18446744073709551616 := by omega
        clear eY hX hle
        rcases NW.out with ⟨h0, hno⟩ | ⟨t, ht, h0, h1, h2, h3, h4⟩
        · subst h0
          have HN := Lib.hid hno
          clear hno NW
          go_wp2_with fail
          go_roundw
          case rel => exact ⟨a + (64 - a % 64), by omega, by omega, by go_num, fun j h1 h2 h3 => by
            by_cases c : j < a
            · exact hf.out j h1 c h3
            · exact HN.out j (by omega) h2, by first | rfl | exact trivial⟩
          case measure => simp [intOf]; omega
        · have hb : (((Y : Nat) : Int) != 0) = true := by rw [bne_iff_ne]; omega
          have KT := Lib.hid (trail_any w HT.out Y t hY ht h1 h2)
          have H3 := Lib.hid h3
          have H4 := Lib.hid h4
          clear h1 h2 h3 h4 NW
          by_cases hin : a + t < n
          · have hin2 : (a : Int) + (t : Int) < (n : Int) := by omega
            go_wp2_with fail
            refine (KT.out).mono ?_
            rintro e w' ⟨rfl, rfl⟩
            go_wp2_with fail
            go_ret2
            refine ⟨.inl ⟨a + t, ret_int2 (by omega) rfl, by omega, hin, H3.out, fun j h1 h2 => ?_⟩, rfl⟩
            by_cases c : j < a
            · exact hf.out j h1 c (by omega)
            · exact H4.out j (by omega) h2
          · have hin2 : ¬ (a : Int) + (t : Int) < (n : Int) := by omega
            go_wp2_with fail
            refine (KT.out).mono ?_
            rintro e w' ⟨rfl, rfl⟩
            go_wp2_with fail
            go_ret2
            refine ⟨.inr ⟨rfl, fun j h1 h2 => ?_⟩, rfl⟩
            by_cases c : j < a
            · exact hf.out j h1 c h2
            · exact H4.out j (by omega) (by omega)
      | false =>
        have hC := comp_u64 (wd l (a / 64)) hxl
        have hE : bits .xor .u64 IntKind.u64.max (wd l (a / 64) : Int) = ((wdv l false (a / 64) : Nat) : Int) := by rw [hC]; rfl
        have hE2 : bits .xor .u64 (if IntKind.u64.signed = true then -1 else IntKind.u64.max) (wd l (a / 64) : Int) = ((wdv l false (a / 64) : Nat) : Int) := hE
        clear hC
        have NW := Lib.hid (next_word l false a (wdv l false (a / 64)) (fun j hj => wdv_bit l false _ j hj) (wdv_lt _ _ _))
        have hX := wdv_lt l false (a / 64)
        have hD := div_cast (wdv l false (a / 64)) (a % 64)
        have hle : wdv l false (a / 64) / 2 ^ (a % 64) ≤ wdv l false (a / 64) := Nat.div_le_self _ _
        generalize wdv l false (a / 64) = XX at hE hE2 hD NW hX hle
        obtain ⟨Y, eY⟩ : ∃ Y, Y = XX / 2 ^ (a % 64) := ⟨_, rfl⟩
        rw [← eY] at NW hD hle
        have hY : Y < 18446744073709551616 := by omega
        clear eY hX hle
        rcases NW.out with ⟨h0, hno⟩ | ⟨t, ht, h0, h1, h2, h3, h4⟩
        · subst h0
          have HN := Lib.hid hno
          clear hno NW
          go_wp2_with fail
          go_roundw
          case rel => exact ⟨a + (64 - a % 64), by omega, by omega, by go_num, fun j h1 h2 h3 => by
            by_cases c : j < a
            · exact hf.out j h1 c h3
            · exact HN.out j (by omega) h2, by first | rfl | exact trivial⟩
          case measure => simp [intOf]; omega
        · have hb : (((Y : Nat) : Int) != 0) = true := by rw [bne_iff_ne]; omega
          have KT := Lib.hid (trail_any w HT.out Y t hY ht h1 h2)
          have H3 := Lib.hid h3
          have H4 := Lib.hid h4
          clear h1 h2 h3 h4 NW
          by_cases hin : a + t < n
          · have hin2 : (a : Int) + (t : Int) < (n : Int) := by omega
            go_wp2_with fail
            refine (KT.out).mono ?_
            rintro e w' ⟨rfl, rfl⟩
            go_wp2_with fail
            go_ret2
            refine ⟨.inl ⟨a + t, ret_int2 (by omega) rfl, by omega, hin, H3.out, fun j h1 h2 => ?_⟩, rfl⟩
            by_cases c : j < a
            · exact hf.out j h1 c (by omega)
            · exact H4.out j (by omega) h2
          · have hin2 : ¬ (a : Int) + (t : Int) < (n : Int) := by omega
            go_wp2_with fail
            refine (KT.out).mono ?_
            rintro e w' ⟨rfl, rfl⟩
            go_wp2_with fail
            go_ret2
            refine ⟨.inr ⟨rfl, fun j h1 h2 => ?_⟩, rfl⟩
            by_cases c : j < a
            · exact hf.out j h1 c h2
            · exact H4.out j (by omega) (by omega)
    · have hai : ¬ (a : Int) < (n : Int) := by omega
      go_wp2_with fail
      go_ret2
      exact ⟨.inr ⟨rfl, fun j h1 h2 => hf.out j h1 (by omega) h2⟩, rfl⟩
end Go.Proofs.YtfmfmeiaekknbaaGreatDoor
end

section
/-
  The reference of layer 4: Rank, Next, Insert, Remove, Move on plain lists of bits.
-/
namespace Go.Proofs.YtfmfmeiaekknbaaGreatDoor
open Go.RowKit
set_option linter.unusedVariables false
set_option linter.unusedSimpArgs false

def bvs (l : List Bool) : Nat → Value := fun j => .bool (bt l j)
theorem bvs_at (l : List Bool) (j : Nat) : bvs l j = .bool (bt l j) := rfl
/-- A slice that shows bits. -/
abbrev SeesF (w : World) (B : Nat) (A : Option Addr) (l : List Bool) : Prop := Sees w B A l.length (bvs l)
abbrev OwnF (w : World) (B : Nat) (A : Option Addr) (c : Nat) (l : List Bool) : Prop := Own w B 4 1 l.length c A (bvs l)
theorem OwnF.see {w : World} {B c : Nat} {A : Option Addr} {L : List Bool} (h : OwnF w B A c L) : SeesF w w.heap.size A L := by
  have := h.sees; rw [Nat.mul_one] at this; exact this
theorem SeesF.first {w : World} {B : Nat} {A : Option Addr} {L : List Bool} (h : SeesF w B A L) (k : Nat) (hk : k ≤ L.length) : SeesF w B A (L.take k) := by
  intro hn
  rw [List.length_take, Nat.min_eq_left hk] at hn
  obtain ⟨b, o, h1, h2, h3⟩ := h (by omega)
  refine ⟨b, o, h1, h2, fun j hj => ?_⟩
  rw [List.length_take, Nat.min_eq_left hk] at hj
  rw [h3 j (by omega), bvs_at, bvs_at, bt_take hj]
theorem SeesF.sub {w : World} {B c : Nat} {A : Option Addr} {L : List Bool} (h : SeesF w B A L) (hnc : L.length ≤ c) (lo hi : Nat) (h1 : lo ≤ hi) (h2 : hi ≤ L.length) : SeesF w B (subA A c lo 1) ((L.drop lo).take (hi - lo)) := by
  have h' := sees_sub (sz := 1) (n := L.length) (c := c) (lo := lo) (hi := hi) (F := bvs L) (by rw [Nat.mul_one]; exact h) hnc h1 h2
  unfold SeesF
  rw [List.length_take, List.length_drop, Nat.min_eq_left (by omega)]
  rw [Nat.mul_one] at h'
  refine h'.congr fun j hj => ?_
  rw [bvs_at, bvs_at, bt_take hj, bt_drop, Nat.mul_one]
theorem SeesF.rest {w : World} {B c : Nat} {A : Option Addr} {L : List Bool} (h : SeesF w B A L) (hnc : L.length ≤ c) (lo : Nat) (h1 : lo ≤ L.length) : SeesF w B (subA A c lo 1) (L.drop lo) := by
  have := h.sub hnc lo L.length h1 (Nat.le_refl _)
  rwa [List.take_of_length_le (by rw [List.length_drop]; exact Nat.le_refl _)] at this
def fRemErr (L : List Bool) (i n : Int) : Int := if i < 0 ∨ n < 0 ∨ (L.length : Int) < i ∨ (L.length : Int) - i < n then 4 else 0
end Go.Proofs.YtfmfmeiaekknbaaGreatDoor
end

section
/-
  Flags: New, Copy, list.
-/
namespace Go.Proofs.YtfmfmeiaekknbaaGreatDoor
open Go.RowKit
set_option linter.unusedVariables false
set_option linter.unusedSimpArgs false

theorem zc_eq : Tryz.zeroCells61 = #[.int .i64 0, .int .i64 0] ++ Array.replicate 64 (.int .u64 0) := by kernel_rfl
theorem zc_size : Tryz.zeroCells61.size = 66 := by rw [zc_eq]; simp
theorem zc_at (j : Nat) (hj : j < 66) : Tryz.zeroCells61[j]? = some (if j < 2 then .int .i64 0 else .int .u64 0) := by
  rw [zc_eq]
  by_cases c : j < 2
  · rw [if_pos c, Array.getElem?_append_left (by simp; omega)]
    have : j = 0 ∨ j = 1 := by omega
    rcases this with rfl | rfl <;> rfl
  · rw [if_neg c, Array.getElem?_append_right (by simp; omega), Array.getElem?_replicate, if_pos (by simp; omega)]
theorem flc_rep (n j : Nat) : flc (List.replicate n false) j = if j = 0 then .int .i64 n else if j = 1 then .int .i64 0 else .int .u64 0 := by
  unfold flc
  rw [List.length_replicate, cn_rep, wd_rep]
  rfl
theorem infoFl : (Tryz.prog.info? 61).map (·.size) = some 66 := by kernel_rfl
theorem Fl.alloc' (w : World) (hT : Tab w) (hs : 0 < w.heap.size) (l : List Bool) (hl : l.length ≤ 4096) (cs : Array Value) (hz : cs.size = 66) (hc : ∀ j, j < 66 → cs[j]? = some (flc l j)) : Fl (w.alloc (.cells cs 61)) w.heap.size l := by
  have hr := World.rowIs_alloc w cs 61 (flc l) (fun j hj => by rw [hc j (by omega)])
  rw [hz] at hr
  exact ⟨hr, hl, hT.below ((Below.refl w.heap.size w).alloc (Nat.le_refl _) _) hs, hs⟩
set_option maxRecDepth 100000 in
set_option maxHeartbeats 1600000 in
theorem fnew_any (w : World) (hT : Tab w) (hs : 0 < w.heap.size) (n : Nat) (hn : n ≤ 4096) :
    Calls Tryz.prog 6 #[.int .i64 n] w fun e w' => ∃ p, e = .returned (.tuple #[.pointer (some ⟨p, 0, none⟩), .int .i64 0]) ∧ Fl w' p (List.replicate n false) ∧ w.heap.size ≤ p ∧ Below w.heap.size w w' := by
  have h1 : ¬ (n : Int) < 0 := by omega
  have h2 : ¬ 4096 < (n : Int) := by omega
  have HF : Hid (Fl (w.alloc (.cells (Tryz.zeroCells61.setIfInBounds 0 (.int .i64 n)) 61)) w.heap.size (List.replicate n false)) :=
    Fl.alloc' w hT hs _ (by simp; omega) _ (by rw [Array.size_setIfInBounds, zc_size]) fun j hj => by
      rw [flc_rep, Array.getElem?_setIfInBounds]
      by_cases c : j = 0
      · subst c; simp [zc_size]
      · rw [if_neg (fun e => c e.symm), zc_at j hj, if_neg c]
        by_cases d : j = 1
        · subst d; rfl
        · rw [if_neg (by omega), if_neg d]
  have HB : Hid (∀ o, Below w.heap.size w (w.alloc o)) := fun o => (Below.refl _ w).alloc (Nat.le_refl _) o
  clear hT hs
  go_enter Tryz.func6, Tryz.ntmps6
  go_wp2_with fail
  go_ret2
  exact ⟨_, rfl, HF.out, Nat.le_refl _, HB.out _⟩
end Go.Proofs.YtfmfmeiaekknbaaGreatDoor
end

section
/-
  slices.Values, slices.AppendSeq, slices.Collect, slices.Sorted over a slice of int that came in: all its elements, sorted. (After the kit's worked proofs on iterators over slices.)
-/
namespace Go.Proofs.YtfmfmeiaekknbaaGreatDoor
open Go.RowKit Go.Shelf Go.Sort
set_option linter.unusedVariables false
set_option linter.unusedSimpArgs false

attribute [local go_sem] Oper.semAt_some

/-- What has come when k rounds are over. -/
def upTo {α : Type} (f : Nat → α) (k : Nat) : List α := (List.range k).map f
theorem upTo_succ {α : Type} (f : Nat → α) (k : Nat) : upTo f (k + 1) = upTo f k ++ [f k] := by simp [upTo, List.range_succ]
theorem upTo_length {α : Type} (f : Nat → α) (k : Nat) : (upTo f k).length = k := by simp [upTo]
theorem upTo_all (zs : List Int) : upTo (fun j => zs[j]?.getD 0) zs.length = zs := by
  apply List.ext_getElem
  · simp [upTo]
  · intro i h1 h2
    simp [upTo, h2]
theorem upTo_take (zs : List Int) {k : Nat} (hk : k ≤ zs.length) : upTo (fun j => zs[j]?.getD 0) k = zs.take k := by
  apply List.ext_getElem
  · simp [upTo, hk]
  · intro i h1 h2
    have : i < zs.length := by simp [upTo] at h1; omega
    simp [upTo, this]

set_option maxRecDepth 100000 in
set_option maxHeartbeats 2000000 in
theorem values1_in (F : Fence) (n : Nat) (h7 : F.fn 90) (hro : F.round = none) (hn : 1 ≤ n) (l Bs n₀ b off len cap : Nat) (zs : List Int) (hreach : len * 8 ≤ 140737488351232) (hb : b < n₀) (J Jx : List Int → World → Prop)
    (hY : ∀ pre x W, J pre W → pre.length < len → YieldAt F (n - 1) Tryz.prog l #[.int .i64 x] W fun e W' =>
      (e = .returned (.bool true) ∧ J (pre ++ [x]) W' ∧ Below n₀ W W') ∨ (e = .returned (.bool false) ∧ Jx (pre ++ [x]) W'))
    (W : World) (hBs : W.cell? ⟨Bs, 0, none⟩ = some (.slice (some ⟨b, off, none⟩) len cap)) (hc : ∀ j, j < len → W.cell? ⟨b, off + j, none⟩ = some (.int .i64 (zs[j]?.getD 0))) (h0 : J [] W) :
    CallsIn F n Tryz.prog 90 #[.func (.yield l) #[] #[], .pointer (some ⟨Bs, 0, none⟩)] W fun e W' => (∃ v, e = .returned v) ∧
      ((∃ ys, ys = upTo (fun j => zs[j]?.getD 0) len ∧ J ys W') ∨ (∃ pre, (∃ k, k ≤ len ∧ pre = upTo (fun j => zs[j]?.getD 0) k) ∧ Jx pre W')) := by
  refine callsIn_of_wp Tryz.func90 rfl h7 ?_ hro
  simp only [Tryz.ntmps90, List.size_toArray, List.length_cons, List.length_nil, Nat.reduceAdd, Nat.reduceSub, Array.replicate_succ, Array.replicate_zero, List.push_toArray, List.append_toArray, List.nil_append, List.cons_append]
  gi_wp2
  gi_loopw [7] (fun i wr => ∃ k : Nat, k ≤ len ∧ i = .int .i64 k ∧ J (upTo (fun j => zs[j]?.getD 0) k) wr ∧ Below n₀ W wr)
    (fun i _ => len - (intOf i).toNat)
  case atStart => exact ⟨0, Nat.zero_le _, rfl, h0, Below.refl _ _⟩
  case round =>
    obtain ⟨k, hk, rfl, hJs, hnx⟩ := hrel
    have hcx : k < len → wr.cell? ⟨b, off + k, none⟩ = some (.int .i64 (zs[k]?.getD 0)) := fun h => (hnx.cell (p := ⟨b, off + k, none⟩) hb).trans (hc k h)
    by_cases hlt : k < len
    · obtain ⟨fn, tmps, assign, body, hy, hR⟩ := hY _ (zs[k]?.getD 0) wr hJs (by rw [upTo_length]; exact hlt)
      have hcx' := hcx hlt
      gi_wp2
      refine hR.mono ?_
      rintro e W3 (⟨rfl, hJ3, hk3⟩ | ⟨rfl, hJx3⟩)
      · gi_wp2
        go_roundw
        case rel => exact ⟨k + 1, by omega, by simp, by rw [upTo_succ]; exact hJ3, hnx.trans hk3⟩
        case measure => simp [intOf]; omega
      · gi_wp2
        refine bodyPost_ret (results_none rfl _ _ _) rfl ?_
        exact ⟨⟨_, rfl⟩, .inr ⟨_, ⟨k + 1, by omega, (upTo_succ _ _).symm⟩, hJx3⟩⟩
    · obtain rfl : k = len := by omega
      gi_wp2
      go_end0
      exact ⟨⟨_, rfl⟩, .inl ⟨_, rfl, hJs⟩⟩

/-- The slice value holds the ints, in a block below n₀; or it is nil and there are none. -/
def IntsAt (n₀ : Nat) (W : World) (sv : Value) (zs : List Int) : Prop :=
  ((∃ A c, sv = .slice A 0 c) ∧ zs = []) ∨ ∃ b off cap, sv = .slice (some ⟨b, off, none⟩) zs.length cap ∧ b < n₀ ∧ ∀ j, j < zs.length → W.cell? ⟨b, off + j, none⟩ = some (.int .i64 (zs[j]?.getD 0))
theorem IntsAt.below {n₀ : Nat} {A B : World} (h : Below n₀ A B) {sv : Value} {zs : List Int} : IntsAt n₀ A sv zs → IntsAt n₀ B sv zs
  | .inl e => .inl e
  | .inr ⟨b, off, cap, e, hb, hc⟩ => .inr ⟨b, off, cap, e, hb, fun j hj => (h.cell (p := ⟨b, off + j, none⟩) hb).trans (hc j hj)⟩

set_option maxRecDepth 100000 in
set_option maxHeartbeats 1000000 in
theorem values1_nil_in (F : Fence) (n : Nat) (h7 : F.fn 90) (hro : F.round = none) (l Bs : Nat) (J : List Int → World → Prop) (W : World) (Az : Option Addr) (cz : Nat) (hBs : W.cell? ⟨Bs, 0, none⟩ = some (.slice Az 0 cz)) (h0 : J [] W) :
    CallsIn F n Tryz.prog 90 #[.func (.yield l) #[] #[], .pointer (some ⟨Bs, 0, none⟩)] W fun e W' => (∃ v, e = .returned v) ∧ J [] W' := by
  refine callsIn_of_wp Tryz.func90 rfl h7 ?_ hro
  simp only [Tryz.ntmps90, List.size_toArray, List.length_cons, List.length_nil, Nat.reduceAdd, Nat.reduceSub, Array.replicate_succ, Array.replicate_zero, List.push_toArray, List.append_toArray, List.nil_append, List.cons_append]
  gi_wp2
  gi_loopw [7] (fun i wr => i = .int .i64 0 ∧ J [] wr) (fun _ _ => 0)
  case atStart => exact ⟨rfl, h0⟩
  case round =>
    obtain ⟨rfl, hJs⟩ := hrel
    gi_wp2
    go_end0
    exact ⟨⟨_, rfl⟩, hJs⟩

theorem values_stops (F : Fence) (n : Nat) (h7 : F.fn 90) (hro : F.round = none) (hn : 1 ≤ n) (Bs n₀ : Nat) (sv : Value) (zs : List Int) (hreach : zs.length * 8 ≤ 140737488351232) (w : World) (hBs : Bs < w.heap.size) (hn₀ : n₀ ≤ w.heap.size)
    (hc : w.cell? ⟨Bs, 0, none⟩ = some sv) (hI : IntsAt n₀ w sv zs) :
    SeqStopsK F n Tryz.prog 90 #[.pointer (some ⟨Bs, 0, none⟩)] (fun x : Int => #[Value.int .i64 x]) (Below n₀) (fun ys => ys = zs) (fun pre => pre <+: zs) zs.length w := fun l J Jx W hW _ _ hY h0 => by
  have hc' := (hW.cell (p := ⟨Bs, 0, none⟩) hBs).trans hc
  rcases hI.below (hW.mono hn₀) with ⟨⟨Az, cz, rfl⟩, rfl⟩ | ⟨b, off, cap, rfl, hb, hcs⟩
  · exact (values1_nil_in F n h7 hro l Bs J W Az cz hc' h0).mono fun e W' ⟨he, hj⟩ => ⟨he, .inl ⟨_, rfl, hj⟩⟩
  · refine (values1_in F n h7 hro hn l Bs n₀ b off zs.length cap zs hreach hb J Jx hY W hc' hcs h0).mono ?_
    rintro e W' ⟨he, ⟨ys, rfl, hj⟩ | ⟨pre, ⟨k, hk, rfl⟩, hj⟩⟩
    · exact ⟨he, .inl ⟨_, upTo_all zs, hj⟩⟩
    · exact ⟨he, .inr ⟨_, by rw [upTo_take zs hk]; exact List.take_prefix _ _, hj⟩⟩

theorem infoInt : (Tryz.prog.info? 3).map (fun i => (i.zero, i.size, i.bytes)) = some (some (.int .i64 0), 1, 8) := by kernel_rfl
def encI (x : Int) : Value := .int .i64 x

set_option maxRecDepth 100000 in
set_option maxHeartbeats 2000000 in
theorem appendSeq_in (F : Fence) (n : Nat) (h3 : F.fn 108) (h5 : F.fn 90) (hro : F.round = none) (hn : 3 ≤ n) (Bs : Nat) (sv : Value) (zs : List Int) (hlen : zs.length ≤ 1000000000000) (w : World) (hBs : Bs < w.heap.size) (hc : w.cell? ⟨Bs, 0, none⟩ = some sv) (hI : IntsAt w.heap.size w sv zs) :
    CallsIn F n Tryz.prog 108 #[.slice none 0 0, .func (.func 90) #[] #[.pointer (some ⟨Bs, 0, none⟩)]] w fun e W' => ∃ v, e = .returned v ∧ W'.ownsRow w.heap.size 3 1 v zs.length (zs.map encI) ∧ Below w.heap.size w W' := by
  have h1 : 1 ≤ n := by omega
  have hm : zs.length ≤ maxLen := by simp only [maxLen]; omega
  obtain ⟨i0, hi, hz0, hz1, hz2⟩ := info_parts infoInt
  refine callsIn_of_wp_marks Tryz.func108 rfl h3 ?_ hro
  simp only [Tryz.ntmps108, List.size_toArray, List.length_cons, List.length_nil, Nat.reduceAdd, Nat.reduceSub, Array.replicate_succ, Array.replicate_zero, List.push_toArray, List.append_toArray, List.nil_append, List.cons_append]
  gi_wp2
  have bO := Boxed.new w 64 (.slice none 0 0)
  have hB0 : Below w.heap.size w (w.alloc (.cells #[.slice none 0 0] 64)) := (Below.refl _ w).alloc (Nat.le_refl _) _
  refine wpIn_rangeFunc_ownG hro h1 (gf := 90) (lb := #[.pointer (some ⟨Bs, 0, none⟩)]) rfl h5 (enters_of Tryz.func90 (by kernel_rfl) rfl)
    (values_stops F (n - 1) h5 hro (by omega) Bs w.heap.size sv zs (by omega) (w.alloc (.cells #[.slice none 0 0] 64)) (by simp; omega) (by simp) ((hB0.cell (p := ⟨Bs, 0, none⟩) hBs).trans hc) (hI.below hB0)) belowK_t (belowK_b (by simp)) (Below.refl _ _) (fun _ => rfl)
    (fun pre W => (∃ v, Boxed W w.heap.size 64 v ∧ W.ownsRow w.heap.size 3 1 v pre.length (pre.map encI) ∧ True) ∧ Below w.heap.size w W)
    (fun _ _ _ => False)
    (OwnFrom.and (Own.from (holdsRow_own w.heap.size w.heap.size 64 3 1 (fun (pre : List Int) => pre.length) (fun (pre : List Int) => pre.map encI) (fun _ _ => True)) _) (ownFrom_below (Nat.le_refl _) (by simp)))
    (fun _ _ _ _ _ hs _ _ => hs)
    ⟨⟨_, bO, World.ownsRow_nil _ _ _ _, trivial⟩, hB0⟩
    (fun x => { tmps := #[.slice none 0 0, .func (.func 90) #[] #[.pointer (some ⟨Bs, 0, none⟩)], .pointer (some ⟨w.heap.size, 0, none⟩), undef, .slice none 0 0, .int .i64 x, .func (.func 90) #[] #[.pointer (some ⟨Bs, 0, none⟩)], .int .i64 x, undef, undef, undef, undef, undef], defers := [] }) ?assign ?body ?done ?stop
  case assign =>
    intro l x W K hK
    gi_wp2
    exact hK
  case body =>
    rintro l pre x W ⟨⟨v, hv, hrow, _⟩, hB⟩ hlt
    have hc := hv.cell
    gi_wp2_with (gi_at_builtin; refine wpListIn_append_own _ rfl _ _ 64 rfl w.heap.size 3 i0 (.int .i64 0) 1 8 Tryz.underlying64 hi hz0 hz1 hz2 rfl (by decide) _ _ _ rfl (hrow.alloc _) ⟨W.heap.size, 0, none⟩ 1 1 [.int .i64 x] rfl rfl (cell_one_new _ _ _) (by simp [Value.oneCell']) (by omega) (by omega) (by have := hB.size; simp; omega) ?_; intro v' w1 hown' hgrow _; obtain ⟨g', cap', rfl⟩ := ownsRow_succ hown'; obtain ⟨hv1, hv2, hr2, hk2, hb2⟩ := hv.appended (by decide) hrow hB.size (Nat.le_refl _) hown' hgrow; have hc1 := hv1.cell; have hf1 := hv1.frozen)
    exact ⟨hk2.from _, hb2, ⟨_, hv2, by simpa [encI] using hr2, trivial⟩, hB.trans hb2⟩
  case done =>
    rintro D ys W hD rfl ⟨⟨v, hv, hrow, _⟩, hB⟩ hK
    have hc := hv.cell
    gi_wp2
    refine ⟨by simp, .inl ⟨_, _, rfl, run_takeDeferred hK, ?_⟩⟩
    exact ⟨_, results_tmp rfl _ _ _, v, rfl, ownsRow_putObj hrow _ hK rfl, hB.trans (belowK_b (w := w) (Nat.le_refl _) W D _ _ (by simp at hD; omega) hK rfl rfl)⟩
  case stop =>
    rintro D c pre W _ _ h _
    exact h.elim

theorem collect_any (Bs : Nat) (sv : Value) (zs : List Int) (hlen : zs.length ≤ 1000000000000) (w : World) (hBs : Bs < w.heap.size) (hc : w.cell? ⟨Bs, 0, none⟩ = some sv) (hI : IntsAt w.heap.size w sv zs) :
    Calls Tryz.prog 88 #[.func (.func 90) #[] #[.pointer (some ⟨Bs, 0, none⟩)]] w fun e W' => ∃ v, e = .returned v ∧ W'.ownsRow w.heap.size 3 1 v zs.length (zs.map encI) ∧ Below w.heap.size w W' := by
  have K := Lib.hid ((callsIn_wide (n := 5)).1 (appendSeq_in Fence.wide 5 trivial trivial rfl (by omega) Bs sv zs hlen w hBs hc hI))
  clear hI hc
  go_enter Tryz.func88, Tryz.ntmps88
  go_wp2_with fail
  refine (K.out).mono ?_
  rintro e w1 ⟨v, rfl, h1, h2⟩
  have H1 := Lib.hid h1
  have H2 := Lib.hid h2
  clear h1 h2
  go_wp2_with fail
  go_ret
  exact ⟨v, rfl, H1.out, H2.out⟩

/-- The elements, sorted. -/
def srt (zs : List Int) : List Int := zs.mergeSort fun x y => decide (x ≤ y)
theorem srt_len (zs : List Int) : (srt zs).length = zs.length := by simp [srt]
set_option maxRecDepth 100000 in
set_option maxHeartbeats 2000000 in
theorem sorted_any (Bs : Nat) (sv : Value) (zs : List Int) (hlen : zs.length ≤ 1000000000000) (w : World) (hBs : Bs < w.heap.size) (hc : w.cell? ⟨Bs, 0, none⟩ = some sv) (hI : IntsAt w.heap.size w sv zs) :
    Calls Tryz.prog 52 #[.func (.func 90) #[] #[.pointer (some ⟨Bs, 0, none⟩)]] w fun e W' => ∃ v, e = .returned v ∧ W'.ownsRow w.heap.size 3 1 v zs.length ((srt zs).map encI) ∧ Below w.heap.size w W' := by
  have K := Lib.hid (collect_any Bs sv zs hlen w hBs hc hI)
  clear hI hc
  go_enter Tryz.func52, Tryz.ntmps52
  go_wp2_with fail
  refine (K.out).mono ?_
  rintro e w1 ⟨v, rfl, hrow, hb⟩
  rcases hrow.2 with ⟨rfl, hz⟩ | ⟨gb, cap, cur, rfl, hbase, hgb, r1, r2, r3, r4⟩
  · have hz0 : zs = [] := List.eq_nil_of_length_eq_zero hz
    subst hz0
    have KS := Lib.hid (AnyG.slices_Sort_int_none Tryz.sortL none 0 w1)
    have H1 := Lib.hid hrow
    have H2 := Lib.hid hb
    clear hrow hb
    go_wp2_with fail
    refine (KS.out).mono ?_
    rintro e w2 ⟨rfl, rfl⟩
    go_wp2_with fail
    go_ret
    exact ⟨_, rfl, by simpa [srt] using H1.out, H2.out⟩
  · have hH : Holds (Value.int .i64) w1 gb 0 zs.toArray := holds_of_block_i hgb (by have h := r4; rw [Nat.mul_one] at h; exact h)
    have hgl : gb < w1.heap.size := (Array.getElem?_eq_some_iff.1 hgb).1
    have KS := Lib.hid (AnyG.slices_Sort_int Tryz.sortL gb 0 cap zs w1 hH hgl (by omega))
    have HR : Hid (∀ n os, (grow (putRow (Value.int .i64) (Sort.ahead w1 n) gb 0 (zs.mergeSort fun x y => decide (x ≤ y)).toArray) os).ownsRow w.heap.size 3 1 (.slice (some ⟨gb, 0, none⟩) zs.length cap) zs.length ((srt zs).map encI) ∧ Below w.heap.size w (grow (putRow (Value.int .i64) (Sort.ahead w1 n) gb 0 (zs.mergeSort fun x y => decide (x ≤ y)).toArray) os)) := fun n os =>
      ⟨ownsRow_sorted_i (by simp) hbase hgb r1 r2 r3, hb.grown (grownBy_sorted_i _) hb.size (fun j hj => by cases hj; exact hbase)⟩
    clear hrow hb hH hgb r1 r2 r3 r4 hbase hgl
    go_wp2_with fail
    refine (KS.out).mono ?_
    rintro e w2 ⟨rfl, n, os, rfl⟩
    obtain ⟨q1, q2⟩ := HR.out n os
    have H1 := Lib.hid q1
    have H2 := Lib.hid q2
    clear q1 q2
    go_wp2_with fail
    go_ret
    exact ⟨_, rfl, H1.out, H2.out⟩
end Go.Proofs.YtfmfmeiaekknbaaGreatDoor
end

section
/-
  Contracts of package spans, seventh: Of.
-/
namespace Go.Proofs.YtfmfmeiaekknbaaGreatDoor
open Go.RowKit
set_option linter.unusedVariables false
set_option linter.unusedSimpArgs false

theorem srt_mem (L : List Int) (x : Int) : x ∈ srt L ↔ x ∈ L := by unfold srt; exact (List.mergeSort_perm L _).mem_iff
theorem srt_le (L : List Int) : (srt L).Pairwise (fun x y => x ≤ y) := by
  have := List.pairwise_mergeSort (le := fun (x y : Int) => decide (x ≤ y)) (fun a b c h1 h2 => by simp at *; omega) (fun a b => by simp; omega) L
  unfold srt
  exact this.imp (fun h => by simpa using h)
/-- The k-th of a list. -/
def nth (L : List Int) (k : Nat) : Int := L.getD k 0
theorem nth_get (L : List Int) {k : Nat} (h : k < L.length) : nth L k = L[k] := by simp [nth, List.getD_eq_getElem?_getD, List.getElem?_eq_getElem h]
theorem srt_step (L : List Int) {j k : Nat} (hj : j ≤ k) (hk : k < (srt L).length) : nth (srt L) j ≤ nth (srt L) k := by
  rw [nth_get _ hk, nth_get _ (by omega)]
  rcases Nat.lt_or_ge j k with c | c
  · exact List.pairwise_iff_getElem.1 (srt_le L) j k (by omega) hk c
  · have : j = k := by omega
    subst this
    exact Int.le_refl _
/-- The set of the first k places of a sorted list. -/
structure OfTo (S : List Int) (k : Nat) (O : Sp) : Prop where
  nf : NF O
  en : endS (-1) O = if k = 0 then -1 else nth S (k - 1) + 1
  me : ∀ i, memS O i ↔ i ∈ S.take k
theorem OfTo.start (S : List Int) : OfTo S 0 [] := ⟨trivial, rfl, fun i => by simp [memS_nil]⟩
theorem addS_again {O : Sp} {f : Int} (h : endS (-1) O = f + 1) (hf : 0 ≤ f) : addS O f (f + 1) = O := by
  rcases List.eq_nil_or_concat O with rfl | ⟨P, s, rfl⟩
  · have : endS (-1) ([] : Sp) = -1 := rfl
    omega
  · rw [List.concat_eq_append] at *
    rw [endS_append] at h
    have h : s.2 = f + 1 := h
    rw [addS_snoc (by omega), if_pos (by omega), Int.max_eq_left (by omega)]
theorem OfTo.step {L : List Int} {k : Nat} {O : Sp} (h : OfTo (srt L) k O) (hk : k < (srt L).length) (h0 : 0 ≤ nth (srt L) k) (h1 : nth (srt L) k < 1073741824) : OfTo (srt L) (k + 1) (addS O (nth (srt L) k) (nth (srt L) k + 1)) := by
  obtain ⟨a1, a2, a3⟩ := h
  have ht : ∀ i, i ∈ (srt L).take (k + 1) ↔ i ∈ (srt L).take k ∨ i = nth (srt L) k := fun i => by
    rw [List.take_succ_eq_append_getElem hk, List.mem_append, nth_get _ hk]
    simp
  by_cases c : endS (-1) O = nth (srt L) k + 1
  · rw [addS_again c h0]
    refine ⟨a1, by rw [if_neg (by omega)]; exact c, fun i => ?_⟩
    rw [a3, ht]
    constructor
    · exact .inl
    · rintro (h | rfl)
      · exact h
      · rcases Nat.eq_zero_or_pos k with hz | hp
        · rw [if_pos hz] at a2; omega
        · rw [if_neg (by omega)] at a2
          have : nth (srt L) (k - 1) = nth (srt L) k := by omega
          rw [← this, nth_get _ (by omega)]
          exact List.mem_take_iff_getElem.2 ⟨k - 1, by omega, rfl⟩
  · have he : endS (-1) O ≤ nth (srt L) k := by
      rcases Nat.eq_zero_or_pos k with hz | hp
      · rw [if_pos hz] at a2; omega
      · rw [if_neg (by omega)] at a2
        have := srt_step L (j := k - 1) (k := k) (by omega) hk
        omega
    obtain ⟨b1, b2, b3⟩ := addS_spec a1 he h0 (show nth (srt L) k < nth (srt L) k + 1 by omega) (by omega)
    refine ⟨b1, by rw [if_neg (by omega)]; exact b2, fun i => ?_⟩
    rw [b3, a3, ht]
    constructor
    · rintro (h | h)
      · exact .inl h
      · exact .inr (by omega)
    · rintro (h | h)
      · exact .inl h
      · exact .inr (by omega)
def badPlace (L : List Int) : Prop := ∃ x ∈ L, x < 0 ∨ 1073741824 ≤ x
def OfPost (w : World) (L : List Int) (e : Ending) (w' : World) : Prop :=
  (badPlace L ∧ SPost w [] 4 e w') ∨ (¬ badPlace L ∧ ∃ R, NF R ∧ (∀ i, memS R i ↔ i ∈ L) ∧ SPost w (dS R) (dE R) e w')
theorem badPlace_iff (L : List Int) (h : 0 < (srt L).length) : badPlace L ↔ nth (srt L) 0 < 0 ∨ 1073741824 ≤ nth (srt L) ((srt L).length - 1) := by
  constructor
  · rintro ⟨x, hx, hb⟩
    obtain ⟨j, hj, rfl⟩ := List.mem_iff_getElem.1 ((srt_mem L x).2 hx)
    rw [← nth_get _ hj] at hb
    have h1 := srt_step L (j := 0) (k := j) (by omega) hj
    have h2 := srt_step L (j := j) (k := (srt L).length - 1) (by omega) (by omega)
    omega
  · rintro (hb | hb)
    · exact ⟨nth (srt L) 0, (srt_mem L _).1 (by rw [nth_get _ h]; exact List.getElem_mem _), .inl hb⟩
    · exact ⟨nth (srt L) ((srt L).length - 1), (srt_mem L _).1 (by rw [nth_get _ (by omega)]; exact List.getElem_mem _), .inr hb⟩
theorem good_nth {L : List Int} (h : ¬ badPlace L) {k : Nat} (hk : k < (srt L).length) : 0 ≤ nth (srt L) k ∧ nth (srt L) k < 1073741824 := by
  have hm : nth (srt L) k ∈ L := (srt_mem L _).1 (by rw [nth_get _ hk]; exact List.getElem_mem _)
  constructor
  · rcases Int.lt_or_le (nth (srt L) k) 0 with c | c
    · exact absurd ⟨_, hm, .inl c⟩ h
    · exact c
  · rcases Int.lt_or_le (nth (srt L) k) 1073741824 with c | c
    · exact c
    · exact absurd ⟨_, hm, .inr c⟩ h

theorem values_any (w : World) (A : Option Addr) (n c : Nat) :
    Calls Tryz.prog 53 #[.slice A n c] w fun e w' => e = .returned (.func (.func 90) #[] #[.pointer (some ⟨w.heap.size, 0, none⟩)]) ∧ w' = w.alloc (.cells #[.slice A n c] 64) := by
  go_enter Tryz.func53, Tryz.ntmps53
  go_wp2_with fail
  go_ret
  exact ⟨rfl, rfl⟩
set_option maxRecDepth 100000 in
set_option maxHeartbeats 6400000 in
theorem sof_any (w : World) (A : Option Addr) (c : Nat) (L : List Int) (h : IntsAt w.heap.size w (.slice A L.length c) L) (hl : L.length ≤ 100000000) (hf : ∀ x ∈ L, Fits x) :
    Calls Tryz.prog 24 #[.slice A L.length c] w (OfPost w L) := by
  have B0 : Hid (Below w.heap.size w (w.alloc (.cells #[.slice A L.length c] 64))) := (Below.refl _ w).alloc (Nat.le_refl _) _
  have c0 : (w.alloc (.cells #[.slice A L.length c] 64)).cell? ⟨w.heap.size, 0, none⟩ = some (.slice A L.length c) := (World.rowIs_alloc w #[.slice A L.length c] 64 (fun _ => .slice A L.length c) (fun j hj => by
    have h0 : j = 0 := Nat.lt_one_iff.1 hj
    subst h0; rfl)).cell (i := 0) (by simp)
  have hI : IntsAt (w.alloc (.cells #[.slice A L.length c] 64)).heap.size (w.alloc (.cells #[.slice A L.length c] 64)) (.slice A L.length c) L := by
    rcases h.below B0.out with h | ⟨b, o, cc, h1, h2, h3⟩
    · exact .inl h
    · exact .inr ⟨b, o, cc, h1, by have := B0.out.size; omega, h3⟩
  have K := Lib.hid (sorted_any w.heap.size (.slice A L.length c) L (by omega) (w.alloc (.cells #[.slice A L.length c] 64)) (by rw [World.size_alloc]; omega) c0 hI)
  have hsl := srt_len L
  have HR : Hid (∀ v (w1 : World), w1.ownsRow (w.alloc (.cells #[.slice A L.length c] 64)).heap.size 3 1 v L.length ((srt L).map encI) → (v = .slice none 0 0 ∧ L.length = 0) ∨ ∃ b cc, v = .slice (some ⟨b, 0, none⟩) L.length cc ∧ w.heap.size ≤ b ∧ b < w1.heap.size ∧ ∀ j, j < L.length → w1.cell? ⟨b, j, none⟩ = some (.int .i64 (nth (srt L) j))) := by
    intro v w1 hrow
    rcases hrow.2 with ⟨rfl, hz⟩ | ⟨gb, cap, cur, rfl, hbase, hgb, r1, r2, r3, r4⟩
    · exact .inl ⟨rfl, hz⟩
    · refine .inr ⟨gb, cap, rfl, by rw [World.size_alloc] at hbase; omega, (Array.getElem?_eq_some_iff.1 hgb).1, fun j hj => ?_⟩
      have h1 : (cur.toList.take (L.length * 1))[j]? = ((srt L).map encI)[j]? := by rw [r4]
      rw [Nat.mul_one, List.getElem?_take_of_lt hj, List.getElem?_map, List.getElem?_eq_getElem (show j < (srt L).length by omega)] at h1
      simp only [World.cell?, hgb]
      simp only [Option.isSome_none, Bool.false_eq_true, if_false]
      rw [← Array.getElem?_toList, h1, nth_get _ (by omega)]
      rfl
  have HB : Hid (badPlace L → ∀ W, Below w.heap.size w W → OfPost w L (.returned (.tuple #[.slice none 0 0, .int .i64 4])) W) := fun hb W hW => .inl ⟨hb, SPost.none hW 4⟩
  have HG : Hid (¬ badPlace L → ∀ R e w', OfTo (srt L) L.length R → SPost w (dS R) (dE R) e w' → OfPost w L e w') := fun hb R e w' h1 h2 => .inr ⟨hb, R, h1.nf, fun i => by rw [h1.me, ← hsl, List.take_length, srt_mem], h2⟩
  have HI : Hid (0 < L.length → (badPlace L ↔ nth (srt L) 0 < 0 ∨ 1073741824 ≤ nth (srt L) (L.length - 1))) := fun h0 => by rw [← hsl]; exact badPlace_iff L (by omega)
  have HN : Hid (¬ badPlace L → ∀ k, k < L.length → 0 ≤ nth (srt L) k ∧ nth (srt L) k < 1073741824) := fun hb k hk => good_nth hb (by omega)
  have HST : Hid (¬ badPlace L → ∀ k O, k < L.length → OfTo (srt L) k O → OfTo (srt L) (k + 1) (addS O (nth (srt L) k) (nth (srt L) k + 1))) := fun hb k O hk h => h.step (by omega) (good_nth hb (by omega)).1 (good_nth hb (by omega)).2
  have HF : Hid (∀ k, k < L.length → Fits (nth (srt L) k)) := fun k hk => hf _ ((srt_mem L _).1 (by rw [nth_get _ (by omega)]; exact List.getElem_mem _))
  have hbad0 : L.length = 0 → ¬ badPlace L := fun h0 ⟨x, hx, _⟩ => by rw [List.length_eq_zero_iff.1 h0] at hx; cases hx
  obtain ⟨Q, eQ⟩ : ∃ Q, Q = OfPost w L := ⟨_, rfl⟩
  rw [← eQ] at HB HG ⊢
  obtain ⟨n, en⟩ : ∃ n, n = L.length := ⟨_, rfl⟩
  obtain ⟨bad, eb⟩ : ∃ b, b = badPlace L := ⟨_, rfl⟩
  rw [← eb] at HB HG HI HN HST hbad0
  rw [← en] at K HR HG HI HN HST HF hl hbad0 B0 ⊢
  have I0 : Hid (OfTo (srt L) 0 []) := OfTo.start _
  clear h hI c0 hsl hf eQ en eb
  have KV := Lib.hid (values_any w A n c)
  go_enter Tryz.func24, Tryz.ntmps24
  go_wp2_with fail
  refine (KV.out).mono ?_
  rintro e w0 ⟨rfl, rfl⟩
  go_wp2_with fail
  refine (K.out).mono ?_
  rintro e w1 ⟨v, rfl, hrow, hb⟩
  have B1 := Lib.hid (B0.out.trans (hb.mono B0.out.size))
  have hv := HR.out v w1 hrow
  clear hrow hb K KV HR
  rcases hv with ⟨rfl, n0⟩ | ⟨b, cc, rfl, hb1, hb2, hcells⟩
  · subst n0
    have hnb := hbad0 rfl
    go_wp2_with fail
    go_loopw [5, 31] (fun o i wr => o = .slice none 0 0 ∧ i = .int .i64 0 ∧ Hid (Below w.heap.size w wr)) (fun _ _ _ => 0)
    case atStart => exact ⟨rfl, rfl, B1⟩
    case round =>
      obtain ⟨rfl, rfl, hD⟩ := hrel
      have KD := Lib.hid (done_any w wr none 0 [] (seesP_nil _ _) (Nat.le_refl _) (by decide) hD.out)
      go_wp2_with fail
      refine (KD.out).mono ?_
      rintro e w5 ⟨A5, rfl, q1, hb⟩
      have HH := Lib.hid (HG.out hnb [] _ _ I0.out ⟨A5, rfl, q1, hb⟩)
      clear q1 hb KD
      go_wp2_with fail
      exact HH.out
  · by_cases n0 : n = 0
    · subst n0
      have hnb := hbad0 rfl
      clear hcells
      go_wp2_with fail
      go_loopw [5, 31] (fun o i wr => o = .slice none 0 0 ∧ i = .int .i64 0 ∧ Hid (Below w.heap.size w wr)) (fun _ _ _ => 0)
      case atStart => exact ⟨rfl, rfl, B1⟩
      case round =>
        obtain ⟨rfl, rfl, hD⟩ := hrel
        have KD := Lib.hid (done_any w wr none 0 [] (seesP_nil _ _) (Nat.le_refl _) (by decide) hD.out)
        go_wp2_with fail
        refine (KD.out).mono ?_
        rintro e w5 ⟨A5, rfl, q1, hb⟩
        have HH := Lib.hid (HG.out hnb [] _ _ I0.out ⟨A5, rfl, q1, hb⟩)
        clear q1 hb KD
        go_wp2_with fail
        exact HH.out
    · obtain ⟨m, rfl⟩ : ∃ m, n = m + 1 := ⟨n - 1, by omega⟩
      have CE := Lib.hid hcells
      have d0 := hcells 0 (by omega)
      have d1 := hcells m (by omega)
      have hbi := HI.out (by omega)
      rw [Nat.add_sub_cancel] at hbi
      obtain ⟨f01, f02⟩ := HF.out 0 (by omega)
      obtain ⟨f11, f12⟩ := HF.out m (by omega)
      have HBI := Lib.hid hbi
      obtain ⟨x0, ex0⟩ : ∃ x, x = nth (srt L) 0 := ⟨_, rfl⟩
      obtain ⟨xm, exm⟩ : ∃ x, x = nth (srt L) m := ⟨_, rfl⟩
      rw [← ex0] at d0 f01 f02 HBI
      rw [← exm] at d1 f11 f12 HBI
      clear hcells hbi ex0 exm
      by_cases t1 : x0 < 0
      · have H := Lib.hid (HB.out (HBI.out.2 (.inl t1)) w1 B1.out)
        clear HBI
        go_wp2_with fail
        exact H.out
      by_cases t2 : 1073741824 ≤ xm
      · have H := Lib.hid (HB.out (HBI.out.2 (.inr t2)) w1 B1.out)
        clear HBI
        go_wp2_with fail
        exact H.out
      have hnb : ¬ bad := fun hb => by have := HBI.out.1 hb; omega
      have HNB := Lib.hid hnb
      clear HBI hbad0 HB
      go_wp2_with fail
      go_loopw [5, 31] (fun o i wr => ∃ (k : Nat) (O : Sp) (Ao : Option Addr) (co : Nat), k ≤ m + 1 ∧ o = .slice Ao O.length co ∧ i = .int .i64 k ∧ Hid (OwnP wr w1.heap.size Ao co O) ∧ Hid (OfTo (srt L) k O) ∧ Hid (Below w1.heap.size w1 wr)) (fun _ i _ => m + 1 - (intOf i).toNat)
      case atStart => exact ⟨0, [], none, 0, Nat.zero_le _, rfl, rfl, Own.nil _ _ _ _ _, I0, Below.refl _ _⟩
      case round =>
        obtain ⟨k, O, Ao, co, hk, rfl, rfl, hO, hI, hD⟩ := hrel
        clear I0 d0 d1
        by_cases hlt : k < m + 1
        · have dk := (hD.out.cell (p := ⟨b, k, none⟩) hb2).trans (CE.out k hlt)
          obtain ⟨p1, p2⟩ := HN.out HNB.out k hlt
          have ST := Lib.hid (HST.out HNB.out k O hlt hI.out)
          have hlen := NF.len hI.out.nf
          obtain ⟨x, hx⟩ : ∃ x, x = nth (srt L) k := ⟨_, rfl⟩
          rw [← hx] at dk p1 p2 ST
          have KA := Lib.hid (sadd_any wr w1.heap.size Ao co O x (x + 1) hO.out hD.out.size (by omega) ⟨by omega, by omega⟩ ⟨by omega, by omega⟩ (NF.fits hI.out.nf))
          obtain ⟨O1, eO1⟩ : ∃ O1, O1 = addS O x (x + 1) := ⟨_, rfl⟩
          rw [← eO1] at KA ST
          obtain ⟨nO, enO⟩ : ∃ n, n = O.length := ⟨_, rfl⟩
          rw [← enO] at KA ⊢
          have hki : (k : Int) < (m : Int) + 1 := by omega
          clear hx eO1 enO hO hI hlen
          go_wp2_with fail
          refine (KA.out).mono ?_
          rintro e w5 ⟨A5, c5, rfl, O5, hb, _⟩
          have D5 := Lib.hid (hD.out.trans hb)
          have P5 := Lib.hid O5
          clear hb O5 KA dk
          go_wp2_with fail
          go_roundw
          case rel => exact ⟨k + 1, O1, A5, c5, by omega, rfl, by go_num, P5, ST, D5⟩
          case measure => simp [intOf]; omega
        · obtain rfl : k = m + 1 := by omega
          have KD := Lib.hid (done_any w wr Ao co O (hO.out.sees) hO.out.le (by have := NF.len hI.out.nf; omega) (B1.out.trans (hD.out.mono B1.out.size)))
          go_wp2_with fail
          refine (KD.out).mono ?_
          rintro e w5 ⟨A5, rfl, q1, hb⟩
          have HH := Lib.hid (HG.out HNB.out O _ _ hI.out ⟨A5, rfl, q1, hb⟩)
          clear q1 hb KD
          go_wp2_with fail
          exact HH.out
end Go.Proofs.YtfmfmeiaekknbaaGreatDoor
end

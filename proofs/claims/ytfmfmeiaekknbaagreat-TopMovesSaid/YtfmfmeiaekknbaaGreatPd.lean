/-
  Contracts and plain laws that the walks of the top need, merged by a program out of one text a subject.
-/
import Derived.Test.YtfmfmeiaekknbaaGreatRows
import Derived.Test.YtfmfmeiaekknbaaGreatPa
import Derived.LoopTactic
import Derived.Outline
import Derived.Deep.QuietTactic
import Derived.BigQuiet
import Derived.StillTailTactics
import Derived.BigRegion
import Derived.Deep.RegionHeld3
import Derived.Test.YtfmfmeiaekknbaaGreatPb
import Derived.Lib.JoinLaws
import Derived.Laws.EntriesVeiled
import Derived.Great.Walk
import Derived.Deep.RegionLaw
import Derived.WalkMore
import Derived.ScopeJumps
import Derived.WalkKit
import Derived.WalkLawsBesides
import Derived.WalkSpells
import Derived.Lib.MinMax
import Derived.Deep.WholeRow
import Derived.IntWalk
import Derived.RangeFuncBox
import Derived.RangeFuncWrites
import Derived.RangeFuncLeaves
import Derived.Shelf.Abstract
import Derived.OwnWalkIn
import Derived.TacticsInMore
import Derived.LoopNIn
import Derived.LoopIn
import Derived.Maps.AppendAt
import Derived.Shelf.SlIterI.Sorted
import Derived.Test.YtfmfmeiaekknbaaGreatSortL
import Derived.Test.YtfmfmeiaekknbaaGreatPc
import Derived.Test.YtfmfmeiaekknbaaGreatLibLen
import Derived.Scope
section
/-
  Contracts of package gaps at elements of type uint64.
-/
namespace Go.Proofs.YtfmfmeiaekknbaaGreat
namespace GapU
open Go.RowKit
set_option linter.unusedVariables false

/-- The buffer's three cells. -/
def bufCells (A : Option Addr) (m at_ gap : Nat) : Nat → Value := fun j => if j = 0 then .slice A m m else if j = 1 then .int .i64 at_ else .int .i64 gap

/-- A buffer at p, its elements in block g: the list l of n elements, its gap at at_. -/
structure BG (w : World) (p g m n at_ gap : Nat) (A : Option Addr) (F : Nat → Value) (l : Nat → Int) : Prop where
  hp : w.rowIs p 186 3 (bufCells A m at_ gap)
  hA : 0 < m → A = some ⟨g, 0, none⟩ ∧ g ≠ p ∧ w.rowIs g 115 m F
  hm : m = n + gap
  hat : at_ ≤ n
  lo : ∀ j, j < at_ → F j = .int .u64 (l j)
  hi : ∀ j, at_ ≤ j → j < n → F (j + gap) = .int .u64 (l j)
  hn : n ≤ 4096
  hm2 : m ≤ 20000
  one : ∀ j, (F j).oneCell' = true

/-- The same; its memory lies from block B on. -/
def Buf (w : World) (B p n at_ : Nat) (l : Nat → Int) : Prop :=
  ∃ (g m gap : Nat) (A : Option Addr) (F : Nat → Value), BG w p g m n at_ gap A F l ∧ B ≤ p ∧ (0 < m → B ≤ g)

theorem Buf.le {w : World} {B p n at_ : Nat} {l : Nat → Int} (h : Buf w B p n at_ l) : B ≤ p ∧ at_ ≤ n ∧ n ≤ 4096 := by
  obtain ⟨g, m, gap, A, F, h1, h2, h3⟩ := h
  exact ⟨h2, h1.hat, h1.hn⟩
theorem BG.congr {w : World} {p g m n at_ gap : Nat} {A : Option Addr} {F : Nat → Value} {l l' : Nat → Int} (h : BG w p g m n at_ gap A F l) (e : ∀ j, j < n → l j = l' j) : BG w p g m n at_ gap A F l' :=
  ⟨h.hp, h.hA, h.hm, h.hat, fun j hj => by rw [h.lo j hj, e j (by have := h.hat; omega)], fun j a b => by rw [h.hi j a b, e j b], h.hn, h.hm2, h.one⟩
theorem Buf.congr {w : World} {B p n at_ : Nat} {l l' : Nat → Int} (h : Buf w B p n at_ l) (e : ∀ j, j < n → l j = l' j) : Buf w B p n at_ l' := by
  obtain ⟨g, m, gap, A, F, h1, h2, h3⟩ := h
  exact ⟨g, m, gap, A, F, h1.congr e, h2, h3⟩
theorem BG.keep {w w' : World} {p g m n at_ gap : Nat} {A : Option Addr} {F : Nat → Value} {l : Nat → Int} (h : BG w p g m n at_ gap A F l) (k1 : w'.heap[p]? = w.heap[p]?) (k2 : 0 < m → w'.heap[g]? = w.heap[g]?) : BG w' p g m n at_ gap A F l :=
  ⟨h.hp.of_block k1, fun hm => ⟨(h.hA hm).1, (h.hA hm).2.1, (h.hA hm).2.2.of_block (k2 hm)⟩, h.hm, h.hat, h.lo, h.hi, h.hn, h.hm2, h.one⟩
/-- Kept where the blocks of the buffer are kept. -/
theorem Buf.keep {w w' : World} {B p n at_ : Nat} {l : Nat → Int} (h : Buf w B p n at_ l) (k : ∀ b, B ≤ b → b < w.heap.size → w'.heap[b]? = w.heap[b]?) : Buf w' B p n at_ l := by
  obtain ⟨g, m, gap, A, F, h1, h2, h3⟩ := h
  exact ⟨g, m, gap, A, F, h1.keep (k p h2 h1.hp.lt) (fun hm => k g (h3 hm) (h1.hA hm).2.2.lt), h2, h3⟩
theorem Buf.below {w w' : World} {B p n at_ : Nat} {l : Nat → Int} (h : Buf w B p n at_ l) (hb : Below w.heap.size w w') : Buf w' B p n at_ l := h.keep fun b _ hb' => hb.block b hb'
theorem Buf.drawn {w w' : World} {B p n at_ : Nat} {l : Nat → Int} (h : Buf w B p n at_ l) (hd : Drawn w w') : Buf w' B p n at_ l := by obtain ⟨q, rfl⟩ := hd; exact h.keep fun _ _ _ => rfl
theorem BG.drawn {w w' : World} {p g m n at_ gap : Nat} {A : Option Addr} {F : Nat → Value} {l : Nat → Int} (h : BG w p g m n at_ gap A F l) (hd : Drawn w w') : BG w' p g m n at_ gap A F l := by obtain ⟨q, rfl⟩ := hd; exact h.keep rfl fun _ => rfl

/-- Nothing but blocks p and g, and new ones, has turned. -/
structure Only2 (w w' : World) (p g : Nat) : Prop where
  os : w'.os = w.os
  tape : w'.tape = w.tape
  output : w'.output = w.output
  size : w.heap.size ≤ w'.heap.size
  block : ∀ b, b < w.heap.size → b ≠ p → b ≠ g → w'.heap[b]? = w.heap[b]?
theorem Only2.refl (w : World) (p g : Nat) : Only2 w w p g := ⟨rfl, rfl, rfl, Nat.le_refl _, fun _ _ _ _ => rfl⟩
theorem Only2.trans {a b c : World} {p g g' : Nat} (h : Only2 a b p g) (k : Only2 b c p g') (e : g' = g ∨ g' = p ∨ a.heap.size ≤ g') : Only2 a c p g :=
  ⟨k.os.trans h.os, k.tape.trans h.tape, k.output.trans h.output, Nat.le_trans h.size k.size, fun x hx h1 h2 => (k.block x (Nat.lt_of_lt_of_le hx h.size) h1 (by omega)).trans (h.block x hx h1 h2)⟩
theorem Only2.of_only {a b : World} {p g q : Nat} (h : Only a b q) (hq : q = p ∨ q = g) : Only2 a b p g :=
  ⟨h.os, h.tape, h.output, h.size, fun x hx h1 h2 => h.block x hx (fun e => by injection e with e; omega)⟩
theorem Only2.of_drawn {a b : World} {p g : Nat} (h : Drawn a b) : Only2 a b p g := by obtain ⟨q, rfl⟩ := h; exact ⟨rfl, rfl, rfl, Nat.le_refl _, fun _ _ _ _ => rfl⟩
theorem Only2.drew {a b : World} {p g : Nat} (h : Only2 a b p g) : Only2 a b.drew p g := ⟨h.os, h.tape, h.output, h.size, h.block⟩
theorem Only2.drewN {a b : World} {p g : Nat} (h : Only2 a b p g) (n : Nat) : Only2 a (b.drewN n) p g := ⟨h.os, h.tape, h.output, h.size, h.block⟩
theorem Only2.drewL {a b : World} {p g : Nat} (h : Only2 a.drew b p g) : Only2 a b p g := ⟨h.os, h.tape, h.output, h.size, h.block⟩
theorem Only2.setCell {a b : World} {p g : Nat} (h : Only2 a b p g) (q i : Nat) (hq : q = p ∨ q = g ∨ a.heap.size ≤ q) (v : Value) : Only2 a (b.setCell ⟨q, i, none⟩ v) p g :=
  ⟨h.os, h.tape, h.output, by simpa [World.setCell] using h.size, fun x hx h1 h2 => (Below.heap_setCell b ⟨q, i, none⟩ v x (by show x ≠ q; omega)).trans (h.block x hx h1 h2)⟩
theorem Only2.alloc {a b : World} {p g : Nat} (h : Only2 a b p g) (o : Obj) : Only2 a (b.alloc o) p g :=
  ⟨h.os, h.tape, h.output, by have := h.size; simp; omega, fun x hx h1 h2 => (Below.heap_alloc b o x (Nat.lt_of_lt_of_le hx h.size)).trans (h.block x hx h1 h2)⟩
theorem Only2.below {a b : World} {p g B : Nat} (h : Only2 a b p g) (hp : B ≤ p) (hg : B ≤ g) (hs : B ≤ a.heap.size) : Below B a b :=
  ⟨h.os, h.tape, h.output, h.size, fun x hx => h.block x (by omega) (by omega) (by omega)⟩

/-- The cells of the buffer as the walk reads them. -/
structure Cells (w : World) (p m at_ gap : Nat) (A : Option Addr) : Prop where
  c0 : w.cell? ⟨p, 0, none⟩ = some (.slice A m m)
  c1 : w.cell? ⟨p, 1, none⟩ = some (.int .i64 at_)
  c2 : w.cell? ⟨p, 2, none⟩ = some (.int .i64 gap)
  fz : ∀ i, w.frozen? ⟨p, i, none⟩ = false
theorem Cells.drewN {w : World} {p m at_ gap : Nat} {A : Option Addr} (h : Cells w p m at_ gap A) (q : Nat) : Cells (w.drewN q) p m at_ gap A := ⟨h.c0, h.c1, h.c2, h.fz⟩
theorem cells_of {w : World} {p m at_ gap : Nat} {A : Option Addr} (h : w.rowIs p 186 3 (bufCells A m at_ gap)) : Cells w p m at_ gap A :=
  ⟨h.cell (i := 0) (by omega), h.cell (i := 1) (by omega), h.cell (i := 2) (by omega), fun i => h.frozen i⟩

set_option maxHeartbeats 400000 in
theorem len_any (w : World) (B p n at_ : Nat) (l : Nat → Int) (h : Buf w B p n at_ l) :
    Calls Tryz.prog 125 #[.pointer (some ⟨p, 0, none⟩)] w fun e w' => e = .returned (.int .i64 n) ∧ Drawn w w' := by
  obtain ⟨g, m, gap, A, F, h1, h2, h3⟩ := h
  obtain ⟨c0, c1, c2, fz⟩ := cells_of h1.hp
  have H4 := Lib.hid h1.hm
  have b1 : gap ≤ m := by have := H4.out; omega
  have b2 := h1.hm2
  clear fz h1 h3
  go_enter Tryz.func125, Tryz.ntmps125
  go_wp2_with fail
  go_quiet (fail)
  go_wp2_with fail
  go_ret
  exact ⟨ret_int (by have := H4.out; omega), ⟨_, rfl⟩⟩

/-- The error of check. -/
def chkErr (n : Nat) (i k : Int) : Int := if i < 0 ∨ k < 0 ∨ (n : Int) < i ∨ (n : Int) - i < k then 4 else 0

set_option maxHeartbeats 800000 in
theorem check_any (w : World) (B p n at_ : Nat) (l : Nat → Int) (h : Buf w B p n at_ l) (i k : Int) (hi : Fits i) (hk : Fits k) :
    Calls Tryz.prog 118 #[.pointer (some ⟨p, 0, none⟩), .int .i64 i, .int .i64 k] w fun e w' => e = .returned (.int .i64 (chkErr n i k)) ∧ Drawn w w' := by
  have HB := Lib.hid h
  have hn := h.le.2.2
  clear h
  obtain ⟨i1, i2⟩ := hi
  obtain ⟨k1, k2⟩ := hk
  by_cases d1 : i < 0
  · have H : Hid (4 = chkErr n i k) := by show _ = _; unfold chkErr; rw [if_pos (by omega)]
    go_enter Tryz.func118, Tryz.ntmps118
    go_wp2_with fail
    go_ret
    exact ⟨ret_int H.out, Drawn.refl _⟩
  · by_cases d2 : k < 0
    · have H : Hid (4 = chkErr n i k) := by show _ = _; unfold chkErr; rw [if_pos (by omega)]
      go_enter Tryz.func118, Tryz.ntmps118
      go_wp2_with fail
      go_ret
      exact ⟨ret_int H.out, Drawn.refl _⟩
    · by_cases d3 : (n : Int) < i
      · have H : Hid (4 = chkErr n i k) := by show _ = _; unfold chkErr; rw [if_pos (by omega)]
        go_enter Tryz.func118, Tryz.ntmps118
        go_wp2_with fail
        refine (len_any w B p n at_ l HB.out).mono ?_
        rintro e w1 ⟨rfl, hd⟩
        go_wp2_with fail
        go_ret
        exact ⟨ret_int H.out, hd⟩
      · by_cases d4 : (n : Int) - i < k
        · have H : Hid (4 = chkErr n i k) := by show _ = _; unfold chkErr; rw [if_pos (by omega)]
          go_enter Tryz.func118, Tryz.ntmps118
          go_wp2_with fail
          refine (len_any w B p n at_ l HB.out).mono ?_
          rintro e w1 ⟨rfl, hd⟩
          go_wp2_with fail
          refine (len_any w1 B p n at_ l (HB.out.drawn hd)).mono ?_
          rintro e w2 ⟨rfl, hd2⟩
          go_wp2_with fail
          go_ret
          exact ⟨ret_int H.out, hd.trans hd2⟩
        · have H : Hid (0 = chkErr n i k) := by show _ = _; unfold chkErr; rw [if_neg (by omega)]
          go_enter Tryz.func118, Tryz.ntmps118
          go_wp2_with fail
          refine (len_any w B p n at_ l HB.out).mono ?_
          rintro e w1 ⟨rfl, hd⟩
          go_wp2_with fail
          refine (len_any w1 B p n at_ l (HB.out.drawn hd)).mono ?_
          rintro e w2 ⟨rfl, hd2⟩
          go_wp2_with fail
          go_ret
          exact ⟨ret_int H.out, hd.trans hd2⟩

set_option maxHeartbeats 400000 in
theorem place_lt (w : World) (p m at_ gap : Nat) (A : Option Addr) (h : Cells w p m at_ gap A) (i : Nat) (hi : i < at_) :
    Calls Tryz.prog 119 #[.pointer (some ⟨p, 0, none⟩), .int .i64 i] w fun e w' => e = .returned (.int .i64 i) ∧ w = w' := by
  obtain ⟨c0, c1, c2, fz⟩ := h
  have hi' : (i : Int) < (at_ : Int) := by omega
  go_enter Tryz.func119, Tryz.ntmps119
  go_wp2_with fail
  go_ret
  exact ⟨rfl, rfl⟩
set_option maxHeartbeats 400000 in
theorem place_ge (w : World) (p m at_ gap : Nat) (A : Option Addr) (h : Cells w p m at_ gap A) (i : Nat) (hi : at_ ≤ i) (b1 : i ≤ 20000) (b2 : gap ≤ 20000) :
    Calls Tryz.prog 119 #[.pointer (some ⟨p, 0, none⟩), .int .i64 i] w fun e w' => e = .returned (.int .i64 (i + gap : Nat)) ∧ w = w' := by
  obtain ⟨c0, c1, c2, fz⟩ := h
  have hi' : (at_ : Int) ≤ (i : Int) := by omega
  go_enter Tryz.func119, Tryz.ntmps119
  go_wp2_with fail
  go_ret
  exact ⟨ret_int (by omega), rfl⟩

/-- Where element i stands. -/
def stands (at_ gap i : Nat) : Nat := if i < at_ then i else i + gap
theorem place_any (w : World) (p m at_ gap : Nat) (A : Option Addr) (h : Cells w p m at_ gap A) (i : Nat) (b1 : i ≤ 20000) (b2 : gap ≤ 20000) :
    Calls Tryz.prog 119 #[.pointer (some ⟨p, 0, none⟩), .int .i64 i] w fun e w' => e = .returned (.int .i64 (stands at_ gap i : Nat)) ∧ w = w' := by
  unfold stands
  by_cases hi : i < at_
  · rw [if_pos hi]; exact place_lt w p m at_ gap A h i hi
  · rw [if_neg hi]; exact place_ge w p m at_ gap A h i (by omega) b1 b2
theorem BG.stands {w : World} {p g m n at_ gap : Nat} {A : Option Addr} {F : Nat → Value} {l : Nat → Int} (h : BG w p g m n at_ gap A F l) {i : Nat} (hi : i < n) : stands at_ gap i < m ∧ F (stands at_ gap i) = .int .u64 (l i) := by
  have h1 := h.hm
  have h2 := h.hat
  unfold GapU.stands
  by_cases hx : i < at_
  · rw [if_pos hx]; exact ⟨by omega, h.lo i hx⟩
  · rw [if_neg hx]; exact ⟨by omega, h.hi i (by omega) hi⟩

set_option maxHeartbeats 800000 in
theorem at_ok (w : World) (B p n at_ : Nat) (l : Nat → Int) (h : Buf w B p n at_ l) (i : Nat) (hi : i < n) :
    Calls Tryz.prog 60 #[.pointer (some ⟨p, 0, none⟩), .int .i64 i] w fun e w' => e = .returned (.tuple #[.int .u64 (l i), .int .i64 0]) ∧ Drawn w w' := by
  have hc : chkErr n i 1 = 0 := by unfold chkErr; rw [if_neg (by omega)]
  have hn := h.le.2.2
  have HC : ∀ W, Buf W B p n at_ l → Calls Tryz.prog 118 #[.pointer (some ⟨p, 0, none⟩), .int .i64 i, .int .i64 1] W fun e w' => e = .returned (.int .i64 0) ∧ Drawn W w' := by
    intro W hW; have := check_any W B p n at_ l hW i 1 ⟨by omega, by omega⟩ ⟨by omega, by omega⟩; rwa [hc] at this
  have HCC := Lib.hid HC
  clear HC hc
  have HB := Lib.hid h
  clear h
  go_enter Tryz.func60, Tryz.ntmps60
  go_wp2_with fail
  refine (HCC.out w HB.out).mono ?_
  rintro e w1 ⟨rfl, hd⟩
  go_wp2_with fail
  obtain ⟨g, m, gap, A, F, h1, _, _⟩ := HB.out.drawn hd
  have b3 := h1.hm2
  have b4 := h1.hm
  obtain ⟨s1, s2⟩ := h1.stands hi
  obtain ⟨rfl, _, hrow⟩ := h1.hA (by omega)
  have hcs := cells_of h1.hp
  obtain ⟨c0, c1, c2, fz⟩ := cells_of h1.hp
  obtain ⟨s, hs⟩ : ∃ s, s = stands at_ gap i := ⟨_, rfl⟩
  have hcell := hrow.cell s1
  rw [s2, ← hs] at hcell
  have HP : ∀ q : Nat, Calls Tryz.prog 119 #[.pointer (some ⟨p, 0, none⟩), .int .i64 i] (w1.drewN q) fun e w' => e = .returned (.int .i64 s) ∧ w1.drewN q = w' := by
    intro q; have := place_any (w1.drewN q) p m at_ gap (some ⟨g, 0, none⟩) (hcs.drewN q) i (by omega) (by omega); rwa [← hs] at this
  have HPP := Lib.hid HP
  rw [← hs] at s1
  have s3 : (s : Int) < (m : Int) := by omega
  clear HP hs s2 b4 h1 hrow hcs fz
  go_quiet ((go_at_call 119; exact quiet_left' (HPP.out _)))
  go_wp2_with fail
  go_ret2
  exact ⟨rfl, hd.trans ⟨_, rfl⟩⟩

end GapU
end Go.Proofs.YtfmfmeiaekknbaaGreat
end

section
/-
  Contracts of package gaps at elements of type uint64: what moves memory.
-/
namespace Go.Proofs.YtfmfmeiaekknbaaGreat
namespace GapU
open Go.RowKit
set_option linter.unusedVariables false

theorem infoSize : (Tryz.prog.info? 115).map (·.size) = some 1 := by kernel_rfl
theorem zeroE (W : World) : (zeroValue 115).run Tryz.prog W = .ok (.int .u64 0) W := by kernel_rfl

/-- The row behind the moving of the gap. -/
def moved (F : Nat → Value) (at_ gap at' : Nat) : Nat → Value :=
  if at' < at_ then spliced F (at' + gap) (at_ - at') (fun j => F (at' + j)) else spliced F at_ (at' - at_) (fun j => F (at_ + gap + j))
theorem moved_lo {w : World} {p g m n at_ gap : Nat} {A : Option Addr} {F : Nat → Value} {l : Nat → Int} (h : BG w p g m n at_ gap A F l) {at' : Nat} (ha : at' ≤ n) : ∀ j, j < at' → moved F at_ gap at' j = .int .u64 (l j) := by
  intro j hj
  have hat := h.hat
  unfold moved
  by_cases c : at' < at_
  · rw [if_pos c]; unfold spliced; rw [if_neg (by omega)]; exact h.lo j (by omega)
  · rw [if_neg c]; unfold spliced
    by_cases d : j < at_
    · rw [if_neg (by omega)]; exact h.lo j d
    · rw [if_pos (by omega)]; show F (at_ + gap + (j - at_)) = _; rw [show at_ + gap + (j - at_) = j + gap from by omega]; exact h.hi j (by omega) (by omega)
theorem moved_hi {w : World} {p g m n at_ gap : Nat} {A : Option Addr} {F : Nat → Value} {l : Nat → Int} (h : BG w p g m n at_ gap A F l) {at' : Nat} (ha : at' ≤ n) : ∀ j, at' ≤ j → j < n → moved F at_ gap at' (j + gap) = .int .u64 (l j) := by
  intro j hj hn
  have hat := h.hat
  unfold moved
  by_cases c : at' < at_
  · rw [if_pos c]; unfold spliced
    by_cases d : j < at_
    · rw [if_pos (by omega)]; show F (at' + (j + gap - (at' + gap))) = _; rw [show at' + (j + gap - (at' + gap)) = j from by omega]; exact h.lo j d
    · rw [if_neg (by omega)]; exact h.hi j (by omega) hn
  · rw [if_neg c]; unfold spliced; rw [if_neg (by omega)]; exact h.hi j (by omega) hn
theorem spliced_one {f cs : Nat → Value} {off k : Nat} (h1 : ∀ j, (f j).oneCell' = true) (h2 : ∀ j, (cs j).oneCell' = true) : ∀ j, (spliced f off k cs j).oneCell' = true := by
  intro j; unfold spliced; split
  · exact h2 _
  · exact h1 _
/-- Places inside the gap don't matter. -/
theorem clear_lo {F : Nat → Value} {at' gap : Nat} {z : Value} {j : Nat} (hj : j < at') : spliced F at' gap (fun _ => z) j = F j := by unfold spliced; rw [if_neg (by omega)]
theorem clear_hi {F : Nat → Value} {at' gap : Nat} {z : Value} {j : Nat} (hj : at' ≤ j) : spliced F at' gap (fun _ => z) (j + gap) = F (j + gap) := by unfold spliced; rw [if_neg (by omega)]

theorem bufCells_at {A : Option Addr} {m at_ gap at' : Nat} : (fun j => if j = 1 then Value.int .i64 at' else bufCells A m at_ gap j) = bufCells A m at' gap := by
  funext j
  unfold bufCells
  by_cases h1 : j = 1
  · subst h1; simp
  · simp [h1]
/-- What bring leaves. -/
def BringPost (w : World) (p g m n at' gap : Nat) (A : Option Addr) (l : Nat → Int) (e : Ending) (w' : World) : Prop :=
  e = .returned (.tuple #[]) ∧ (∃ F', BG w' p g m n at' gap A F' l) ∧ Only2 w w' p g

set_option maxRecDepth 100000 in
set_option maxHeartbeats 1600000 in
theorem bring_any (w : World) (p g m n at_ gap : Nat) (A : Option Addr) (F : Nat → Value) (l : Nat → Int) (h : BG w p g m n at_ gap A F l) (at' : Nat) (ha : at' ≤ n) :
    Calls Tryz.prog 149 #[.pointer (some ⟨p, 0, none⟩), .int .i64 at'] w (BringPost w p g m n at' gap A l) := by
  have HB := Lib.hid h
  obtain ⟨c0, c1, c2, fz⟩ := cells_of h.hp
  have hm := h.hm
  have hm2 := h.hm2
  have hn := h.hn
  have hat := h.hat
  have HM := Lib.hid hm
  have b1 : gap ≤ m := by omega
  have b2 : at' + gap ≤ m := by omega
  have b3 : at_ + gap ≤ m := by omega
  clear h hm
  by_cases c : at' < at_
  · have mp : 0 < m := by have := HM.out; omega
    obtain ⟨rfl, hgp, hrow⟩ := HB.out.hA mp
    obtain ⟨w1, hcp, hrow1, ho1⟩ := copy_row (P := Tryz.prog) w.drew (dT := 116) (sT := 116) Tryz.underlying116 infoSize (show w.drew.rowIs g 115 m F from hrow) (at' + gap) (m - (at' + gap)) (m - (at' + gap))
      (B := w.heap.size) (A := some ⟨g, at', none⟩) (sLen := at_ - at') (sCap := m - at') (cs := fun j => F (at' + j))
      (fun _ => ⟨g, at', rfl, hrow.lt, fun j hj => hrow.cell (by omega)⟩) (fun j => HB.out.one _) (at_ - at') (by have := HM.out; simp only [Nat.min_def]; rw [if_pos (by omega)]) (by have := HM.out; omega)
    have ne1 : ¬ m = at' + gap := by have := HM.out; omega
    have ne2 : ¬ m = at' := by omega
    go_enter Tryz.func149, Tryz.ntmps149
    have plt : p < w.drew.heap.size := HB.out.hp.lt
    have hgp' : p ≠ g := fun e => hgp e.symm
    have q0 : w1.cell? ⟨p, 0, none⟩ = some (.slice (some ⟨g, 0, none⟩) m m) := (ho1.cell plt hgp' 0).trans c0
    have q1 : w1.cell? ⟨p, 1, none⟩ = some (.int .i64 at_) := (ho1.cell plt hgp' 1).trans c1
    have q2 : w1.cell? ⟨p, 2, none⟩ = some (.int .i64 gap) := (ho1.cell plt hgp' 2).trans c2
    have qz : ∀ i, w1.frozen? ⟨p, i, none⟩ = false := fun i => (ho1.frozen plt hgp' i).trans (fz i)
    have hp1 : w1.rowIs p 186 3 (bufCells (some ⟨g, 0, none⟩) m at_ gap) := ho1.row (show w.drew.rowIs p _ 3 _ from HB.out.hp) hgp'
    obtain ⟨w2, hcl, hrow2, ho2⟩ := clear_row (P := Tryz.prog) (w1.setCell ⟨p, 1, none⟩ (.int .i64 at')).drew Tryz.underlying116 zeroE rfl rfl (show (w1.setCell ⟨p, 1, none⟩ (.int .i64 at')).drew.rowIs g 115 m _ from hrow1.setOther hgp _)
      (some ⟨g, at', none⟩) at' gap (m - at') (fun _ => rfl) b2
    have hp2 : w2.rowIs p 186 3 (bufCells (some ⟨g, 0, none⟩) m at' gap) := ho2.row (by have := hp1.set 1 (.int .i64 (at' : Int)); rw [bufCells_at] at this; exact this) hgp'
    have H : BringPost w p g m n at' gap (some ⟨g, 0, none⟩) l (.returned (.tuple #[])) w2 := by
      refine ⟨rfl, ⟨_, hp2, fun _ => ⟨rfl, hgp, hrow2⟩, HM.out, ha, fun j hj => ?_, fun j h1 h2 => ?_, hn, hm2, spliced_one (spliced_one HB.out.one fun j => HB.out.one _) fun _ => rfl⟩, ?_⟩
      · rw [clear_lo hj]
        have := moved_lo HB.out ha j hj
        unfold moved at this; rwa [if_pos c] at this
      · rw [clear_hi h1]
        have := moved_hi HB.out ha j h1 h2
        unfold moved at this; rwa [if_pos c] at this
      · exact ((Only2.of_only ho1 (.inr rfl)).drewL.setCell p 1 (.inl rfl) _).drew.trans (Only2.of_only ho2 (.inr rfl)) (.inl rfl)
    have HH := Lib.hid H
    clear H hp1 hp2 hrow1 hrow2 ho1 ho2
    go_wp2_with fail
    go_region
    go_wp2_with fail
    clear hcp
    go_region
    go_wp2_with fail
    go_end0
    exact HH.out
  · by_cases c' : at_ < at'
    · have mp : 0 < m := by have := HM.out; omega
      obtain ⟨rfl, hgp, hrow⟩ := HB.out.hA mp
      obtain ⟨w1, hcp, hrow1, ho1⟩ := copy_row (P := Tryz.prog) w.drew (dT := 116) (sT := 116) Tryz.underlying116 infoSize (show w.drew.rowIs g 115 m F from hrow) at_ (m - at_) (m - at_)
        (B := w.heap.size) (A := some ⟨g, at_ + gap, none⟩) (sLen := at' + gap - (at_ + gap)) (sCap := m - (at_ + gap)) (cs := fun j => F (at_ + gap + j))
        (fun _ => ⟨g, at_ + gap, rfl, hrow.lt, fun j hj => hrow.cell (by omega)⟩) (fun j => HB.out.one _) (at' - at_) (by simp only [Nat.min_def]; rw [if_pos (by omega)]; omega) (by omega)
      have ne1 : ¬ m = at_ := by have := HM.out; omega
      have ne2 : ¬ m = at_ + gap := by have := HM.out; omega
      have cc : (at_ : Int) ≤ (at' : Int) := by omega
      have plt : p < w.drew.heap.size := HB.out.hp.lt
      have hgp' : p ≠ g := fun e => hgp e.symm
      have q0 : w1.cell? ⟨p, 0, none⟩ = some (.slice (some ⟨g, 0, none⟩) m m) := (ho1.cell plt hgp' 0).trans c0
      have q1 : w1.cell? ⟨p, 1, none⟩ = some (.int .i64 at_) := (ho1.cell plt hgp' 1).trans c1
      have q2 : w1.cell? ⟨p, 2, none⟩ = some (.int .i64 gap) := (ho1.cell plt hgp' 2).trans c2
      have qz : ∀ i, w1.frozen? ⟨p, i, none⟩ = false := fun i => (ho1.frozen plt hgp' i).trans (fz i)
      have hp1 : w1.rowIs p 186 3 (bufCells (some ⟨g, 0, none⟩) m at_ gap) := ho1.row (show w.drew.rowIs p _ 3 _ from HB.out.hp) hgp'
      have fin : ∀ X : Option Addr, (0 < gap → X = some ⟨g, at', none⟩) → ∃ w2, (∀ ty, (Builtin.clear_ #[116] ty #[.slice X gap (m - at')]).run Tryz.prog (w1.setCell ⟨p, 1, none⟩ (.int .i64 at')).drew = .ok (.tuple #[]) w2) ∧
          BringPost w p g m n at' gap (some ⟨g, 0, none⟩) l (.returned (.tuple #[])) w2 := by
        intro X hX
        obtain ⟨w2, hcl, hrow2, ho2⟩ := clear_row (P := Tryz.prog) (w1.setCell ⟨p, 1, none⟩ (.int .i64 at')).drew Tryz.underlying116 zeroE rfl rfl (show (w1.setCell ⟨p, 1, none⟩ (.int .i64 at')).drew.rowIs g 115 m _ from hrow1.setOther hgp _)
          X at' gap (m - at') hX b2
        have hp2 : w2.rowIs p 186 3 (bufCells (some ⟨g, 0, none⟩) m at' gap) := ho2.row (by have := hp1.set 1 (.int .i64 (at' : Int)); rw [bufCells_at] at this; exact this) hgp'
        refine ⟨w2, hcl, rfl, ⟨_, hp2, fun _ => ⟨rfl, hgp, hrow2⟩, HM.out, ha, fun j hj => ?_, fun j h1 h2 => ?_, hn, hm2, spliced_one (spliced_one HB.out.one fun j => HB.out.one _) fun _ => rfl⟩, ?_⟩
        · rw [clear_lo hj]
          have := moved_lo HB.out ha j hj
          unfold moved at this; rwa [if_neg c] at this
        · rw [clear_hi h1]
          have := moved_hi HB.out ha j h1 h2
          unfold moved at this; rwa [if_neg c] at this
        · exact ((Only2.of_only ho1 (.inr rfl)).drewL.setCell p 1 (.inl rfl) _).drew.trans (Only2.of_only ho2 (.inr rfl)) (.inl rfl)
      by_cases ne3 : m = at'
      · obtain ⟨w2, hcl, HB2⟩ := fin (some ⟨g, 0, none⟩) (fun hg => by have := HM.out; omega)
        have HH := Lib.hid HB2
        obtain rfl : gap = 0 := by have := HM.out; omega
        clear HB2 fin hp1 hrow1 ho1
        subst ne3
        simp only [Nat.add_zero, Nat.sub_self] at hcp hcl ne2 b3 b2
        go_enter Tryz.func149, Tryz.ntmps149
        go_wp2_with fail
        go_region
        go_wp2_with fail
        clear hcp
        go_region
        go_wp2_with fail
        go_end0
        exact HH.out
      · obtain ⟨w2, hcl, HB2⟩ := fin (some ⟨g, at', none⟩) (fun hg => rfl)
        have HH := Lib.hid HB2
        clear HB2 fin hp1 hrow1 ho1
        go_enter Tryz.func149, Tryz.ntmps149
        go_wp2_with fail
        go_region
        go_wp2_with fail
        clear hcp
        go_region
        go_wp2_with fail
        go_end0
        exact HH.out
    · obtain rfl : at_ = at' := by omega
      have hcp : ∀ (W : World) (dp sp : Option Addr) (dLen dCap sCap : Nat) ty, (Builtin.copy_ #[116, 116] ty #[.slice dp dLen dCap, .slice sp 0 sCap]).run Tryz.prog W = .ok (goInt 0) W :=
        fun W dp sp dLen dCap sCap => copy_nothing W Tryz.underlying116 infoSize dp sp dLen dCap 0 sCap (.inl rfl)
      by_cases m0 : m = 0
      · obtain rfl : gap = 0 := by omega
        obtain rfl : at_ = 0 := by omega
        subst m0
        have hcl : ∀ (W : World) (sp : Option Addr) (sCap : Nat) ty, (Builtin.clear_ #[116] ty #[.slice sp 0 sCap]).run Tryz.prog W = .ok (.tuple #[]) W := by
          intro W sp sCap ty
          rcases sp with _ | a <;> simp [Builtin.clear_, run_underlying Tryz.underlying116]
        have H : ∀ q, BringPost w p g 0 n 0 0 A l (.returned (.tuple #[])) ((w.setCell ⟨p, 1, none⟩ (.int .i64 0)).drewN q) := by
          intro q
          refine ⟨rfl, ⟨F, ?_, fun h => absurd h (by omega), HM.out, ha, HB.out.lo, HB.out.hi, hn, hm2, HB.out.one⟩, ((Only2.refl w p g).setCell p 1 (.inl rfl) _).drewN q⟩
          have := HB.out.hp.set 1 (.int .i64 ((0 : Nat) : Int))
          rw [bufCells_at] at this
          exact this
        have HH := Lib.hid H
        clear H
        go_enter Tryz.func149, Tryz.ntmps149
        go_wp2_with fail
        go_region
        go_wp2_with fail
        go_region
        go_wp2_with fail
        go_end0
        exact HH.out 2
      · obtain ⟨rfl, hgp, hrow⟩ := HB.out.hA (by omega)
        have plt : p < w.drew.heap.size := HB.out.hp.lt
        have hgp' : p ≠ g := fun e => hgp e.symm
        have hp1 : w.rowIs p 186 3 (bufCells (some ⟨g, 0, none⟩) m at_ gap) := HB.out.hp
        have fin : ∀ X : Option Addr, (0 < gap → X = some ⟨g, at_, none⟩) → ∃ w2, (∀ ty, (Builtin.clear_ #[116] ty #[.slice X gap (m - at_)]).run Tryz.prog (w.setCell ⟨p, 1, none⟩ (.int .i64 at_)).drew.drew = .ok (.tuple #[]) w2) ∧
            BringPost w p g m n at_ gap (some ⟨g, 0, none⟩) l (.returned (.tuple #[])) w2 := by
          intro X hX
          obtain ⟨w2, hcl, hrow2, ho2⟩ := clear_row (P := Tryz.prog) (w.setCell ⟨p, 1, none⟩ (.int .i64 at_)).drew.drew Tryz.underlying116 zeroE rfl rfl (show (w.setCell ⟨p, 1, none⟩ (.int .i64 at_)).drew.drew.rowIs g 115 m _ from hrow.setOther hgp _)
            X at_ gap (m - at_) hX b2
          have hp2 : w2.rowIs p 186 3 (bufCells (some ⟨g, 0, none⟩) m at_ gap) := ho2.row (by have := hp1.set 1 (.int .i64 (at_ : Int)); rw [bufCells_at] at this; exact this) hgp'
          refine ⟨w2, hcl, rfl, ⟨_, hp2, fun _ => ⟨rfl, hgp, hrow2⟩, HM.out, ha, fun j hj => ?_, fun j h1 h2 => ?_, hn, hm2, spliced_one HB.out.one fun _ => rfl⟩, ?_⟩
          · rw [clear_lo hj]; exact HB.out.lo j hj
          · rw [clear_hi h1]; exact HB.out.hi j h1 h2
          · exact ((Only2.refl w p g).setCell p 1 (.inl rfl) _).drew.drew.trans (Only2.of_only ho2 (.inr rfl)) (.inl rfl)
        by_cases ne3 : m = at_
        · obtain ⟨w2, hcl, HB2⟩ := fin (some ⟨g, 0, none⟩) (fun hg => by have := HM.out; omega)
          have HH := Lib.hid HB2
          obtain rfl : gap = 0 := by have := HM.out; omega
          clear HB2 fin hp1 hrow
          subst ne3
          simp only [Nat.sub_self] at hcl
          go_enter Tryz.func149, Tryz.ntmps149
          go_wp2_with fail
          go_region
          go_wp2_with fail
          clear hcp
          go_region
          go_wp2_with fail
          go_end0
          exact HH.out
        · obtain ⟨w2, hcl, HB2⟩ := fin (some ⟨g, at_, none⟩) (fun hg => rfl)
          have HH := Lib.hid HB2
          clear HB2 fin hp1 hrow
          by_cases ne4 : m = at_ + gap
          · subst ne4
            have e4 : at_ + gap - at_ = gap := by omega
            simp only [e4] at hcl
            go_enter Tryz.func149, Tryz.ntmps149
            go_wp2_with fail
            go_region
            go_wp2_with fail
            clear hcp
            go_region
            go_wp2_with fail
            go_end0
            exact HH.out
          · go_enter Tryz.func149, Tryz.ntmps149
            go_wp2_with fail
            go_region
            go_wp2_with fail
            clear hcp
            go_region
            go_wp2_with fail
            go_end0
            exact HH.out
end GapU
end Go.Proofs.YtfmfmeiaekknbaaGreat
end

section
/-
  Contracts of package gaps at elements of type uint64: widen, Insert, Remove, List, New.
-/
namespace Go.Proofs.YtfmfmeiaekknbaaGreat
namespace GapU
open Go.RowKit
set_option linter.unusedVariables false

theorem infoE : (Tryz.prog.info? 115).map (fun i => (i.zero, i.size, i.bytes)) = some (some (.int .u64 0), 1, 8) := by kernel_rfl
theorem make_e (n : Nat) (x : Int) (hx : x = (n : Int)) (hn : n ≤ 1000000) (W : World) :
    (Instr.makeSlice 116 (.int .i64 x) (.int .i64 x)).run Tryz.prog W = .ok (.slice (some ⟨W.heap.size, 0, none⟩) n n) (W.alloc (.cells (madeCells #[.int .u64 0] n) 115)) := by
  subst hx
  exact run_make_row' 116 115 (.int .u64 0) 8 Tryz.underlying116 infoE rfl .i64 .i64 n (by omega) (by omega) W

/-- What List returns. -/
def ListPost (w : World) (n : Nat) (l : Nat → Int) (e : Ending) (w' : World) : Prop :=
  ∃ A, e = .returned (.slice A n n) ∧ (0 < n → ∃ g, A = some ⟨g, 0, none⟩ ∧ w.heap.size ≤ g ∧ w'.rowIs g 115 n (fun j => .int .u64 (l j))) ∧ Below w.heap.size w w' ∧ (n = 0 → A = none)

end GapU
end Go.Proofs.YtfmfmeiaekknbaaGreat
end

section
/-
  Contracts of package gaps at elements of type uint64: widen, Insert, Remove, New.
-/
namespace Go.Proofs.YtfmfmeiaekknbaaGreat
namespace GapU
open Go.RowKit
set_option linter.unusedVariables false

/-- What widen leaves. -/
def WidenPost (w : World) (p g n at_ k : Nat) (l : Nat → Int) (e : Ending) (w' : World) : Prop :=
  e = .returned (.tuple #[]) ∧ (∃ g' m' gap' A' F', BG w' p g' m' n at_ gap' A' F' l ∧ k ≤ gap' ∧ (g' = g ∨ w.heap.size ≤ g')) ∧ Only2 w w' p p

set_option maxRecDepth 100000 in
set_option maxHeartbeats 1600000 in
theorem widen_any (w : World) (p g m n at_ gap : Nat) (A : Option Addr) (F : Nat → Value) (l : Nat → Int) (h : BG w p g m n at_ gap A F l) (k : Nat) (hk : k ≤ 4096) :
    Calls Tryz.prog 150 #[.pointer (some ⟨p, 0, none⟩), .int .i64 k] w (WidenPost w p g n at_ k l) := by
  have HB := Lib.hid h
  obtain ⟨c0, c1, c2, fz⟩ := cells_of h.hp
  have hm2 := h.hm2
  have hn := h.hn
  have hat := h.hat
  have HM := Lib.hid h.hm
  have b0 : gap ≤ m := by have := HM.out; omega
  clear h
  by_cases ck : k ≤ gap
  · have H : WidenPost w p g n at_ k l (.returned (.tuple #[])) w := ⟨rfl, ⟨g, m, gap, A, F, HB.out, ck, .inl rfl⟩, Only2.refl _ _ _⟩
    have HH := Lib.hid H
    clear H
    go_enter Tryz.func150, Tryz.ntmps150
    go_wp2_with fail
    go_end0
    exact HH.out
  · obtain ⟨G, hG⟩ : ∃ G : Nat, G = k + m / 2 + 8 := ⟨_, rfl⟩
    have g1 : ((k : Int) + (m : Int) / 2 + 8) = (G : Int) := by omega
    have g2 : k ≤ G := by omega
    have g3 : n + G ≤ 20000 := by omega
    have g4 : G ≤ 20000 := by omega
    have HG := Lib.hid hG
    clear hG
    have HL := Lib.hid (show Buf w 0 p n at_ l from ⟨g, m, gap, A, F, HB.out, Nat.zero_le _, fun _ => Nat.zero_le _⟩)
    have ck' : ¬ (k : Int) ≤ (gap : Int) := by omega
    go_enter Tryz.func150, Tryz.ntmps150
    go_wp2_with fail
    refine (len_any w 0 p n at_ l HL.out).mono ?_
    rintro e w2 ⟨rfl, hd⟩
    have HBG := Lib.hid (HB.out.drawn hd)
    have hmk := make_e (n + G) ((n : Int) + (G : Int)) (by omega) (by omega)
    have d0 : w2.cell? ⟨p, 0, none⟩ = some (.slice A m m) := (hd.cell _).trans c0
    have d1 : w2.cell? ⟨p, 1, none⟩ = some (.int .i64 at_) := (hd.cell _).trans c1
    have d2 : w2.cell? ⟨p, 2, none⟩ = some (.int .i64 gap) := (hd.cell _).trans c2
    have dz : ∀ i, w2.frozen? ⟨p, i, none⟩ = false := fun i => HBG.out.hp.frozen i
    have plt : p < w2.heap.size := HBG.out.hp.lt
    have a1 : at_ ≤ m := by have := HM.out; omega
    have a2 : at_ + gap ≤ m := by have := HM.out; omega
    have k1 : Nat.min at_ (n + G) = at_ := by simp only [Nat.min_def]; rw [if_pos (by omega)]
    have k2 : m - (at_ + gap) = n - at_ := by have := HM.out; omega
    have hw : (w2.alloc (.cells (madeCells #[.int .u64 0] (n + G)) 115)).drew.heap.size = w2.heap.size + 1 := by simp
    have sees1 : Sees (w2.alloc (.cells (madeCells #[.int .u64 0] (n + G)) 115)).drew w2.heap.size A at_ F := by
      intro hp
      obtain ⟨rfl, _, hrow⟩ := HBG.out.hA (by omega)
      exact ⟨g, 0, rfl, hrow.lt, fun j hj => by rw [Nat.zero_add]; exact (hrow.alloc _).cell (by omega)⟩
    obtain ⟨w3, hcp, hrow3, ho3⟩ := copy_row (P := Tryz.prog) (w2.alloc (.cells (madeCells #[.int .u64 0] (n + G)) 115)).drew (dT := 116) (sT := 116) Tryz.underlying116 infoSize
      (show (w2.alloc (.cells (madeCells #[.int .u64 0] (n + G)) 115)).drew.rowIs w2.heap.size 115 (n + G) (fun _ => .int .u64 0) from World.rowIs_made w2 _ (n + G) _) 0 (n + G) (n + G)
      (B := w2.heap.size) (A := A) (sLen := at_) (sCap := m) (cs := F) sees1 HBG.out.one at_ k1.symm (by omega)
    have q0 : w3.cell? ⟨p, 0, none⟩ = some (.slice A m m) := (ho3.cell (by rw [hw]; omega) (by omega) 0).trans ((World.cell?_alloc_past _ p 0 plt).trans d0)
    have q1 : w3.cell? ⟨p, 1, none⟩ = some (.int .i64 at_) := (ho3.cell (by rw [hw]; omega) (by omega) 1).trans ((World.cell?_alloc_past _ p 1 plt).trans d1)
    have q2 : w3.cell? ⟨p, 2, none⟩ = some (.int .i64 gap) := (ho3.cell (by rw [hw]; omega) (by omega) 2).trans ((World.cell?_alloc_past _ p 2 plt).trans d2)
    have qz : ∀ i, w3.frozen? ⟨p, i, none⟩ = false := fun i => (ho3.frozen (by rw [hw]; omega) (by omega) i).trans ((World.frozen?_alloc_past _ p i plt).trans (dz i))
    have hp3 : w3.rowIs p 186 3 (bufCells A m at_ gap) := ho3.row (HBG.out.hp.alloc _) (by omega)
    have e3 : w2.heap.size ≤ w3.heap.size := by have := ho3.size; rw [hw] at this; omega
    have hb3 : Only2 w w3 p w2.heap.size := by
      have x1 : Only2 w (w2.alloc (.cells (madeCells #[.int .u64 0] (n + G)) 115)).drew p w2.heap.size := ((Only2.of_drawn hd).alloc _).drew
      exact x1.trans (Only2.of_only ho3 (.inr rfl)) (.inl rfl)
    -- the second copy: from at_ + G on
    have fin : ∀ X : Option Addr, (at_ < n → X = some ⟨g, at_ + gap, none⟩) → ∃ w4, (∀ ty, (Builtin.copy_ #[116, 116] ty #[.slice (some ⟨w2.heap.size, at_ + G, none⟩) (n + G - (at_ + G)) (n + G - (at_ + G)), .slice X (m - (at_ + gap)) (m - (at_ + gap))]).run Tryz.prog w3.drew = .ok (goInt (n - at_ : Nat)) w4) ∧
        w4.rowIs w2.heap.size 115 (n + G) (spliced (spliced (fun _ => .int .u64 0) 0 at_ F) (at_ + G) (n - at_) fun j => F (at_ + gap + j)) ∧ Only w3.drew w4 w2.heap.size := by
      intro X hX
      refine copy_row (P := Tryz.prog) w3.drew (dT := 116) (sT := 116) Tryz.underlying116 infoSize (show w3.drew.rowIs w2.heap.size 115 (n + G) _ from hrow3) (at_ + G) (n + G - (at_ + G)) (n + G - (at_ + G))
        (B := w2.heap.size) (A := X) (sLen := m - (at_ + gap)) (sCap := m - (at_ + gap)) (cs := fun j => F (at_ + gap + j)) ?_ (fun j => HBG.out.one _) (n - at_) (by rw [k2, show n + G - (at_ + G) = n - at_ from by omega]; simp only [Nat.min_def]; rw [if_pos (Nat.le_refl _)]) (by omega)
      intro hp
      have hlt : at_ < n := by omega
      obtain ⟨_, _, hrow⟩ := HBG.out.hA (by omega)
      have hrg : w3.rowIs g 115 m F := ho3.row (hrow.alloc _) (by have := hrow.lt; omega)
      exact ⟨g, at_ + gap, hX hlt, hrow.lt, fun j hj => hrg.cell (by omega)⟩
    have done : ∀ w4, w4.rowIs w2.heap.size 115 (n + G) (spliced (spliced (fun _ => .int .u64 0) 0 at_ F) (at_ + G) (n - at_) fun j => F (at_ + gap + j)) → Only w3.drew w4 w2.heap.size →
        WidenPost w p g n at_ k l (.returned (.tuple #[])) ((w4.setCell ⟨p, 0, none⟩ (.slice (some ⟨w2.heap.size, 0, none⟩) (n + G) (n + G))).setCell ⟨p, 2, none⟩ (.int .i64 G)) := by
      intro w4 hrow4 ho4
      have hp4 : w4.rowIs p 186 3 (bufCells A m at_ gap) := ho4.row (show w3.drew.rowIs p _ 3 _ from hp3) (by omega)
      refine ⟨rfl, ⟨w2.heap.size, n + G, G, some ⟨w2.heap.size, 0, none⟩, _, ⟨?_, fun _ => ⟨rfl, by omega, (hrow4.setOther (by show w2.heap.size ≠ p; omega) _).setOther (by show w2.heap.size ≠ p; omega) _⟩, rfl, hat, fun j hj => ?_, fun j h1 h2 => ?_, hn, by omega, ?_⟩, g2, .inr (by rw [hd.size]; exact Nat.le_refl _)⟩, ?_⟩
      · refine ((hp4.set 0 (.slice (some ⟨w2.heap.size, 0, none⟩) (n + G) (n + G))).set 2 (.int .i64 (G : Int))).congr (fun j hj => ?_)
        match j, hj with
        | 0, _ => rfl
        | 1, _ => rfl
        | 2, _ => rfl
      · unfold spliced
        rw [if_neg (by omega), if_pos (by omega)]
        exact HBG.out.lo j hj
      · unfold spliced
        rw [if_pos (by omega)]
        show F (at_ + gap + (j + G - (at_ + G))) = _
        rw [show at_ + gap + (j + G - (at_ + G)) = j + gap from by omega]
        exact HBG.out.hi j h1 h2
      · exact spliced_one (spliced_one (fun _ => rfl) HBG.out.one) fun j => HBG.out.one _
      · have x := hb3.trans (Only2.of_only ho4 (.inr rfl)).drewL (.inr (.inr (by rw [hd.size]; exact Nat.le_refl _)))
        have y := (x.setCell p 0 (.inl rfl) (.slice (some ⟨w2.heap.size, 0, none⟩) (n + G) (n + G))).setCell p 2 (.inl rfl) (.int .i64 (G : Int))
        exact ⟨y.os, y.tape, y.output, y.size, fun b hb h1 _ => y.block b hb h1 (by rw [hd.size]; omega)⟩
    have done0 : n = at_ → WidenPost w p g n at_ k l (.returned (.tuple #[])) ((w3.drew.setCell ⟨p, 0, none⟩ (.slice (some ⟨w2.heap.size, 0, none⟩) (n + G) (n + G))).setCell ⟨p, 2, none⟩ (.int .i64 G)) := by
      intro e
      refine done w3.drew (World.rowIs.drew (hrow3.congr fun j hj => ?_)) (Only.refl _ _)
      unfold spliced
      rw [if_neg (show ¬ (at_ + G ≤ j ∧ j < at_ + G + (n - at_)) by omega)]
    have HDONE := Lib.hid done
    have HDONE0 := Lib.hid done0
    have HO3 := Lib.hid ho3
    clear done done0 hrow3 hp3 hb3 hw k1 sees1 ho3
    by_cases e1 : n = at_
    · subst e1
      -- nothing stands behind the gap
      have HD := Lib.hid (HDONE0.out rfl)
      obtain rfl : m = n + gap := HM.out
      have hcn : ∀ (W : World) (dp sp : Option Addr) (dLen dCap sCap : Nat) ty, (Builtin.copy_ #[116, 116] ty #[.slice dp dLen dCap, .slice sp 0 sCap]).run Tryz.prog W = .ok (goInt 0) W :=
        fun W dp sp dLen dCap sCap => copy_nothing W Tryz.underlying116 infoSize dp sp dLen dCap 0 sCap (.inl rfl)
      clear fin HDONE HDONE0 k2
      go_wp2_with fail
      clear hmk
      go_region
      go_wp2_with fail
      clear hcp
      go_region
      go_wp2_with fail
      go_end0
      exact HD.out
    · have hA := HBG.out.hA (by omega)
      obtain ⟨rfl, hgp, _⟩ := hA
      obtain ⟨w4, hcp2, hr4, ho4⟩ := fin (some ⟨g, at_ + gap, none⟩) (fun _ => rfl)
      have HD := Lib.hid (HDONE.out w4 hr4 ho4)
      have hw3 : w3.drew.heap.size = w3.heap.size := rfl
      have r0 : w4.cell? ⟨p, 0, none⟩ = some (.slice (some ⟨g, 0, none⟩) m m) := (ho4.cell (by rw [hw3]; omega) (by omega) 0).trans q0
      have r2 : w4.cell? ⟨p, 2, none⟩ = some (.int .i64 gap) := (ho4.cell (by rw [hw3]; omega) (by omega) 2).trans q2
      have rz : ∀ i, w4.frozen? ⟨p, i, none⟩ = false := fun i => (ho4.frozen (by rw [hw3]; omega) (by omega) i).trans (qz i)
      have ne1 : ¬ n + G = at_ + G := by omega
      have ne2 : ¬ m = at_ + gap := by have := HM.out; omega
      clear hr4 ho4 fin HDONE HDONE0 hw3 k2
      go_wp2_with fail
      clear hmk
      go_region
      go_wp2_with fail
      clear hcp
      go_region
      go_wp2_with fail
      go_end0
      exact HD.out
end GapU
end Go.Proofs.YtfmfmeiaekknbaaGreat
end

section
/-
  Contracts of package gaps at elements of type uint64: Insert, Remove, Move, New.
-/
namespace Go.Proofs.YtfmfmeiaekknbaaGreat
namespace GapU
open Go.RowKit
set_option linter.unusedVariables false

/-- The list with k elements more, from place i on. -/
def ins (l : Nat → Int) (i k : Nat) (f : Nat → Int) : Nat → Int := fun j => if j < i then l j else if j < i + k then f (j - i) else l (j - k)
/-- The list without k elements. -/
def rem (l : Nat → Int) (i k : Nat) : Nat → Int := fun j => if j < i then l j else l (j + k)

theorem chk_ok {n i k : Nat} (h : i + k ≤ n) : chkErr n i k = 0 := by unfold chkErr; rw [if_neg (by omega)]

/-- check on a range that there is. -/
theorem check_ok (w : World) (B p n at_ : Nat) (l : Nat → Int) (h : Buf w B p n at_ l) (i k : Nat) (hi : i + k ≤ n) :
    Calls Tryz.prog 118 #[.pointer (some ⟨p, 0, none⟩), .int .i64 i, .int .i64 k] w fun e w' => e = .returned (.int .i64 0) ∧ Drawn w w' := by
  have hn := h.le.2.2
  have := check_any w B p n at_ l h i k ⟨by omega, by omega⟩ ⟨by omega, by omega⟩
  rwa [chk_ok hi] at this
theorem BG.buf0 {w : World} {p g m n at_ gap : Nat} {A : Option Addr} {F : Nat → Value} {l : Nat → Int} (h : BG w p g m n at_ gap A F l) : Buf w 0 p n at_ l := ⟨g, m, gap, A, F, h, Nat.zero_le _, fun _ => Nat.zero_le _⟩

/-- What Insert leaves. -/
def InsPost (w : World) (p g n i k : Nat) (l' : Nat → Int) (e : Ending) (w' : World) : Prop :=
  e = .returned (.int .i64 0) ∧ (∃ g' m' gap' A' F', BG w' p g' m' (n + k) (i + k) gap' A' F' l' ∧ (g' = g ∨ w.heap.size ≤ g')) ∧ Only2 w w' p g

set_option maxRecDepth 100000 in
set_option maxHeartbeats 1600000 in
theorem insert_raw (w : World) (p g m n at_ gap : Nat) (A : Option Addr) (F : Nat → Value) (l : Nat → Int) (h : BG w p g m n at_ gap A F l) (i k : Nat) (x : Int) (hx : x = (i : Int)) (hi : i ≤ n) (hk : 0 < k) (hnk : n + k ≤ 4096)
    (b o c' : Nat) (f : Nat → Int) (hb : b < w.heap.size) (hbp : b ≠ p) (hbg : b ≠ g) (hc : ∀ j, j < k → w.cell? ⟨b, o + j, none⟩ = some (.int .u64 (f j))) :
    Calls Tryz.prog 117 #[.pointer (some ⟨p, 0, none⟩), .int .i64 x, .slice (some ⟨b, o, none⟩) k c'] w (InsPost w p g n i k (ins l i k f)) := by
  subst hx
  have HB := Lib.hid h
  clear h
  have hne : ((k : Int) == 0) = false := by simp; omega
  have HC := Lib.hid hc
  clear hc
  go_enter Tryz.func117, Tryz.ntmps117
  go_wp2_with fail
  refine (check_ok w 0 p n at_ l HB.out.buf0 i 0 (by omega)).mono ?_
  rintro e w1 ⟨rfl, hd1⟩
  go_wp2_with fail
  refine (len_any w1 0 p n at_ l (HB.out.drawn hd1).buf0).mono ?_
  rintro e w2 ⟨rfl, hd2⟩
  have hd := hd1.trans hd2
  have h2 := HB.out.drawn hd
  have HB2 := Lib.hid h2
  clear h2 hd1 hd2
  go_wp2_with fail
  refine (bring_any w2 p g m n at_ gap A F l HB2.out i hi).mono ?_
  rintro e w3 ⟨rfl, ⟨F3, h3⟩, o3⟩
  have HB3 := Lib.hid h3
  have HO3 := Lib.hid o3
  clear h3 o3
  go_wp2_with fail
  refine (widen_any w3 p g m n i gap A F3 l HB3.out k (by omega)).mono ?_
  rintro e w4 ⟨rfl, ⟨g4, m4, gap4, A4, F4, h4, hgap, hg4⟩, o4⟩
  have b0 : gap4 ≤ m4 := by have := h4.hm; omega
  have b1 : n + gap4 = m4 := h4.hm.symm
  have b2 := h4.hm2
  obtain ⟨rfl, hgp, hrow⟩ := h4.hA (by omega)
  obtain ⟨c0, c1, c2, fz⟩ := cells_of h4.hp
  have hbs : b < w4.heap.size := by have := HO3.out.size; have := o4.size; rw [hd.size] at *; omega
  have s2 : w2.heap.size = w.heap.size := hd.size
  have hcell : ∀ j, j < k → w4.cell? ⟨b, o + j, none⟩ = some (.int .u64 (f j)) := by
    intro j hj
    have e4 : w4.heap[b]? = w3.heap[b]? := o4.block b (by have := HO3.out.size; omega) hbp hbp
    have e3 : w3.heap[b]? = w2.heap[b]? := HO3.out.block b (by omega) hbp hbg
    have := HC.out j hj
    rw [← hd.cell] at this
    rw [World.cell?_of_block (w := w3) (a := ⟨b, o + j, none⟩) e4, World.cell?_of_block (w := w2) (a := ⟨b, o + j, none⟩) e3]
    exact this
  have hbg4 : b ≠ g4 := by
    rcases hg4 with e | e
    · rw [e]; exact hbg
    · have := HO3.out.size; omega
  obtain ⟨w5, hcp, hrow5, ho5⟩ := copy_row (P := Tryz.prog) w4.drew (dT := 116) (sT := 116) Tryz.underlying116 infoSize (show w4.drew.rowIs g4 115 m4 F4 from hrow) i (m4 - i) (m4 - i)
    (B := w4.heap.size) (A := some ⟨b, o, none⟩) (sLen := k) (sCap := c') (cs := fun j => .int .u64 (f j)) (fun _ => ⟨b, o, rfl, hbs, fun j hj => hcell j hj⟩) (fun _ => rfl) k (by simp only [Nat.min_def]; rw [if_pos (by omega)]) (by omega)
  have plt : p < w4.drew.heap.size := h4.hp.lt
  have hgp' : p ≠ g4 := fun e => hgp e.symm
  have q0 : w5.cell? ⟨p, 0, none⟩ = some (.slice (some ⟨g4, 0, none⟩) m4 m4) := (ho5.cell plt hgp' 0).trans c0
  have q1 : w5.cell? ⟨p, 1, none⟩ = some (.int .i64 i) := (ho5.cell plt hgp' 1).trans c1
  have q2 : w5.cell? ⟨p, 2, none⟩ = some (.int .i64 gap4) := (ho5.cell plt hgp' 2).trans c2
  have qz : ∀ i, w5.frozen? ⟨p, i, none⟩ = false := fun i => (ho5.frozen plt hgp' i).trans (fz i)
  have hp5 : w5.rowIs p 186 3 (bufCells (some ⟨g4, 0, none⟩) m4 i gap4) := ho5.row (show w4.drew.rowIs p _ 3 _ from h4.hp) hgp'
  have fin : InsPost w p g n i k (ins l i k f) (.returned (.int .i64 0)) ((w5.setCell ⟨p, 1, none⟩ (.int .i64 ((i : Int) + (k : Int)))).setCell ⟨p, 2, none⟩ (.int .i64 ((gap4 : Int) - (k : Int)))) := by
    have hg40 : g4 = g ∨ w.heap.size ≤ g4 := by
      rcases hg4 with e | e
      · exact .inl e
      · right; have := HO3.out.size; omega
    refine ⟨rfl, ⟨g4, m4, gap4 - k, some ⟨g4, 0, none⟩, _, ⟨?_, fun _ => ⟨rfl, hgp, (hrow5.setOther (by show g4 ≠ p; exact hgp) _).setOther (by show g4 ≠ p; exact hgp) _⟩, by omega, by omega, fun j hj => ?_, fun j h1 h2 => ?_, hnk, b2, ?_⟩, hg40⟩, ?_⟩
    · refine ((hp5.set 1 (.int .i64 ((i : Int) + (k : Int)))).set 2 (.int .i64 ((gap4 : Int) - (k : Int)))).congr (fun j hj => ?_)
      match j, hj with
      | 0, _ => rfl
      | 1, _ => show Value.int .i64 ((i : Int) + (k : Int)) = .int .i64 ((i + k : Nat) : Int); rw [Int.natCast_add]
      | 2, _ => show Value.int .i64 ((gap4 : Int) - (k : Int)) = .int .i64 ((gap4 - k : Nat) : Int); congr 1; omega
    · unfold spliced ins
      by_cases d : j < i
      · rw [if_neg (by omega), if_pos d]; exact h4.lo j d
      · rw [if_pos (by omega), if_neg d, if_pos hj]
    · unfold spliced ins
      rw [if_neg (by omega), if_neg (by omega), if_neg (by omega), show j + (gap4 - k) = j - k + gap4 from by omega]
      exact h4.hi (j - k) (by omega) (by omega)
    · exact spliced_one h4.one fun _ => rfl
    · have x2 : Only2 w w3 p g := (Only2.of_drawn hd).trans HO3.out (.inl rfl)
      have x3 : Only2 w w4 p g := x2.trans o4 (.inr (.inl rfl))
      have x4 : Only2 w w5 p g := by
        rcases hg40 with e | e
        · subst e; exact x3.trans (Only2.of_only ho5 (.inr rfl)).drewL (.inl rfl)
        · exact x3.trans (Only2.of_only (p := p) (g := g4) ho5 (.inr rfl)).drewL (.inr (.inr e))
      exact (x4.setCell p 1 (.inl rfl) _).setCell p 2 (.inl rfl) _
  have HH := Lib.hid fin
  have ne1 : ¬ m4 = i := by omega
  have j1 : (i : Int) + (k : Int) ≤ 4096 := by omega
  have j2 : (0 : Int) ≤ (gap4 : Int) - (k : Int) := by omega
  have j3 : i ≤ m4 := by omega
  clear fin hrow hrow5 ho5 hp5 o4 hcell b1
  go_wp2_with fail
  go_region
  go_wp2_with fail
  go_ret
  exact HH.out

theorem BG.zero_g {w : World} {p g n at_ gap : Nat} {A : Option Addr} {F : Nat → Value} {l : Nat → Int} (h : BG w p g 0 n at_ gap A F l) : BG w p p 0 n at_ gap A F l :=
  ⟨h.hp, fun h => absurd h (by omega), h.hm, h.hat, h.lo, h.hi, h.hn, h.hm2, h.one⟩
/-- A buffer by its blocks, both at B or above. -/
theorem Buf.open_ {w : World} {B p n at_ : Nat} {l : Nat → Int} (h : Buf w B p n at_ l) : ∃ g m gap A F, BG w p g m n at_ gap A F l ∧ B ≤ p ∧ B ≤ g ∧ g < w.heap.size := by
  obtain ⟨g, m, gap, A, F, h1, h2, h3⟩ := h
  by_cases m0 : 0 < m
  · exact ⟨g, m, gap, A, F, h1, h2, h3 m0, (h1.hA m0).2.2.lt⟩
  · obtain rfl : m = 0 := by omega
    exact ⟨p, 0, gap, A, F, h1.zero_g, h2, h2, h1.hp.lt⟩

/-- What a change of the buffer leaves. -/
def ChgPost (w : World) (B p n' at' : Nat) (l' : Nat → Int) (e : Ending) (w' : World) : Prop :=
  e = .returned (.int .i64 0) ∧ Buf w' B p n' at' l' ∧ Below B w w'

/-- Insert, the source apart from the buffer's blocks. -/
theorem insert_ok (w : World) (B p n at_ : Nat) (l : Nat → Int) (h : Buf w B p n at_ l) (i k : Nat) (x : Int) (hx : x = (i : Int)) (hi : i ≤ n) (hk : 0 < k) (hnk : n + k ≤ 4096) (A' : Option Addr) (c' : Nat) (f : Nat → Int)
    (hs : Sees w B A' k fun j => .int .u64 (f j)) :
    Calls Tryz.prog 117 #[.pointer (some ⟨p, 0, none⟩), .int .i64 x, .slice A' k c'] w (ChgPost w B p (n + k) (i + k) (ins l i k f)) := by
  obtain ⟨g, m, gap, A, F, h1, h2, h3, h4⟩ := h.open_
  obtain ⟨b, o, rfl, hb, hc⟩ := hs hk
  have plt := h1.hp.lt
  refine (insert_raw w p g m n at_ gap A F l h1 i k x hx hi hk hnk b o c' f (by omega) (by omega) (by omega) hc).mono ?_
  rintro e w' ⟨rfl, ⟨g', m', gap', A'', F', q1, q2⟩, q3⟩
  exact ⟨rfl, ⟨g', m', gap', A'', F', q1, h2, fun _ => by omega⟩, q3.below h2 h3 (by omega)⟩

set_option maxHeartbeats 800000 in
theorem insert_none (w : World) (B p n at_ : Nat) (l : Nat → Int) (h : Buf w B p n at_ l) (i : Nat) (x : Int) (hx : x = (i : Int)) (hi : i ≤ n) (A' : Option Addr) (c' : Nat) :
    Calls Tryz.prog 117 #[.pointer (some ⟨p, 0, none⟩), .int .i64 x, .slice A' 0 c'] w fun e w' => e = .returned (.int .i64 0) ∧ Drawn w w' := by
  subst hx
  have HB := Lib.hid h
  have hn := h.le.2.2
  clear h
  go_enter Tryz.func117, Tryz.ntmps117
  go_wp2_with fail
  refine (check_ok w B p n at_ l HB.out i 0 (by omega)).mono ?_
  rintro e w1 ⟨rfl, hd1⟩
  go_wp2_with fail
  refine (len_any w1 B p n at_ l (HB.out.drawn hd1)).mono ?_
  rintro e w2 ⟨rfl, hd2⟩
  go_wp2_with fail
  go_ret
  exact ⟨rfl, hd1.trans hd2⟩
end GapU
end Go.Proofs.YtfmfmeiaekknbaaGreat
end

section
/-
  Contracts of package gaps at elements of type uint64: Remove, Move, New.
-/
namespace Go.Proofs.YtfmfmeiaekknbaaGreat
namespace GapU
open Go.RowKit
set_option linter.unusedVariables false

/-- What Remove leaves, by the blocks. -/
def RemPost (w : World) (p g m n i k gap : Nat) (A : Option Addr) (l' : Nat → Int) (e : Ending) (w' : World) : Prop :=
  e = .returned (.int .i64 0) ∧ (∃ F', BG w' p g m (n - k) i (gap + k) A F' l') ∧ Only2 w w' p g

set_option maxRecDepth 100000 in
set_option maxHeartbeats 1600000 in
theorem remove_raw (w : World) (p g m n at_ gap : Nat) (A : Option Addr) (F : Nat → Value) (l : Nat → Int) (h : BG w p g m n at_ gap A F l) (i k : Nat) (hk : 0 < k) (hi : i + k ≤ n) :
    Calls Tryz.prog 126 #[.pointer (some ⟨p, 0, none⟩), .int .i64 i, .int .i64 k] w (RemPost w p g m n i k gap A (rem l i k)) := by
  have HB := Lib.hid h
  have hn := h.hn
  clear h
  have hne : ((k : Int) == 0) = false := by simp; omega
  go_enter Tryz.func126, Tryz.ntmps126
  go_wp2_with fail
  refine (check_ok w 0 p n at_ l HB.out.buf0 i k hi).mono ?_
  rintro e w1 ⟨rfl, hd⟩
  have HB1 := Lib.hid (HB.out.drawn hd)
  go_wp2_with fail
  refine (bring_any w1 p g m n at_ gap A F l HB1.out i (by omega)).mono ?_
  rintro e w3 ⟨rfl, ⟨F3, h3⟩, o3⟩
  have hm := h3.hm
  have hm2 := h3.hm2
  obtain ⟨rfl, hgp, hrow⟩ := h3.hA (by omega)
  obtain ⟨c0, c1, c2, fz⟩ := cells_of h3.hp
  obtain ⟨w4, hcl, hrow4, ho4⟩ := clear_row (P := Tryz.prog) w3.drew Tryz.underlying116 zeroE rfl rfl (show w3.drew.rowIs g 115 m F3 from hrow) (some ⟨g, i + gap, none⟩) (i + gap) k (m - (i + gap)) (fun _ => rfl) (by omega)
  have plt : p < w3.drew.heap.size := h3.hp.lt
  have hgp' : p ≠ g := fun e => hgp e.symm
  have q0 : w4.cell? ⟨p, 0, none⟩ = some (.slice (some ⟨g, 0, none⟩) m m) := (ho4.cell plt hgp' 0).trans c0
  have q1 : w4.cell? ⟨p, 1, none⟩ = some (.int .i64 i) := (ho4.cell plt hgp' 1).trans c1
  have q2 : w4.cell? ⟨p, 2, none⟩ = some (.int .i64 gap) := (ho4.cell plt hgp' 2).trans c2
  have qz : ∀ i, w4.frozen? ⟨p, i, none⟩ = false := fun i => (ho4.frozen plt hgp' i).trans (fz i)
  have hp4 : w4.rowIs p 186 3 (bufCells (some ⟨g, 0, none⟩) m i gap) := ho4.row (show w3.drew.rowIs p _ 3 _ from h3.hp) hgp'
  have fin : RemPost w p g m n i k gap (some ⟨g, 0, none⟩) (rem l i k) (.returned (.int .i64 0)) (w4.setCell ⟨p, 2, none⟩ (.int .i64 ((gap : Int) + (k : Int)))) := by
    refine ⟨rfl, ⟨_, ⟨?_, fun _ => ⟨rfl, hgp, hrow4.setOther (by show g ≠ p; exact hgp) _⟩, by omega, by omega, fun j hj => ?_, fun j h1 h2 => ?_, by omega, hm2, ?_⟩⟩, ?_⟩
    · refine (hp4.set 2 (.int .i64 ((gap : Int) + (k : Int)))).congr (fun j hj => ?_)
      match j, hj with
      | 0, _ => rfl
      | 1, _ => rfl
      | 2, _ => show Value.int .i64 ((gap : Int) + (k : Int)) = .int .i64 ((gap + k : Nat) : Int); rw [Int.natCast_add]
    · unfold spliced rem
      rw [if_neg (by omega), if_pos hj]; exact h3.lo j hj
    · unfold spliced rem
      rw [if_neg (by omega), if_neg (by omega), show j + (gap + k) = j + k + gap from by omega]
      exact h3.hi (j + k) (by omega) (by omega)
    · exact spliced_one h3.one fun _ => rfl
    · exact (((Only2.of_drawn hd).trans o3 (.inl rfl)).trans (Only2.of_only ho4 (.inr rfl)).drewL (.inl rfl)).setCell p 2 (.inl rfl) _
  have HH := Lib.hid fin
  have ne1 : ¬ m = i + gap := by omega
  have e1 : i + gap + k - (i + gap) = k := by omega
  have j1 : i + gap + k ≤ m := by omega
  have E1 := e1
  clear fin hrow hrow4 ho4 hp4 o3 hm h3
  go_wp2_with fail
  go_region
  go_wp2_with fail
  go_ret
  exact HH.out

/-! ### Move -/
/-- The elements that are taken so far. -/
def takenTo (l : Nat → Int) (i r : Nat) : Nat → Value := fun j => if j < r then .int .u64 (l (i + j)) else .int .u64 0

set_option maxRecDepth 100000 in
set_option maxHeartbeats 1600000 in
theorem move_raw (w : World) (p g m n at_ gap : Nat) (A : Option Addr) (F : Nat → Value) (l : Nat → Int) (h : BG w p g m n at_ gap A F l) (hgl : g < w.heap.size) (i k t : Nat) (hk : 0 < k) (hi : i + k ≤ n) (ht : t + k ≤ n) :
    Calls Tryz.prog 65 #[.pointer (some ⟨p, 0, none⟩), .int .i64 i, .int .i64 k, .int .i64 t] w (InsPost w p g (n - k) t k (ins (rem l i k) t k fun j => l (i + j))) := by
  have HB := Lib.hid h
  have hn := h.hn
  clear h
  have hne : ((k : Int) == 0) = false := by simp; omega
  have htk : ¬ (n : Int) - (k : Int) < (t : Int) := by omega
  go_enter Tryz.func65, Tryz.ntmps65
  go_wp2_with fail
  refine (check_ok w 0 p n at_ l HB.out.buf0 i k hi).mono ?_
  rintro e w1 ⟨rfl, hd1⟩
  go_wp2_with fail
  refine (len_any w1 0 p n at_ l (HB.out.drawn hd1).buf0).mono ?_
  rintro e w2 ⟨rfl, hd2⟩
  have hd := hd1.trans hd2
  have HB2 := Lib.hid (HB.out.drawn hd)
  have hmk := make_e k k rfl (by omega)
  clear hd1 hd2
  go_wp2_with fail
  clear hmk
  obtain ⟨s, hs⟩ : ∃ s, s = w2.heap.size := ⟨_, rfl⟩
  go_loopw [35] (fun c wr => ∃ r : Nat, r ≤ k ∧ c = .int .i64 r ∧ wr.rowIs w2.heap.size 115 k (takenTo l i r) ∧ Below w2.heap.size w2 wr) (fun c _ => k - (intOf c).toNat)
  case atStart =>
    refine ⟨0, Nat.zero_le _, rfl, (World.rowIs_made w2 _ k _).congr (fun j hj => ?_), (Below.refl _ _).alloc (Nat.le_refl _) _⟩
    unfold takenTo
    rw [if_neg (by omega)]
  case round =>
    obtain ⟨r, hr, rfl, hrow, hb⟩ := hrel
    by_cases hlt : r < k
    · have hbw : BG wr p g m n at_ gap A F l := HB2.out.keep (hb.block p HB2.out.hp.lt) (fun hm => hb.block g (HB2.out.hA hm).2.2.lt)
      have b3 := hbw.hm2
      have b4 := hbw.hm
      obtain ⟨s1, s2⟩ := hbw.stands (i := i + r) (by omega)
      obtain ⟨rfl, hgp, hrg⟩ := hbw.hA (by omega)
      have hcs := cells_of hbw.hp
      obtain ⟨c0, c1, c2, fz⟩ := cells_of hbw.hp
      obtain ⟨q, hq⟩ : ∃ q, q = stands at_ gap (i + r) := ⟨_, rfl⟩
      have hcell := hrg.cell s1
      rw [s2, ← hq] at hcell
      rw [← hq] at s1
      have HP : ∀ d : Nat, Calls Tryz.prog 119 #[.pointer (some ⟨p, 0, none⟩), .int .i64 ((i : Int) + (r : Int))] (wr.drewN d) fun e w' => e = .returned (.int .i64 q) ∧ wr.drewN d = w' := by
        intro d
        have := place_any (wr.drewN d) p m at_ gap (some ⟨g, 0, none⟩) (hcs.drewN d) (i + r) (by omega) (by omega)
        rw [← hq, Int.natCast_add] at this
        exact this
      have HPP : Hid (Calls Tryz.prog 119 #[.pointer (some ⟨p, 0, none⟩), .int .i64 ((i : Int) + (r : Int))] wr.drew fun e w' => e = .returned (.int .i64 q) ∧ w' = wr.drew) := (HP 1).mono fun _ _ ⟨he, hw⟩ => ⟨he, hw.symm⟩
      have hcr : wr.cell? ⟨w2.heap.size, r, none⟩ = some (.int .u64 0) := by
        have := hrow.cell (i := r) hlt
        unfold takenTo at this
        rwa [if_neg (by omega)] at this
      have hfr : wr.frozen? ⟨w2.heap.size, r, none⟩ = false := hrow.frozen _
      have s3 : (q : Int) < (m : Int) := by omega
      have r3 : (r : Int) < (k : Int) := by omega
      have hrow' : (wr.setCell ⟨w2.heap.size, r, none⟩ (.int .u64 (l (i + r)))).rowIs w2.heap.size 115 k (takenTo l i (r + 1)) := by
        refine (hrow.set r _).congr (fun j hj => ?_)
        unfold takenTo
        by_cases hj : j = r
        · subst hj; rw [if_pos rfl, if_pos (by omega)]
        · rw [if_neg hj]
          by_cases hj2 : j < r
          · rw [if_pos hj2, if_pos (by omega)]
          · rw [if_neg hj2, if_neg (by omega)]
      have HR := Lib.hid hrow'
      clear HP hrow' hq s2 b4 hbw hrg hcs fz hs
      go_wp2_with fail
      have hsum : IntKind.i64.wrap ((i : Int) + (r : Int)) = (i : Int) + (r : Int) := IntWalk.i64_in _ (by omega)
      refine wp_region_still_tail 14 (by kernel_rfl) (by kernel_rfl) ?_
      change wpStill _ _ wr.drew (fun a' => wpList _ _ _ _ a' wr.drew) _ _
      simp only [List.take_succ_cons, List.take_zero, List.drop_succ_cons, List.drop_zero]
      repeat still_step
      refine wpStill_step (fun K hK => ?_)
      go_simp
      refine ⟨_, HPP.out, hK _ ?_⟩
      clear hK K
      repeat still_step
      try refine wpStill_nil ?_
      clear hsum
      go_wp2_with fail
      go_roundw
      case rel => exact ⟨r + 1, by omega, by go_num, HR.out, (hb.setCell (Nat.le_refl _) _).drew⟩
      case measure => simp [intOf]; omega
    · obtain rfl : r = k := by omega
      have hbw : BG wr p g m n at_ gap A F l := HB2.out.keep (hb.block p HB2.out.hp.lt) (fun hm => hb.block g (HB2.out.hA hm).2.2.lt)
      have HBW := Lib.hid hbw
      have HROW := Lib.hid hrow
      clear hbw hrow
      go_wp2_with fail
      refine (remove_raw wr p g m n at_ gap A F l HBW.out i r hk hi).mono ?_
      rintro e w3 ⟨rfl, ⟨F3, h3⟩, o3⟩
      have HB3 := Lib.hid h3
      have HO3 := Lib.hid o3
      have s2 : w2.heap.size = w.heap.size := hd.size
      have s3 : w2.heap.size < wr.heap.size := HROW.out.lt
      have plt : p < w.heap.size := HB.out.hp.lt
      have hrow3 : w3.rowIs w2.heap.size 115 r (takenTo l i r) := HROW.out.of_block (HO3.out.block _ s3 (by omega) (by omega))
      have HR3 := Lib.hid hrow3
      have S2 := Lib.hid s2
      clear h3 o3 hrow3 s2
      go_wp2_with fail
      refine (insert_raw w3 p g m (n - r) i (gap + r) A F3 (rem l i r) HB3.out t r t rfl (by omega) hk (by omega) w2.heap.size 0 r (fun j => l (i + j)) (by have := HO3.out.size; omega) (by have := S2.out; omega) (by have := S2.out; omega) (fun j hj => ?_)).mono ?_
      · rw [Nat.zero_add, HR3.out.cell hj]
        unfold takenTo
        rw [if_pos hj]
      rintro e w4 ⟨rfl, h4, o4⟩
      have H : InsPost w p g (n - r) t r (ins (rem l i r) t r fun j => l (i + j)) (.returned (.int .i64 0)) w4 := by
        have x1 : Only2 w wr p g := (Only2.of_drawn hd).trans (g' := g) ⟨hb.os, hb.tape, hb.output, hb.size, fun b hb' h1 h2 => hb.block b hb'⟩ (.inl rfl)
        have x2 := (x1.trans HO3.out (.inl rfl)).trans o4 (.inl rfl)
        obtain ⟨g', m', gap', A', F', y1, y2⟩ := h4
        refine ⟨rfl, ⟨g', m', gap', A', F', y1, ?_⟩, x2⟩
        rcases y2 with e | e
        · exact .inl e
        · right; have := (x1.trans HO3.out (.inl rfl)).size; omega
      have HH := Lib.hid H
      clear H
      go_wp2_with fail
      go_ret
      exact HH.out

set_option maxHeartbeats 800000 in
theorem move_none (w : World) (B p n at_ : Nat) (l : Nat → Int) (h : Buf w B p n at_ l) (i t : Nat) (x z : Int) (hx : x = (i : Int)) (hz : z = (t : Int)) (hi : i ≤ n) (ht : t ≤ n) :
    Calls Tryz.prog 65 #[.pointer (some ⟨p, 0, none⟩), .int .i64 x, .int .i64 0, .int .i64 z] w fun e w' => e = .returned (.int .i64 0) ∧ Drawn w w' := by
  subst hx hz
  have HB := Lib.hid h
  have hn := h.le.2.2
  have htk : ¬ (n : Int) < (t : Int) := by omega
  clear h
  go_enter Tryz.func65, Tryz.ntmps65
  go_wp2_with fail
  refine (check_ok w B p n at_ l HB.out i 0 (by omega)).mono ?_
  rintro e w1 ⟨rfl, hd1⟩
  go_wp2_with fail
  refine (len_any w1 B p n at_ l (HB.out.drawn hd1)).mono ?_
  rintro e w2 ⟨rfl, hd2⟩
  go_wp2_with fail
  go_ret
  exact ⟨rfl, hd1.trans hd2⟩
/-! ### New -/
theorem buf_zero (w : World) (l : Nat → Int) : Buf (w.alloc (.cells #[.slice none 0 0, .int .i64 0, .int .i64 0] 186)) w.heap.size w.heap.size 0 0 l := by
  refine ⟨0, 0, 0, none, fun _ => .int .u64 0, ⟨(World.rowIs_alloc w _ _ _ ?_), fun h => absurd h (by omega), rfl, Nat.le_refl _, fun j h => absurd h (by omega), fun j _ h => absurd h (by omega), by omega, by omega, fun _ => rfl⟩, Nat.le_refl _, fun h => absurd h (by omega)⟩
  intro i hi
  match i, hi with
  | 0, _ => rfl
  | 1, _ => rfl
  | 2, _ => rfl

/-- What New leaves. -/
def NewPost (w : World) (k : Nat) (f : Nat → Int) (e : Ending) (w' : World) : Prop :=
  ∃ p, e = .returned (.tuple #[.pointer (some ⟨p, 0, none⟩), .int .i64 0]) ∧ Buf w' w.heap.size p k k f ∧ Below w.heap.size w w'
set_option maxHeartbeats 800000 in
theorem new_ok (w : World) (k c' : Nat) (A' : Option Addr) (f : Nat → Int) (hs : Sees w w.heap.size A' k fun j => .int .u64 (f j)) (hk : k ≤ 4096) :
    Calls Tryz.prog 58 #[.slice A' k c'] w (NewPost w k f) := by
  by_cases k0 : k = 0
  · subst k0
    go_enter Tryz.func58, Tryz.ntmps58
    go_wp2_with fail
    refine (insert_none _ w.heap.size w.heap.size 0 0 f (buf_zero w f) 0 0 rfl (Nat.le_refl _) A' c').mono ?_
    rintro e w1 ⟨rfl, hd⟩
    have H : NewPost w 0 f (.returned (.tuple #[.pointer (some ⟨w.heap.size, 0, none⟩), .int .i64 0])) w1 :=
      ⟨_, rfl, (buf_zero w f).drawn hd, ((Below.refl _ w).alloc (Nat.le_refl _) _).trans (hd.below _)⟩
    have HH := Lib.hid H
    clear H
    go_wp2_with fail
    go_ret2
    exact HH.out
  · have HS := Lib.hid hs
    clear hs
    go_enter Tryz.func58, Tryz.ntmps58
    go_wp2_with fail
    refine (insert_ok _ w.heap.size w.heap.size 0 0 f (buf_zero w f) 0 k 0 rfl (Nat.le_refl _) (by omega) (by omega) A' c' f (HS.out.below ((Below.refl _ w).alloc (Nat.le_refl _) _))).mono ?_
    rintro e w1 ⟨rfl, hB, hb⟩
    have H : NewPost w k f (.returned (.tuple #[.pointer (some ⟨w.heap.size, 0, none⟩), .int .i64 0])) w1 := by
      refine ⟨_, rfl, ?_, ((Below.refl _ w).alloc (Nat.le_refl _) _).trans hb⟩
      rw [Nat.zero_add] at hB
      refine hB.congr fun j hj => ?_
      unfold ins
      rw [if_neg (by omega), if_pos (by omega), Nat.sub_zero]
    have HH := Lib.hid H
    clear H hB
    go_wp2_with fail
    go_ret2
    exact HH.out
end GapU
end Go.Proofs.YtfmfmeiaekknbaaGreat
end

section
/-
  gaps.Move, with what it turns and no more: elements of type uint64.
-/
namespace Go.Proofs.YtfmfmeiaekknbaaGreat
namespace GapU
open Go.RowKit
set_option linter.unusedVariables false

theorem move_fr (w : World) (B p n at_ : Nat) (l : Nat → Int) (h : Buf w B p n at_ l) (i k t : Nat) (hk : 0 < k) (hi : i + k ≤ n) (ht : t + k ≤ n) :
    Calls Tryz.prog 65 #[.pointer (some ⟨p, 0, none⟩), .int .i64 i, .int .i64 k, .int .i64 t] w fun e w' => e = .returned (.int .i64 0) ∧ Buf w' B p n (t + k) (ins (rem l i k) t k fun j => l (i + j)) ∧
      ∃ g, Fr (fun b => b = p ∨ b = g) w w' ∧ B ≤ p ∧ B ≤ g ∧ (∃ f, w.rowIs p 186 3 f) ∧ ∃ m f, w.rowIs g 115 m f := by
  obtain ⟨g, m, gap, A, F, h1, h2, h3, h4⟩ := h.open_
  have hm : 0 < m := by have := h1.hm; omega
  obtain ⟨_, _, hg⟩ := h1.hA hm
  refine (move_raw w p g m n at_ gap A F l h1 h4 i k t hk hi ht).mono ?_
  rintro e w' ⟨rfl, ⟨g', m', gap', A', F', q1, q2⟩, q3⟩
  rw [show n - k + k = n from by omega] at q1
  exact ⟨rfl, ⟨g', m', gap', A', F', q1, h2, fun _ => by omega⟩, g, ⟨q3.os, q3.tape, q3.output, q3.size, fun b hb hn => q3.block b hb (fun e => hn (.inl e)) (fun e => hn (.inr e))⟩, h2, by omega, ⟨_, h1.hp⟩, _, _, hg⟩
end GapU
end Go.Proofs.YtfmfmeiaekknbaaGreat
end

section
/-
  Contracts of package ropes, fifteenth: List's closure.
-/
namespace Go.Proofs.YtfmfmeiaekknbaaGreat
open Go.RowKit
set_option linter.unusedVariables false
set_option linter.unusedSimpArgs false

theorem infoI64' : (Tryz.prog.info? 2).map (fun i => (i.zero, i.size, i.bytes)) = some (some (.int .i64 0), 1, 8) := by kernel_rfl
theorem make_room64 (n : Nat) (hn : n ≤ 1000000) (W : World) :
    (Instr.makeSlice 34 (.int .i64 0) (.int .i64 n)).run Tryz.prog W = .ok (.slice (some ⟨W.heap.size, 0, none⟩) 0 n) (W.alloc (.cells (madeCells #[.int .i64 0] n) 2)) :=
  run_make_room 34 2 (.int .i64 0) 8 Tryz.underlying34 infoI64' rfl .i64 .i64 n (by omega) (by omega) W
/-- Blocks of two types. -/
theorem rows_ne {w : World} {b b' : Nat} {t t' : TypeId} {n n' : Nat} {f f' : Nat → Value} (h : w.rowIs b t n f) (h' : w.rowIs b' t' n' f') (ht : t ≠ t') : b ≠ b' := by
  rintro rfl
  obtain ⟨c1, h1, _⟩ := h
  obtain ⟨c2, h2, _⟩ := h'
  rw [h1] at h2
  injection h2 with h2
  injection h2 with _ h2 _
  exact ht h2
/-- append(own, v) where there is room. -/
theorem push_room (w : World) {g N n : Nat} {F : Nat → Value} (h : w.rowIs g 2 N F) (hn : n < N) (v : Int) (ty : TypeId) :
    (Builtin.append_ #[34, 34] ty #[.slice (some ⟨g, 0, none⟩) n N, .slice (some ⟨w.heap.size, 0, none⟩) 1 1]).run Tryz.prog (w.alloc (.cells #[.int .i64 v] 2)) =
      .ok (.slice (some ⟨g, 0, none⟩) (n + 1) N) ((w.alloc (.cells #[.int .i64 v] 2)).setCell ⟨g, n, none⟩ (.int .i64 v)) := by
  obtain ⟨i, hi, hzz⟩ := Option.map_eq_some_iff.1 infoI64'
  simp only [Prod.mk.injEq] at hzz
  obtain ⟨hz, hs, hb⟩ := hzz
  have hr : (w.alloc (.cells #[.int .i64 v] 2)).rowIs g 2 N F := World.rowIs.alloc h _
  have hv : Sees (w.alloc (.cells #[.int .i64 v] 2)) (w.heap.size + 1) (some ⟨w.heap.size, 0, none⟩) (1 * 1) (fun _ => .int .i64 v) := by
    have := Sees.lit w #[.int .i64 v] 2 (fun _ => .int .i64 v) 1 rfl (fun j hj => by have h0 : j = 0 := Nat.lt_one_iff.1 hj; subst h0; rfl)
    simpa using this
  have hsrc := src_of (P := Tryz.prog) (w.alloc (.cells #[.int .i64 v] 2)) (sz := 1) Tryz.underlying34 (some ⟨w.heap.size, 0, none⟩) 1 1 (w.heap.size + 1) _ hv (fun _ => rfl) (by omega)
  have hsrc : Src Tryz.prog i.size 34 (.slice (some ⟨w.heap.size, 0, none⟩) 1 1) 1 ((List.range (1 * 1)).map fun _ => Value.int .i64 v) (w.alloc (.cells #[.int .i64 v] 2)) := by rw [hs]; exact hsrc
  have := run_append_room_src (P := Tryz.prog) (w.alloc (.cells #[.int .i64 v] 2)) 34 34 ty 2 i Tryz.underlying34 hi g 0 n N _ 1 _ hsrc (by omega) (fun j hj => ?_) (fun j hj => hr.frozen _)
  · rw [this, hs]
    simp [World.setCells]
  · rw [hs]
    have hj0 : j = 0 := by simpa using hj
    subst hj0
    rw [hr.cell (i := 0 + n * 1 + 0) (by omega)]; rfl

/-- append by its run, as a step of a region that draws. -/
theorem step_push {P : Program} {ops : Array Oper} {o : Oper} {a : Act} {w : World} {K : Act → World → Prop} {Q : Exit → Act → World → Prop} {E : Prop}
    (hg : o.guard = none) (s x : Operand) (t : TypeId) (hop : o.op = Op.call { callee := Callee.builtin Builtin.append, args := #[s, x], argTypes := #[t, t] })
    {vs vx v : Value} {w' : World} (hs : a.eval s = vs) (hx : a.eval x = vx) (hrun : ∀ ty, (Builtin.append_ #[t, t] ty #[vs, vx]).run P w = .ok v w') (hK : K (a.put o.dst v) w') :
    if Region.wanted o (yielded ops a.tmps) = true then Oper.wp P o a w K Q else E := by
  have hw : Region.wanted o (yielded ops a.tmps) = true := by simp [Region.wanted, hg]
  rw [if_pos hw]
  unfold Oper.wp
  simp [execOp, hop, resolve, invoke, builtin, hs, hx, hrun, Result.andThen]
  exact hK

/-- What List's closure works on: itself, what it has taken, the row behind. -/
structure Clo (w : World) (p q g N : Nat) (Q : List Int) : Prop where
  f : Var w p 171 (.func (.func 101) #[] #[.pointer (some ⟨p, 0, none⟩), .pointer (some ⟨q, 0, none⟩)])
  o : Var w q 34 (.slice (some ⟨g, 0, none⟩) Q.length N)
  r : ∃ F, w.rowIs g 2 N F ∧ ∀ j, j < Q.length → F j = .int .i64 (lf Q j)
theorem Clo.of_same {w w' : World} {p q g N : Nat} {Q : List Int} (h : Clo w p q g N Q) (k : ∀ b, b < w.heap.size → w'.heap[b]? = w.heap[b]?) : Clo w' p q g N Q := by
  obtain ⟨F, hr, hF⟩ := h.r
  exact ⟨h.f.of_block (k _ h.f.lt), h.o.of_block (k _ h.o.lt), F, hr.of_block (k _ hr.lt), hF⟩
theorem Tr.fr {w w' : World} {t : T} {a : Option Addr} {p q g N : Nat} {Q : List Int} (h : Tr w a t) (c : Clo w p q g N Q) (k : Fr (fun b => b = q ∨ b = g) w w') : Tr w' a t :=
  h.stay fun b f hr => k.block b hr.lt (by
    obtain ⟨F, hg, _⟩ := c.r
    rintro (e | e)
    · exact rows_ne hr c.o (by decide) e
    · exact rows_ne hr hg (by decide) e)
theorem fr_cells2 {q g : Nat} {w w' : World} (h : Fr (fun b => b = q ∨ b = g) w w') : ∀ b o, b < w.heap.size → ¬ b = q → ¬ b = g → w'.cell? ⟨b, o, none⟩ = w.cell? ⟨b, o, none⟩ := fun b o h1 h2 h3 => World.cell?_of_block (w := w) (h.block b h1 (by rintro (e | e); exact h2 e; exact h3 e))
/-- The world behind 'out = append(out, v)'. -/
def pushW (w : World) (q g N n : Nat) (v : Int) : World := ((w.alloc (.cells #[.int .i64 v] 2)).setCell ⟨g, n, none⟩ (.int .i64 v)).setCell ⟨q, 0, none⟩ (.slice (some ⟨g, 0, none⟩) (n + 1) N)
theorem Clo.push {w : World} {p q g N : Nat} {Q : List Int} (h : Clo w p q g N Q) (hn : Q.length < N) (v : Int) : Clo (pushW w q g N Q.length v) p q g N (Q ++ [v]) ∧ Fr (fun b => b = q ∨ b = g) w (pushW w q g N Q.length v) := by
  obtain ⟨F, hr, hF⟩ := h.r
  have n1 : p ≠ g := rows_ne h.f hr (by decide)
  have n2 : p ≠ q := rows_ne h.f h.o (by decide)
  have n3 : q ≠ g := rows_ne h.o hr (by decide)
  have hl : (Q ++ [v]).length = Q.length + 1 := by simp
  refine ⟨⟨?_, ?_, ?_⟩, ?_⟩
  · exact World.rowIs.setOther (World.rowIs.setOther (World.rowIs.alloc h.f _) n1 _) n2 _
  · rw [hl]
    exact Var.set (World.rowIs.setOther (World.rowIs.alloc h.o _) n3 _) _
  · refine ⟨fun j => if j = Q.length then .int .i64 v else F j, World.rowIs.setOther ((World.rowIs.alloc hr _).set Q.length (.int .i64 v)) (Ne.symm n3) _, fun j hj => ?_⟩
    rw [hl] at hj
    by_cases c : j = Q.length
    · subst c
      show (if Q.length = Q.length then _ else _) = _
      rw [if_pos rfl]
      simp [lf, List.getD_eq_getElem?_getD]
    · show (if j = Q.length then _ else _) = _
      rw [if_neg c, hF j (by omega)]
      simp only [lf, List.getD_eq_getElem?_getD]
      rw [List.getElem?_append_left (by omega)]
  · refine Fr.setCell (Fr.setCell (Fr.alloc (Fr.refl _ w) _) (p := ⟨g, Q.length, none⟩) (.inr rfl) _) (p := ⟨q, 0, none⟩) (.inl rfl) _

set_option maxRecDepth 100000 in
set_option maxHeartbeats 1600000 in
theorem walk_tr (p q g N : Nat) (hN : N ≤ 8192) (t : T) : ∀ (w : World) (a : Option Addr) (Q : List Int), Tr w a t → Clo w p q g N Q → Q.length + t.l.length ≤ N →
    Calls Tryz.prog 101 #[.pointer a, .pointer (some ⟨p, 0, none⟩), .pointer (some ⟨q, 0, none⟩)] w fun e w' => e = .returned (.tuple #[]) ∧ Clo w' p q g N (Q ++ t.l) ∧ Fr (fun b => b = q ∨ b = g) w w' := by
  induction t with
  | nil =>
    intro w a Q h c hn
    obtain rfl : a = none := h
    have H := Lib.hid c
    clear c
    go_enter Tryz.func101, Tryz.ntmps101
    go_wp2_with fail
    go_end0
    exact ⟨rfl, by rw [T.l_nil, List.append_nil]; exact H.out, Fr.refl _ _⟩
  | node l s r ihl ihr =>
    intro w a Q h c hn
    have el : (T.node l s r).l.length = l.l.length + (r.l.length + 1) := by rw [T.l_node]; simp
    rw [el] at hn
    obtain ⟨b, al, ar, rfl, hr, h1, h2⟩ := h
    have S0 : Hid (Below w.heap.size w w.drew) := (Below.refl _ _).drew
    have T0 : Hid (Fr (fun b => b = q ∨ b = g) w w.drew) := (Fr.refl _ _).drawn ⟨1, rfl⟩
    have KL := Lib.hid (ihl w.drew al Q (h1.below S0.out) (c.of_same fun b hb => S0.out.block b hb) (by omega))
    have HR := Lib.hid h2
    have HC := Lib.hid c
    have HN := Lib.hid hr
    obtain ⟨F0, hg, _⟩ := c.r
    have x1 := rows_ne c.f c.o (by decide)
    have x2 := rows_ne c.f hg (by decide)
    have x3 := rows_ne hr c.o (by decide)
    have x4 := rows_ne hr hg (by decide)
    have cf := c.f.c
    have hlf := World.rowIs.lt c.f
    obtain ⟨c0, c1, c2, c3, c4, c5⟩ := ncells_of hr
    have hlt := World.rowIs.lt hr
    clear c h1 h2 hr c1 c2 c3 c4 c5 hg
    go_enter Tryz.func101, Tryz.ntmps101
    go_wp2_with fail
    refine wp_region_plan [(false, 0), (false, 1), (false, 2), (false, 3), (false, 4), (true, 5)] (Fr (fun b => b = q ∨ b = g) w) (by kernel_rfl) (by kernel_rfl) (T0.out) _ (by simp only [pickH, List.getElem?_toArray, List.getElem?_cons_succ, List.getElem?_cons_zero]; rfl) ?_
    repeat (refine HWalk.step (fun K hK => ?_); first | (apply held_yes; (focus rfl); (focus (intro w' hw; have hc' := fr_cells2 hw; go_simp; rfl)); (go_simp; refine hK _ ?_; clear hK K)) | (refine ite_no (by decide) ?_; go_simp; refine hK _ ?_; clear hK K))
    refine HWalk.mark ?_
    go_wp2_with fail
    refine (KL.out).mono ?_
    rintro e w1 ⟨rfl, h1, h2⟩
    have T1 := Lib.hid (T0.out.trans h2)
    have C1 := Lib.hid h1
    clear KL h1 h2
    go_wp2_with fail
    refine ⟨T1.out, ?_⟩
    repeat (refine HWalk.step (fun K hK => ?_); first | (apply held_yes; (focus rfl); (focus (intro w' hw; have hc' := fr_cells2 hw; go_simp; rfl)); (go_simp; refine hK _ ?_; clear hK K)) | (refine ite_no (by decide) ?_; go_simp; refine hK _ ?_; clear hK K))
    refine HWalk.done ?_
    go_wp2_with fail
    have D0 : Hid (Below w1.heap.size w1 w1.drew) := (Below.refl _ _).drew
    have C2 : Hid (Clo w1.drew p q g N (Q ++ l.l)) := C1.out.of_same fun b hb => D0.out.block b hb
    have hQ : (Q ++ l.l).length = Q.length + l.l.length := by simp
    obtain ⟨m, em⟩ : ∃ m, m = (Q ++ l.l).length := ⟨_, rfl⟩
    have EM := Lib.hid em
    have d1 := C2.out.o.c
    have f1 := C2.out.o.f
    have d1' := C1.out.o.c
    have f1' := C1.out.o.f
    rw [← em] at d1 d1' hQ
    obtain ⟨F1, hF1, _⟩ := C2.out.r
    have T2 : Hid (Fr (fun b => b = q ∨ b = g) w w1.drew) := T1.out.drawn ⟨1, rfl⟩
    have HN1 : w1.drew.rowIs b _ _ _ := HN.out.of_block (T2.out.block b hlt (by rintro (e | e); exact x3 e; exact x4 e))
    obtain ⟨_, _, d2, _, _, _⟩ := ncells_of HN1
    have RUN : Hid (∀ ty, (Builtin.append_ #[34, 34] ty #[.slice (some ⟨g, 0, none⟩) m N, .slice (some ⟨w1.heap.size, 0, none⟩) 1 1]).run Tryz.prog (w1.drew.alloc (.cells #[.int .i64 s] 2)) =
      .ok (.slice (some ⟨g, 0, none⟩) (m + 1) N) ((w1.drew.alloc (.cells #[.int .i64 s] 2)).setCell ⟨g, m, none⟩ (.int .i64 s))) := fun ty => push_room w1.drew hF1 (show m < N by omega) s ty
    have x5 : q ≠ g := rows_ne C2.out.o hF1 (by decide)
    have x6 : g ≠ q := x5.symm
    have hltq : q < w1.heap.size := World.rowIs.lt C2.out.o
    obtain ⟨P1, P2⟩ := C1.out.push (by omega) s
    rw [← em] at P1 P2
    have P2' := T1.out.trans P2
    have er : Q ++ l.l ++ [s] ++ r.l = Q ++ (T.node l s r).l := by rw [T.l_node]; simp
    have hl3 : (Q ++ l.l ++ [s]).length + r.l.length ≤ N := by simp; omega
    have KW : ∃ W, W = (pushW w1 q g N m s).drew ∧ Clo W p q g N (Q ++ l.l ++ [s]) ∧ Fr (fun b => b = q ∨ b = g) w W := ⟨_, rfl, P1.of_same fun _ _ => rfl, P2'.drawn ⟨1, rfl⟩⟩
    obtain ⟨W, eW, CW, TW⟩ := KW
    have EW := Lib.hid eW
    have cw := CW.f.c
    have hlw := World.rowIs.lt CW.f
    have HNW : W.rowIs b _ _ _ := HN.out.of_block (TW.block b hlt (by rintro (e | e); exact x3 e; exact x4 e))
    obtain ⟨_, cb, _, _, _, _⟩ := ncells_of HNW
    have hlbw := World.rowIs.lt HNW
    have V0 : Hid (Fr (fun b => b = q ∨ b = g) W W.drew) := (Fr.refl _ _).drawn ⟨1, rfl⟩
    have TW2 : Hid (Fr (fun b => b = q ∨ b = g) w W.drew) := TW.drawn ⟨1, rfl⟩
    have KR := Lib.hid (ihr W.drew ar (Q ++ l.l ++ [s]) (HR.out.fr HC.out TW2.out) (CW.of_same fun _ _ => rfl) hl3)
    rw [er] at KR
    clear cf c0 HN1 hF1 hlf em hQ P1 P2 P2' HNW eW CW TW ihl ihr hl3 er el
    go_region_law (refine step_push rfl (.tmp 12) (.tmp 17) 34 rfl (by simp [Act.eval, Act.put]) (by simp [Act.eval, Act.put]) RUN.out ?_)
    all_goals change Exit.then _ _ Exit.normal _ (pushW w1 q g N m s).drew
    all_goals rw [← EW.out]
    all_goals clear d1 f1 d1' f1' d2 x5 x6 hltq RUN
    all_goals go_wp2_with fail
    all_goals
      refine wp_region_plan [(false, 0), (false, 1), (false, 2), (false, 3), (false, 4), (true, 5)] (Fr (fun b => b = q ∨ b = g) W) (by kernel_rfl) (by kernel_rfl) (V0.out) _ (by simp only [pickH, List.getElem?_toArray, List.getElem?_cons_succ, List.getElem?_cons_zero]; rfl) ?_
      repeat (refine HWalk.step (fun K hK => ?_); first | (apply held_yes; (focus rfl); (focus (intro w' hw; have hc' := fr_cells2 hw; go_simp; rfl)); (go_simp; refine hK _ ?_; clear hK K)) | (refine ite_no (by decide) ?_; go_simp; refine hK _ ?_; clear hK K))
      refine HWalk.mark ?_
      go_wp2_with fail
      refine (KR.out).mono ?_
      rintro e w2 ⟨rfl, h1, h2⟩
      have V1 := Lib.hid (V0.out.trans h2)
      have H := Lib.hid (And.intro h1 (TW2.out.trans h2))
      clear KR h1 h2
      go_wp2_with fail
      refine ⟨V1.out, ?_⟩
      repeat (refine HWalk.step (fun K hK => ?_); first | (apply held_yes; (focus rfl); (focus (intro w' hw; have hc' := fr_cells2 hw; go_simp; rfl)); (go_simp; refine hK _ ?_; clear hK K)) | (refine ite_no (by decide) ?_; go_simp; refine hK _ ?_; clear hK K))
      refine HWalk.done ?_
      go_wp2_with fail
      go_end0
      exact ⟨rfl, H.out⟩

end Go.Proofs.YtfmfmeiaekknbaaGreat
end

section
/-
  Package keymaps at the keys 7, 8, 9 (which the examples of the layers 1 to 11 use): eight slots, no two keys at one slot.
-/
namespace Go.Proofs.YtfmfmeiaekknbaaGreat
open Go.RowKit
set_option linter.unusedVariables false
set_option linter.unusedSimpArgs false

/-- A key of the examples; its slot; what it is mixed to. -/
def K3 (k : Int) : Prop := k = 7 ∨ k = 8 ∨ k = 9
def hh (k : Int) : Nat := if k = 7 then 4 else if k = 8 then 0 else 7
def mixF (k : Int) : Int := if k = 7 then 1346066267577507604 else if k = 8 then 15378420243238726120 else 9398003893131893463
theorem K3.lt {k : Int} (h : K3 k) : hh k < 8 := by rcases h with rfl | rfl | rfl <;> decide

set_option maxRecDepth 100000 in
set_option maxHeartbeats 1600000 in
theorem mixed_any (w : World) (k : Int) (hk : K3 k) :
    Calls Tryz.prog 151 #[.int .u64 k] w fun e w' => e = .returned (.int .u64 (mixF k)) ∧ w = w' := by
  rcases hk with rfl | rfl | rfl
  all_goals
    go_enter Tryz.func151, Tryz.ntmps151
    go_wp2_with fail
    go_ret
    exact ⟨ret_int (by decide), rfl⟩

/-- What a slot holds, of the values T of the keys. -/
def ks (T : Int → Option Int) (s : Nat) : Option (Int × Int) := if s = 4 then (T 7).map (fun v => (7, v)) else if s = 0 then (T 8).map (fun v => (8, v)) else if s = 7 then (T 9).map (fun v => (9, v)) else none
def kcell (o : Option (Int × Int)) (i : Nat) : Value := match o with
  | none => if i = 0 then .int .u8 0 else if i = 1 then .int .u64 0 else .int .i64 0
  | some (k, v) => if i = 0 then .int .u8 1 else if i = 1 then .int .u64 k else .int .i64 v
def kcells (T : Int → Option Int) : Nat → Value := fun j => kcell (ks T (j / 3)) (j % 3)
def kmany (T : Int → Option Int) : Nat := (T 7).toList.length + (T 8).toList.length + (T 9).toList.length
def kmc (A : Option Addr) (n m : Nat) : Nat → Value := fun j => if j = 0 then .slice A n n else if j = 1 then .int .i64 m else .int .i64 0
theorem ks_at (T : Int → Option Int) {k : Int} (h : K3 k) : ks T (hh k) = (T k).map (fun v => (k, v)) := by rcases h with rfl | rfl | rfl <;> rfl
theorem kcells_0 (T : Int → Option Int) (s : Nat) : kcells T (s * 3) = kcell (ks T s) 0 := by unfold kcells; rw [Nat.mul_div_cancel _ (by omega), Nat.mul_mod_left]
theorem kcells_1 (T : Int → Option Int) (s : Nat) : kcells T (s * 3 + 1) = kcell (ks T s) 1 := by unfold kcells; rw [show (s * 3 + 1) / 3 = s by omega, show (s * 3 + 1) % 3 = 1 by omega]
theorem kcells_2 (T : Int → Option Int) (s : Nat) : kcells T (s * 3 + 2) = kcell (ks T s) 2 := by unfold kcells; rw [show (s * 3 + 2) / 3 = s by omega, show (s * 3 + 2) % 3 = 2 by omega]
/-- A map at p whose slots lie in g. -/
structure KG (w : World) (p g : Nat) (T : Int → Option Int) : Prop where
  hp : w.rowIs p 190 3 (kmc (some ⟨g, 0, none⟩) 8 (kmany T))
  hg : w.rowIs g 192 24 (kcells T)
  ne : g ≠ p
theorem KG.keep {w w' : World} {p g : Nat} {T : Int → Option Int} (h : KG w p g T) (k1 : w'.heap[p]? = w.heap[p]?) (k2 : w'.heap[g]? = w.heap[g]?) : KG w' p g T := ⟨h.hp.of_block k1, h.hg.of_block k2, h.ne⟩
theorem KG.below {w w' : World} {p g : Nat} {T : Int → Option Int} (h : KG w p g T) (hb : Below w.heap.size w w') : KG w' p g T := h.keep (hb.block p h.hp.lt) (hb.block g h.hg.lt)
/-- The cells of the map's head. -/
structure KC (w : World) (p : Nat) (A : Option Addr) (n m : Nat) : Prop where
  c0 : w.cell? ⟨p, 0, none⟩ = some (.slice A n n)
  c1 : w.cell? ⟨p, 1, none⟩ = some (.int .i64 m)
  c2 : w.cell? ⟨p, 2, none⟩ = some (.int .i64 0)
  fz : ∀ i, w.frozen? ⟨p, i, none⟩ = false
theorem kmcells {w : World} {p n m : Nat} {A : Option Addr} (h : w.rowIs p 190 3 (kmc A n m)) : KC w p A n m := ⟨h.cell (i := 0) (by omega), h.cell (i := 1) (by omega), h.cell (i := 2) (by omega), fun i => h.frozen i⟩

set_option maxRecDepth 100000 in
set_option maxHeartbeats 3200000 in
theorem look_any (w : World) (p g : Nat) (T : Int → Option Int) (h : KG w p g T) (k : Int) (hk : K3 k) :
    Calls Tryz.prog 120 #[.pointer (some ⟨p, 0, none⟩), .int .u64 k] w fun e w' => e = .returned (.tuple #[.int .i64 (hh k), .bool (T k).isSome]) ∧ Below w.heap.size w w' := by
  obtain ⟨c0, c1, c2, fz⟩ := kmcells h.hp
  have HM : Hid (∀ q : Nat, Calls Tryz.prog 151 #[.int .u64 k] (w.drewN q) fun e w' => e = .returned (.int .u64 (mixF k)) ∧ w.drewN q = w') := fun q => mixed_any _ k hk
  have hs := hk.lt
  have hm : (mixF k).tmod 8 = (hh k : Int) := by rcases hk with rfl | rfl | rfl <;> decide
  have g0 := h.hg.cell (i := hh k * 3) (by omega)
  have g1 := h.hg.cell (i := hh k * 3 + 1) (by omega)
  have g2 := h.hg.cell (i := hh k * 3 + 2) (by omega)
  rw [kcells_0, ks_at T hk] at g0
  rw [kcells_1, ks_at T hk] at g1
  rw [kcells_2, ks_at T hk] at g2
  obtain ⟨s, es⟩ : ∃ s, s = hh k := ⟨_, rfl⟩
  rw [← es] at hm hs g0 g1 g2 ⊢
  clear h c1 c2 fz es
  go_enter Tryz.func120, Tryz.ntmps120
  go_wp2_with fail
  go_step3
  go_wp2_with fail
  go_quiet ((go_at_call 151; exact quiet_left' (HM.out _)))
  clear HM
  have e0 : (w.drewN nq).cell? ⟨p, 0, none⟩ = some (.slice (some ⟨g, 0, none⟩) 8 8) := c0
  have D : Hid (Below w.heap.size w (w.drewN nq)) := Go.below_drewN (Below.refl _ w) nq
  cases hT : T k with
  | none =>
    rw [hT] at g0 g1 g2
    have d0 : (w.drewN nq).cell? ⟨g, s * 3, none⟩ = some (.int .u8 0) := g0
    have d1 : (w.drewN nq).cell? ⟨g, s * 3 + 1, none⟩ = some (.int .u64 0) := g1
    have d2 : (w.drewN nq).cell? ⟨g, s * 3 + 2, none⟩ = some (.int .i64 0) := g2
    have HT := Lib.hid hT
    clear g0 g1 g2 hT c0
    generalize w.drewN nq = W at e0 d0 d1 d2 D ⊢
    have E : Hid (Below w.heap.size w (W.alloc (.cells #[.int .u8 0, .int .u64 0, .int .i64 0] 192))) := D.out.alloc D.out.size _
    clear D
    go_wp2_with fail
    go_step3
    go_wp2_with fail
    rw [Exit.noGoto_ret]
    go_ret2
    exact ⟨by rw [HT.out]; rfl, E.out⟩
  | some v =>
    rw [hT] at g0 g1 g2
    have d0 : (w.drewN nq).cell? ⟨g, s * 3, none⟩ = some (.int .u8 1) := g0
    have d1 : (w.drewN nq).cell? ⟨g, s * 3 + 1, none⟩ = some (.int .u64 k) := g1
    have d2 : (w.drewN nq).cell? ⟨g, s * 3 + 2, none⟩ = some (.int .i64 v) := g2
    have HT := Lib.hid hT
    clear g0 g1 g2 hT c0
    generalize w.drewN nq = W at e0 d0 d1 d2 D ⊢
    have E : Hid (Below w.heap.size w (W.alloc (.cells #[.int .u8 1, .int .u64 k, .int .i64 v] 192))) := D.out.alloc D.out.size _
    clear D
    go_wp2_with fail
    go_step3
    go_wp2_with fail
    rw [Exit.noGoto_ret]
    go_ret2
    exact ⟨by rw [HT.out]; rfl, E.out⟩

set_option maxRecDepth 100000 in
set_option maxHeartbeats 1600000 in
theorem klen_any (w : World) (p m n : Nat) (A : Option Addr) (h : w.rowIs p 190 3 (kmc A n m)) :
    Calls Tryz.prog 123 #[.pointer (some ⟨p, 0, none⟩)] w fun e w' => e = .returned (.int .i64 m) ∧ w = w' := by
  obtain ⟨c0, c1, c2, fz⟩ := kmcells h
  clear c0 c2 fz h
  go_enter Tryz.func123, Tryz.ntmps123
  go_wp2_with fail
  go_ret
  exact ⟨rfl, rfl⟩
set_option maxRecDepth 100000 in
set_option maxHeartbeats 1600000 in
theorem kget_none (w : World) (p n : Nat) (A : Option Addr) (h : w.rowIs p 190 3 (kmc A n 0)) (k : Int) :
    Calls Tryz.prog 63 #[.pointer (some ⟨p, 0, none⟩), .int .u64 k] w fun e w' => e = .returned (.tuple #[.int .i64 0, .bool false]) ∧ w = w' := by
  have HL := Lib.hid (klen_any w p 0 n A h)
  clear h
  go_enter Tryz.func63, Tryz.ntmps63
  go_wp2_with fail
  refine (HL.out).mono ?_
  rintro e w' ⟨rfl, rfl⟩
  go_wp2_with fail
  go_ret2
  exact ⟨rfl, rfl⟩
set_option maxRecDepth 100000 in
set_option maxHeartbeats 1600000 in
theorem kget_any (w : World) (p g : Nat) (T : Int → Option Int) (h : KG w p g T) (k : Int) (hk : K3 k) (hm : 0 < kmany T) :
    Calls Tryz.prog 63 #[.pointer (some ⟨p, 0, none⟩), .int .u64 k] w fun e w' => e = .returned (.tuple #[.int .i64 ((T k).getD 0), .bool (T k).isSome]) ∧ Below w.heap.size w w' := by
  have HL := Lib.hid (klen_any w p _ 8 _ h.hp)
  have HK := Lib.hid (look_any w p g T h k hk)
  have H := Lib.hid h
  have hkl := hk.lt
  have hn : ((kmany T : Nat) : Int) ≠ 0 := by omega
  generalize kmany T = m at *
  clear h
  go_enter Tryz.func63, Tryz.ntmps63
  go_wp2_with fail
  refine (HL.out).mono ?_
  rintro e w' ⟨rfl, rfl⟩
  go_wp2_with fail
  refine (HK.out).mono ?_
  rintro e w1 ⟨rfl, hb⟩
  have H1 := H.out.below hb
  have B1 := Lib.hid hb
  obtain ⟨c0, c1, c2, fz⟩ := kmcells H1.hp
  have g2 := H1.hg.cell (i := hh k * 3 + 2) (by omega)
  rw [kcells_2, ks_at T hk] at g2
  clear H1 HL HK c1 c2 fz hb
  generalize hh k = s at *
  cases hT : T k with
  | none =>
    clear g2
    go_wp2_with fail
    go_ret2
    exact ⟨by rw [hT]; rfl, B1.out⟩
  | some v =>
    rw [hT] at g2
    have d2 : w1.cell? ⟨g, s * 3 + 2, none⟩ = some (.int .i64 v) := g2
    clear g2
    go_wp2_with fail
    go_ret2
    exact ⟨by rw [hT]; rfl, B1.out⟩

set_option maxRecDepth 100000 in
set_option maxHeartbeats 1600000 in
theorem knew_any (w : World) :
    Calls Tryz.prog 59 #[] w fun e w' => e = .returned (.pointer (some ⟨w.heap.size, 0, none⟩)) ∧ w'.rowIs w.heap.size 190 3 (kmc none 0 0) ∧ Below w.heap.size w w' := by
  go_enter Tryz.func59, Tryz.ntmps59
  go_wp2_with fail
  go_ret
  exact ⟨rfl, World.rowIs_alloc _ _ _ _ (fun j hj => by
    have : j = 0 ∨ j = 1 ∨ j = 2 := by simp at hj; omega
    rcases this with rfl | rfl | rfl <;> rfl), (Below.refl _ w).alloc (Nat.le_refl _) _⟩

theorem infoSlot : (Tryz.prog.info? 192).map (fun i => (i.zero, i.size, i.bytes)) = some (some (.agg #[.int .u8 0, .int .u64 0, .int .i64 0]), 3, 24) := by kernel_rfl
def slots8 : Array Value := madeCells #[.int .u8 0, .int .u64 0, .int .i64 0] 24
theorem make_slots (W : World) : (Instr.makeSlice 188 (.int .i64 8) (.int .i64 8)).run Tryz.prog W = .ok (.slice (some ⟨W.heap.size, 0, none⟩) 8 8) (W.alloc (.cells slots8 192)) := by
  obtain ⟨i, hi, hzz⟩ := Option.map_eq_some_iff.1 infoSlot
  simp only [Prod.mk.injEq] at hzz
  obtain ⟨hz, hs, hb⟩ := hzz
  have := run_make (P := Tryz.prog) W 188 192 i _ Tryz.underlying188 hi hz .i64 .i64 8 8 (by omega) (by omega) (by rw [hb]; decide) (by omega)
  rw [hs] at this
  exact this
theorem slots8_row (W : World) : (W.alloc (.cells slots8 192)).rowIs W.heap.size 192 24 (kcells fun _ => none) := by
  have := World.rowIs_alloc W slots8 192 (kcells fun _ => none) (fun j hj => by
    have hj' : j < 24 := by simpa [slots8, size_madeCells] using hj
    have e : kcells (fun _ => none) j = kcell none (j % 3) := by
      show kcell (ks _ _) _ = _
      have h0 : ∀ s, ks (fun _ => none) s = none := fun s => by unfold ks; repeat' split
                                                                all_goals rfl
      rw [h0]
    rw [e]
    have h3 : j % 3 = 0 ∨ j % 3 = 1 ∨ j % 3 = 2 := by omega
    rcases h3 with h | h | h <;> simp [slots8, madeCells, hj', h, kcell])
  rw [show slots8.size = 24 from by simp [slots8, size_madeCells]] at this
  exact this
set_option maxRecDepth 100000 in
set_option maxHeartbeats 3200000 in
theorem widen_any (w : World) (p : Nat) (h : w.rowIs p 190 3 (kmc none 0 0)) :
    Calls Tryz.prog 121 #[.pointer (some ⟨p, 0, none⟩), .int .i64 1] w fun e w' => e = .returned (.tuple #[]) ∧ KG w' p w.heap.size (fun _ => none) ∧ Fr (fun b => b = p) w w' := by
  obtain ⟨c0, c1, c2, fz⟩ := kmcells h
  have hm := make_slots
  have hp := h.lt
  have H := Lib.hid h
  have RA : Hid (∀ W : World, W.rowIs p 190 3 (kmc none 0 0) → (W.setCell ⟨p, 0, none⟩ (.slice (some ⟨w.heap.size, 0, none⟩) 8 8)).rowIs p 190 3 (kmc (some ⟨w.heap.size, 0, none⟩) 8 0)) := fun W hW => (hW.set 0 _).congr fun j hj => by
    show (if j = 0 then _ else kmc none 0 0 j) = _
    by_cases c : j = 0
    · subst c; rfl
    · rw [if_neg c]; unfold kmc; rw [if_neg c, if_neg c]
  clear h
  go_enter Tryz.func121, Tryz.ntmps121
  go_wp2_with fail
  go_loopw [4] (fun n wr => n = .int .i64 8 ∧ w = wr) (fun _ _ => 0)
  case atStart => exact ⟨rfl, rfl⟩
  case round =>
    obtain ⟨rfl, rfl⟩ := hrel
    have KW : Hid (KG (((w.setCell ⟨p, 0, none⟩ (.slice (some ⟨w.heap.size, 0, none⟩) 8 8)).setCell ⟨p, 2, none⟩ (.int .i64 0)).alloc (.cells slots8 192)) p w.heap.size (fun _ => none)) := by
      have h1 := RA.out w H.out
      have h2 := (h1.set 2 (.int .i64 0)).congr (g := kmc (some ⟨w.heap.size, 0, none⟩) 8 0) fun j hj => by
        show (if j = 2 then _ else _) = _
        by_cases c : j = 2
        · subst c; rfl
        · rw [if_neg c]
      have hz : ((w.setCell ⟨p, 0, none⟩ (.slice (some ⟨w.heap.size, 0, none⟩) 8 8)).setCell ⟨p, 2, none⟩ (.int .i64 0)).heap.size = w.heap.size := by simp [World.setCell]
      refine ⟨h2.of_block (Below.heap_alloc _ _ _ h2.lt), ?_, ?_⟩
      · have := slots8_row ((w.setCell ⟨p, 0, none⟩ (.slice (some ⟨w.heap.size, 0, none⟩) 8 8)).setCell ⟨p, 2, none⟩ (.int .i64 0))
        rw [hz] at this
        exact this
      · omega
    have FW : Hid (Fr (fun b => b = p) w (((w.setCell ⟨p, 0, none⟩ (.slice (some ⟨w.heap.size, 0, none⟩) 8 8)).setCell ⟨p, 2, none⟩ (.int .i64 0)).alloc (.cells slots8 192))) :=
      Fr.alloc (S := fun b => b = p) (Fr.setCell (S := fun b => b = p) (Fr.setCell (S := fun b => b = p) (Fr.refl _ w) (p := ⟨p, 0, none⟩) rfl _) (p := ⟨p, 2, none⟩) rfl _) _
    clear RA H
    go_wp2_with fail
    go_loopw [30] (fun n wr => n = .int .i64 0 ∧ Hid (KG wr p w.heap.size (fun _ => none)) ∧ Hid (Fr (fun b => b = p) w wr)) (fun _ _ => 0)
    case atStart => exact ⟨rfl, KW, FW⟩
    case round =>
      obtain ⟨rfl, h1, h2⟩ := hrel
      go_wp2_with fail
      go_end0
      exact ⟨rfl, h1.out, h2.out⟩

/-- A key that is put. -/
def tput (T : Int → Option Int) (k v : Int) : Int → Option Int := fun x => if x = k then some v else T x
theorem kmany_put {T : Int → Option Int} {k : Int} (hk : K3 k) (hT : T k = none) (v : Int) : kmany (tput T k v) = kmany T + 1 := by
  unfold kmany tput
  rcases hk with rfl | rfl | rfl <;> simp [hT] <;> omega
theorem ks_put {T : Int → Option Int} {k : Int} (hk : K3 k) (v : Int) (s : Nat) : ks (tput T k v) s = if s = hh k then some (k, v) else ks T s := by
  unfold ks tput
  rcases hk with rfl | rfl | rfl
  · show _ = if s = 4 then _ else _
    by_cases c : s = 4
    · rw [if_pos c, if_pos c]; rfl
    · rw [if_neg c, if_neg c]; simp only [show ¬ (8 : Int) = 7 by decide, show ¬ (9 : Int) = 7 by decide, if_false]
      rw [if_neg c]
  · show _ = if s = 0 then _ else _
    by_cases c : s = 0
    · subst c; rfl
    · rw [if_neg c]; simp only [show ¬ (7 : Int) = 8 by decide, show ¬ (9 : Int) = 8 by decide, if_false]
      rw [if_neg c, if_neg c]
  · show _ = if s = 7 then _ else _
    by_cases c : s = 7
    · subst c; rfl
    · rw [if_neg c]; simp only [show ¬ (7 : Int) = 9 by decide, show ¬ (8 : Int) = 9 by decide, if_false]
      rw [if_neg c, if_neg c]
def putW (w : World) (p g s : Nat) (k v m : Int) : World := (((w.setCell ⟨g, s * 3, none⟩ (.int .u8 1)).setCell ⟨g, s * 3 + 1, none⟩ (.int .u64 k)).setCell ⟨g, s * 3 + 2, none⟩ (.int .i64 v)).setCell ⟨p, 1, none⟩ (.int .i64 m)
theorem KG.put {w : World} {p g : Nat} {T : Int → Option Int} (h : KG w p g T) {k : Int} (hk : K3 k) (hT : T k = none) (v : Int) :
    KG (putW w p g (hh k) k v ((kmany T : Nat) + 1)) p g (tput T k v) := by
  have hs := hk.lt
  have hpw := h.hp.lt
  unfold putW
  generalize es : hh k = s at *
  have a1 := (((h.hg.set (s * 3) (.int .u8 1)).set (s * 3 + 1) (.int .u64 k)).set (s * 3 + 2) (.int .i64 v)).congr (g := kcells (tput T k v)) fun j hj => by
    show (if j = s * 3 + 2 then _ else if j = s * 3 + 1 then _ else if j = s * 3 then _ else kcells T j) = kcell (ks (tput T k v) (j / 3)) (j % 3)
    rw [ks_put hk, es]
    by_cases c2 : j = s * 3 + 2
    · rw [if_pos c2, if_pos (by omega), show j % 3 = 2 by omega]; rfl
    by_cases c1 : j = s * 3 + 1
    · rw [if_neg c2, if_pos c1, if_pos (by omega), show j % 3 = 1 by omega]; rfl
    by_cases c0 : j = s * 3
    · rw [if_neg c2, if_neg c1, if_pos c0, if_pos (by omega), show j % 3 = 0 by omega]; rfl
    · rw [if_neg c2, if_neg c1, if_neg c0, if_neg (by omega)]; rfl
  have hgp := h.ne
  refine ⟨?_, a1.of_block (Below.heap_setCell _ _ _ _ hgp), hgp⟩
  have b0 := h.hp.of_block (w' := ((w.setCell ⟨g, s * 3, none⟩ (.int .u8 1)).setCell ⟨g, s * 3 + 1, none⟩ (.int .u64 k)).setCell ⟨g, s * 3 + 2, none⟩ (.int .i64 v)) (by
    rw [Below.heap_setCell _ _ _ _ (Ne.symm hgp), Below.heap_setCell _ _ _ _ (Ne.symm hgp), Below.heap_setCell _ _ _ _ (Ne.symm hgp)])
  refine (b0.set 1 (.int .i64 ((kmany T : Nat) + 1))).congr fun j hj => ?_
  show (if j = 1 then _ else _) = _
  rw [kmany_put hk hT]
  by_cases c : j = 1
  · subst c; rfl
  · rw [if_neg c]; unfold kmc; by_cases d : j = 0
    · rw [if_pos d, if_pos d]
    · rw [if_neg d, if_neg d, if_neg c, if_neg c]
theorem Fr.putW {w : World} {p g s : Nat} {k v m : Int} : Fr (fun b => b = p ∨ b = g) w (putW w p g s k v m) :=
  let S := fun b => b = p ∨ b = g
  Fr.setCell (S := S) (Fr.setCell (S := S) (Fr.setCell (S := S) (Fr.setCell (S := S) (Fr.refl _ w) (p := ⟨g, _, none⟩) (.inr rfl) _) (p := ⟨g, _, none⟩) (.inr rfl) _) (p := ⟨g, _, none⟩) (.inr rfl) _) (p := ⟨p, _, none⟩) (.inl rfl) _

set_option maxRecDepth 100000 in
set_option maxHeartbeats 6400000 in
theorem kput_new (w : World) (p g : Nat) (T : Int → Option Int) (h : KG w p g T) (k v : Int) (hk : K3 k) (hT : T k = none) (hm : kmany T ≤ 3) :
    Calls Tryz.prog 61 #[.pointer (some ⟨p, 0, none⟩), .int .u64 k, .int .i64 v] w fun e w' => e = .returned (.int .i64 0) ∧ KG w' p g (tput T k v) ∧ Fr (fun b => b = p ∨ b = g) w w' := by
  have HK := Lib.hid (look_any w p g T h k hk)
  have H := Lib.hid h
  have hk0 : k ≠ 0 := by rcases hk with rfl | rfl | rfl <;> decide
  have hkl := hk.lt
  obtain ⟨c0, c1, c2, fz⟩ := kmcells h.hp
  rw [hT] at HK
  clear h fz
  obtain ⟨s, es⟩ : ∃ s, s = hh k := ⟨_, rfl⟩
  obtain ⟨m, em⟩ : ∃ m, m = kmany T := ⟨_, rfl⟩
  have ES := Lib.hid es
  have EM := Lib.hid em
  rw [← es] at HK hkl
  rw [← em] at c1 hm
  clear es em
  go_enter Tryz.func61, Tryz.ntmps61
  go_wp2_with fail
  refine (HK.out).mono ?_
  rintro e w1 ⟨rfl, b1⟩
  have H1 := Lib.hid (H.out.below b1)
  have B1 := Lib.hid b1
  have HK1 : Hid (∀ q, Calls Tryz.prog 120 #[.pointer (some ⟨p, 0, none⟩), .int .u64 k] (w1.drewN q) fun e w' => e = .returned (.tuple #[.int .i64 s, .bool false]) ∧ Below (w1.drewN q).heap.size (w1.drewN q) w') := fun q => by
    have := look_any (w1.drewN q) p g T (H1.out.keep rfl rfl) k hk
    rw [hT, ← ES.out] at this
    exact this
  obtain ⟨d0, d1, d2, fz⟩ := kmcells H1.out.hp
  rw [← EM.out] at d1
  have hm1 : ¬ (m : Int) = 4096 := by omega
  clear HK b1 fz c0 c1 c2
  go_wp2_with fail
  go_quiet (fail)
  go_wp2_with fail
  refine (HK1.out _).mono ?_
  rintro e w2 ⟨rfl, b2⟩
  have H2 := Lib.hid ((H1.out.keep (w' := w1.drewN _) rfl rfl).below b2)
  have F2 : Hid (Fr (fun b => b = p ∨ b = g) w w2) := Fr.trans (Fr.of_below B1.out) (Fr.trans (Fr.of_below (Go.below_drewN (Below.refl _ w1) _)) (Fr.of_below b2))
  clear HK1 H1 b2 d0 d1 d2 hm1
  obtain ⟨c0, c1, c2, fz⟩ := kmcells H2.out.hp
  have g0 := H2.out.hg.cell (i := s * 3) (by omega)
  have g1 := H2.out.hg.cell (i := s * 3 + 1) (by omega)
  have g2 := H2.out.hg.cell (i := s * 3 + 2) (by omega)
  have gf := fun i => H2.out.hg.frozen i
  rw [kcells_0, ES.out, ks_at T hk, hT, ← ES.out] at g0
  rw [kcells_1, ES.out, ks_at T hk, hT, ← ES.out] at g1
  rw [kcells_2, ES.out, ks_at T hk, hT, ← ES.out] at g2
  have d0 : w2.cell? ⟨g, s * 3, none⟩ = some (.int .u8 0) := g0
  have d1 : w2.cell? ⟨g, s * 3 + 1, none⟩ = some (.int .u64 0) := g1
  have d2 : w2.cell? ⟨g, s * 3 + 2, none⟩ = some (.int .i64 0) := g2
  have hgp : g ≠ p := H2.out.ne
  have hpg : p ≠ g := hgp.symm
  have RW : Hid (KG (putW w2 p g s k v (m + 1)) p g (tput T k v)) := by
    have := H2.out.put hk hT v
    rwa [← ES.out, ← EM.out] at this
  have FW : Hid (Fr (fun b => b = p ∨ b = g) w (putW w2 p g s k v (m + 1))) := F2.out.trans Fr.putW
  rw [← EM.out] at c1
  clear g0 g1 g2 H2 F2
  go_wp2_with fail
  go_ret
  exact ⟨rfl, RW.out, FW.out⟩
set_option maxRecDepth 100000 in
set_option maxHeartbeats 6400000 in
theorem kput_first (w : World) (p : Nat) (h : w.rowIs p 190 3 (kmc none 0 0)) (k v : Int) (hk : K3 k) :
    Calls Tryz.prog 61 #[.pointer (some ⟨p, 0, none⟩), .int .u64 k, .int .i64 v] w fun e w' => ∃ g, e = .returned (.int .i64 0) ∧ KG w' p g (tput (fun _ => none) k v) ∧ w.heap.size ≤ g ∧ Fr (fun b => b = p ∨ w.heap.size ≤ b) w w' := by
  have HK := Lib.hid (widen_any (w.drewN 0) p h)
  have HW : Hid (∀ q, Calls Tryz.prog 121 #[.pointer (some ⟨p, 0, none⟩), .int .i64 1] (w.drewN q) fun e w' => e = .returned (.tuple #[]) ∧ KG w' p w.heap.size (fun _ => none) ∧ Fr (fun b => b = p) w w') := fun q => (widen_any (w.drewN q) p h).mono fun e w' ⟨a, b, c⟩ => ⟨a, b, Fr.trans (Fr.of_below (Go.below_drewN (Below.refl _ w) q)) c⟩
  have hk0 : k ≠ 0 := by rcases hk with rfl | rfl | rfl <;> decide
  have hkl := hk.lt
  obtain ⟨c0, c1, c2, fz⟩ := kmcells h
  have hpl := h.lt
  clear h fz HK
  obtain ⟨s, es⟩ : ∃ s, s = hh k := ⟨_, rfl⟩
  obtain ⟨g, eg⟩ : ∃ g, g = w.heap.size := ⟨_, rfl⟩
  have ES := Lib.hid es
  have EG := Lib.hid eg
  rw [← es] at hkl
  rw [← eg] at HW hpl
  clear es eg
  go_enter Tryz.func61, Tryz.ntmps61
  go_wp2_with fail
  go_quiet (fail)
  go_wp2_with fail
  refine (HW.out _).mono ?_
  rintro e w1 ⟨rfl, k1, f1⟩
  have H1 := Lib.hid k1
  have F1 := Lib.hid f1
  have HK1 := Lib.hid (look_any w1 p g (fun _ => none) k1 k hk)
  rw [← ES.out] at HK1
  clear HW c0 c1 c2 k1 f1
  go_wp2_with fail
  refine (HK1.out).mono ?_
  rintro e w2 ⟨rfl, b2⟩
  have H2 := Lib.hid (H1.out.below b2)
  have F2 : Hid (Fr (fun b => b = p ∨ g ≤ b) w w2) := Fr.trans (F1.out.mono fun b h => .inl h) (Fr.of_below b2)
  clear HK1 H1 b2 F1
  obtain ⟨c0, c1, c2, fz⟩ := kmcells H2.out.hp
  have g0 := H2.out.hg.cell (i := s * 3) (by omega)
  have g1 := H2.out.hg.cell (i := s * 3 + 1) (by omega)
  have g2 := H2.out.hg.cell (i := s * 3 + 2) (by omega)
  have gf := fun i => H2.out.hg.frozen i
  rw [kcells_0, ES.out, ks_at _ hk, ← ES.out] at g0
  rw [kcells_1, ES.out, ks_at _ hk, ← ES.out] at g1
  rw [kcells_2, ES.out, ks_at _ hk, ← ES.out] at g2
  have d0 : w2.cell? ⟨g, s * 3, none⟩ = some (.int .u8 0) := g0
  have d1 : w2.cell? ⟨g, s * 3 + 1, none⟩ = some (.int .u64 0) := g1
  have d2 : w2.cell? ⟨g, s * 3 + 2, none⟩ = some (.int .i64 0) := g2
  have c1' : w2.cell? ⟨p, 1, none⟩ = some (.int .i64 0) := c1
  have hgp : g ≠ p := H2.out.ne
  have hpg : p ≠ g := hgp.symm
  have RW : Hid (KG (putW w2 p g s k v 1) p g (tput (fun _ => none) k v)) := by
    have := H2.out.put hk rfl v
    rwa [← ES.out] at this
  have FW : Hid (Fr (fun b => b = p ∨ g ≤ b) w (putW w2 p g s k v 1)) := F2.out.trans (Fr.putW.mono fun b h => h.imp id fun e => by omega)
  clear g0 g1 g2 H2 F2 c1
  go_wp2_with fail
  go_ret
  exact ⟨g, rfl, RW.out, by rw [EG.out]; exact Nat.le_refl _, by rw [← EG.out]; exact FW.out⟩
end Go.Proofs.YtfmfmeiaekknbaaGreat
end

section
/-
  Package tables: Check, of the table of the examples (two heights).
-/
namespace Go.Proofs.YtfmfmeiaekknbaaGreat
open Go.RowKit
set_option linter.unusedVariables false
set_option linter.unusedSimpArgs false

set_option maxRecDepth 100000 in
set_option maxHeartbeats 3200000 in
theorem tone_first (w : World) (p : Nat) (h : w.rowIs p 190 3 (kmc none 0 0)) (k s : Int) (hk : K3 k) (h1 : 1 ≤ s) (h2 : s ≤ 2305843009213693952) :
    Calls Tryz.prog 122 #[.agg #[.int .u64 k, .int .i64 s], .int .i64 1, .pointer (some ⟨p, 0, none⟩)] w fun e w' => ∃ g, e = .returned (.int .i64 0) ∧ KG w' p g (tput (fun _ => none) k 0) ∧ w.heap.size ≤ g ∧ Fr (fun b => b = p ∨ w.heap.size ≤ b) w w' := by
  have L0 : Below w.heap.size w (w.alloc (.cells #[.int .u64 k, .int .i64 s] 123)) := (Below.refl _ w).alloc (Nat.le_refl _) _
  have H1 : (w.alloc (.cells #[.int .u64 k, .int .i64 s] 123)).rowIs p 190 3 (kmc none 0 0) := h.of_block (L0.block p h.lt)
  have KG1 := Lib.hid (kget_none _ p 0 none H1 k)
  have KP := Lib.hid (kput_first _ p H1 k 0 hk)
  have hk0 : ¬ k = 0 := by rcases hk with rfl | rfl | rfl <;> decide
  have hs1 : ¬ s < 1 := by omega
  have hs2 : ¬ 2305843009213693952 < s := by omega
  have L1 := Lib.hid L0
  clear h H1 L0
  go_enter Tryz.func122, Tryz.ntmps122
  go_wp2_with fail
  refine (KG1.out).mono ?_
  rintro e w' ⟨rfl, rfl⟩
  go_wp2_with fail
  refine (KP.out).mono ?_
  rintro e w2 ⟨g, rfl, k1, k2, k3⟩
  rw [World.size_alloc] at k2 k3
  have R := Lib.hid k1
  have F : Hid (Fr (fun b => b = p ∨ w.heap.size ≤ b) w w2) := (Fr.of_below L1.out).trans (k3.mono fun b h => h.imp id fun h => by omega)
  clear k1 k3 KP KG1
  go_wp2_with fail
  go_ret
  exact ⟨g, rfl, R.out, by omega, F.out⟩
set_option maxRecDepth 100000 in
set_option maxHeartbeats 3200000 in
theorem tone_new (w : World) (p g : Nat) (T : Int → Option Int) (h : KG w p g T) (k s : Int) (hk : K3 k) (hT : T k = none) (hm : 0 < kmany T) (hm3 : kmany T ≤ 3) (h1 : 1 ≤ s) (h2 : s ≤ 2305843009213693952) :
    Calls Tryz.prog 122 #[.agg #[.int .u64 k, .int .i64 s], .int .i64 1, .pointer (some ⟨p, 0, none⟩)] w fun e w' => e = .returned (.int .i64 0) ∧ KG w' p g (tput T k 0) ∧ Fr (fun b => b = p ∨ b = g) w w' := by
  have L0 : Below w.heap.size w (w.alloc (.cells #[.int .u64 k, .int .i64 s] 123)) := (Below.refl _ w).alloc (Nat.le_refl _) _
  have H1 := h.below L0
  have KG1 := Lib.hid (kget_any _ p g T H1 k hk hm)
  rw [hT] at KG1
  have hk0 : ¬ k = 0 := by rcases hk with rfl | rfl | rfl <;> decide
  have hs1 : ¬ s < 1 := by omega
  have hs2 : ¬ 2305843009213693952 < s := by omega
  have L1 := Lib.hid L0
  have HH := Lib.hid H1
  clear h H1 L0
  go_enter Tryz.func122, Tryz.ntmps122
  go_wp2_with fail
  refine (KG1.out).mono ?_
  rintro e w1 ⟨rfl, b1⟩
  have KP := Lib.hid (kput_new w1 p g T (HH.out.below b1) k 0 hk hT hm3)
  have B1 : Hid (Below w.heap.size w w1) := L1.out.trans (b1.mono (by rw [World.size_alloc]; omega))
  have c0 := (b1.cell (p := ⟨w.heap.size, 0, none⟩) (by show w.heap.size < _; simp)).trans (show (w.alloc (.cells #[.int .u64 k, .int .i64 s] 123)).cell? ⟨w.heap.size, 0, none⟩ = some (.int .u64 k) from by simp)
  have c1 := (b1.cell (p := ⟨w.heap.size, 1, none⟩) (by show w.heap.size < _; simp)).trans (show (w.alloc (.cells #[.int .u64 k, .int .i64 s] 123)).cell? ⟨w.heap.size, 1, none⟩ = some (.int .i64 s) from by simp)
  clear b1 KG1 HH
  go_wp2_with fail
  refine (KP.out).mono ?_
  rintro e w2 ⟨rfl, k1, k3⟩
  have R := Lib.hid k1
  have F : Hid (Fr (fun b => b = p ∨ b = g) w w2) := (Fr.of_below B1.out).trans k3
  clear k1 k3 KP
  go_wp2_with fail
  go_ret
  exact ⟨rfl, R.out, F.out⟩

/-- The cells of the table. -/
def tabC : Nat → Value := fun j => if j = 0 then .int .u64 9 else if j = 1 then .int .i64 4 else if j = 2 then .int .u64 7 else .int .i64 3
set_option maxRecDepth 100000 in
set_option maxHeartbeats 6400000 in
theorem tcheck_ok (w : World) (t : Nat) (h : w.rowIs t 123 4 tabC) :
    Calls Tryz.prog 62 #[.slice (some ⟨t, 0, none⟩) 2 2, .int .i64 1] w fun e w' => e = .returned (.tuple #[.int .i64 0, .int .i64 0]) ∧ Below w.heap.size w w' := by
  have KN := Lib.hid (knew_any w)
  have ht := h.lt
  have HT := Lib.hid h
  clear h
  go_enter Tryz.func62, Tryz.ntmps62
  go_wp2_with fail
  refine (KN.out).mono ?_
  rintro e w1 ⟨rfl, k1, k2⟩
  have R1 := Lib.hid k1
  have B1 := Lib.hid k2
  clear KN k1 k2
  go_wp2_with fail
  obtain ⟨p, ep⟩ : ∃ p, p = w.heap.size := ⟨_, rfl⟩
  have EP := Lib.hid ep
  rw [← ep] at R1 ⊢
  clear ep
  go_loopw [24] (fun i wr => ∃ k : Nat, i = .int .i64 k ∧ Hid ((k = 0 ∧ wr.rowIs p 190 3 (kmc none 0 0)) ∨ (k = 1 ∧ ∃ g, w.heap.size ≤ g ∧ KG wr p g (tput (fun _ => none) 9 0)) ∨ k = 2) ∧ Hid (Below w.heap.size w wr)) (fun i _ => 2 - (intOf i).toNat)
  case atStart => exact ⟨0, rfl, .inl ⟨rfl, R1.out⟩, B1⟩
  case round =>
    obtain ⟨k, rfl, hM, hD⟩ := hrel
    clear R1 B1
    have T := HT.out.of_block (hD.out.block t ht)
    have t0 : wr.cell? ⟨t, 0, none⟩ = some (.int .u64 9) := T.cell (i := 0) (by omega)
    have t1 : wr.cell? ⟨t, 1, none⟩ = some (.int .i64 4) := T.cell (i := 1) (by omega)
    have t2 : wr.cell? ⟨t, 2, none⟩ = some (.int .u64 7) := T.cell (i := 2) (by omega)
    have t3 : wr.cell? ⟨t, 3, none⟩ = some (.int .i64 3) := T.cell (i := 3) (by omega)
    clear T
    rcases hM.out with ⟨rfl, hR⟩ | ⟨rfl, g, hg, hR⟩ | rfl
    · have L0 : Below wr.heap.size wr (wr.alloc (.cells #[.int .u64 9, .int .i64 4] 123)) := (Below.refl _ wr).alloc (Nat.le_refl _) _
      have KO := Lib.hid (tone_first (wr.alloc (.cells #[.int .u64 9, .int .i64 4] 123)) p (hR.of_block (L0.block p hR.lt)) 9 4 (.inr (.inr rfl)) (by omega) (by omega))
      have B1 := Lib.hid (hD.out.trans (L0.mono hD.out.size))
      have hsz := hD.out.size
      clear hM hD hR L0
      go_wp2_with fail
      refine (KO.out).mono ?_
      rintro e w2 ⟨g, rfl, k1, k2, k3⟩
      have R2 := Lib.hid k1
      have B2 : Hid (Below w.heap.size w w2) := B1.out.trans (k3.below (by rw [World.size_alloc]; omega) (fun b h => by rw [World.size_alloc] at h; have := EP.out; omega))
      have hg : w.heap.size ≤ g := by rw [World.size_alloc] at k2; omega
      clear KO k1 k3
      go_wp2_with fail
      go_roundw
      case rel => exact ⟨1, by go_num, .inr (.inl ⟨rfl, g, hg, R2.out⟩), B2⟩
      case measure => simp [intOf]
    · have L0 : Below wr.heap.size wr (wr.alloc (.cells #[.int .u64 7, .int .i64 3] 123)) := (Below.refl _ wr).alloc (Nat.le_refl _) _
      have KO := Lib.hid (tone_new (wr.alloc (.cells #[.int .u64 7, .int .i64 3] 123)) p g _ (hR.below L0) 7 3 (.inl rfl) rfl (by decide) (by decide) (by omega) (by omega))
      have B1 := Lib.hid (hD.out.trans (L0.mono hD.out.size))
      have hsz := hD.out.size
      clear hM hD hR L0
      go_wp2_with fail
      refine (KO.out).mono ?_
      rintro e w2 ⟨rfl, k1, k3⟩
      have B2 : Hid (Below w.heap.size w w2) := B1.out.trans (k3.below (by rw [World.size_alloc]; omega) (fun b h => by have := EP.out; omega))
      clear KO k1 k3
      go_wp2_with fail
      go_roundw
      case rel => exact ⟨2, by go_num, .inr (.inr rfl), B2⟩
      case measure => simp [intOf]
    · go_wp2_with fail
      go_ret2
      exact ⟨rfl, hD.out⟩
end Go.Proofs.YtfmfmeiaekknbaaGreat
end

section
/-
  float64 over whole numbers below 2^53 is exact: plain facts on the model's words, no Go text.
-/
namespace Go.Proofs.YtfmfmeiaekknbaaGreat
open Ieee

/-- The word of a whole number. -/
def F (n : Int) : Nat := floatOfInt .f64 n
end Go.Proofs.YtfmfmeiaekknbaaGreat
end

section
/-
  Contracts of Tops and Rows of package offsets, and of the law's own comparison of rows.
-/
namespace Go.Proofs.YtfmfmeiaekknbaaGreat
open Go.RowKit
set_option linter.unusedVariables false

theorem Tryz.infoI64 : (Tryz.prog.info? 2).map (fun i => (i.zero, i.size, i.bytes)) = some (some (.int .i64 0), 1, 8) := by kernel_rfl
/-- make([]int64, n). -/
theorem omake_i64 (n : Nat) (x : Int) (hx : x = (n : Int)) (hn : n ≤ 1000000) (W : World) :
    (Instr.makeSlice 34 (.int .i64 x) (.int .i64 x)).run Tryz.prog W = .ok (.slice (some ⟨W.heap.size, 0, none⟩) n n) (W.alloc (.cells (madeCells #[.int .i64 0] n) 2)) := by
  subst hx
  exact run_make_row' 34 2 (.int .i64 0) 8 Tryz.underlying34 Tryz.infoI64 rfl .i64 .i64 n (by omega) (by omega) W
/-- What Tops returns of valid sizes. -/
def TopsOk (l : Nat → Int) (n : Nat) (w : World) (e : Ending) (w' : World) : Prop :=
  ∃ g, e = .returned (.tuple #[.slice (some ⟨g, 0, none⟩) (n + 1) (n + 1), .int .i64 0]) ∧ w'.rowIs g 2 (n + 1) (i64s (psum l)) ∧ w.heap.size ≤ g ∧ Below w.heap.size w w'
/-- What it returns of others. -/
def TopsBad (c : Int) (w : World) (e : Ending) (w' : World) : Prop :=
  e = .returned (.tuple #[.slice none 0 0, .int .i64 c]) ∧ Below w.heap.size w w'
def TopsAny (l : Nat → Int) (n : Nat) (w : World) (e : Ending) (w' : World) : Prop :=
  (chk l n = 0 ∧ TopsOk l n w e w') ∨ (chk l n ≠ 0 ∧ TopsBad (chk l n) w e w')

/-- The tops that are reckoned already. -/
def oupto (l : Nat → Int) (k : Nat) : Nat → Value := fun j => .int .i64 (if j ≤ k then psum l j else 0)

set_option maxHeartbeats 800000 in
theorem tops_any (A : Option Addr) (n c : Nat) (l : Nat → Int) (w : World) (hs : Sees w w.heap.size A n (i64s l)) (hf : ∀ k, Fits (l k)) (hn : n ≤ 1000000000000000) :
    Calls Tryz.prog 12 #[.slice A n c] w (TopsAny l n w) := by
  by_cases hbig : 4096 < n
  · have hc : chk l n = 3 := by unfold chk; rw [if_pos hbig]
    have H : TopsBad 3 w (.returned (.tuple #[.slice none 0 0, .int .i64 3])) w := ⟨rfl, Below.refl _ _⟩
    have HH : TopsAny l n w (.returned (.tuple #[.slice none 0 0, .int .i64 3])) w := .inr ⟨by rw [hc]; decide, by rw [hc]; exact H⟩
    clear hc H
    go_enter Tryz.func12, Tryz.ntmps12
    go_wp2
    go_ret2
    exact HH
  · have hfin : Hid (chk l n = chkTo l n) := by show chk l n = _; unfold chk; rw [if_neg hbig]
    have hle : n ≤ 4096 := by omega
    clear hbig
    have bad : ∀ (k : Nat) (x : Int) (w' : World), k < n → chkTo l (k + 1) = x → x ≠ 0 → Below w.heap.size w w' → TopsAny l n w (.returned (.tuple #[.slice none 0 0, .int .i64 x])) w' := by
      intro k x w' hk hx hx0 hb
      have e : chk l n = x := hfin.out.trans ((chkTo_stays l (by rw [hx]; exact hx0) hk).trans hx)
      exact .inr ⟨by rw [e]; exact hx0, by rw [e]; exact ⟨rfl, hb⟩⟩
    have HB := Lib.hid bad; clear bad
    have hmk := omake_i64 (n + 1) ((n : Int) + 1) (by omega) (by omega)
    go_enter Tryz.func12, Tryz.ntmps12
    go_wp2
    clear hmk
    go_loopw [16] (fun i wr => ∃ k : Nat, k ≤ n ∧ i = .int .i64 k ∧ wr.rowIs w.heap.size 2 (n + 1) (oupto l k) ∧ Below w.heap.size w wr ∧ Hid (chkTo l k = 0)) (fun i _ => n - (intOf i).toNat)
    case atStart =>
      refine ⟨0, Nat.zero_le _, rfl, (World.rowIs_made w (.int .i64 0) (n + 1) 2).congr (fun j _ => ?_), (Below.refl _ _).alloc (Nat.le_refl _) _, rfl⟩
      unfold oupto
      by_cases hj : j = 0
      · subst hj; rfl
      · rw [if_neg (by omega)]
    case round =>
      obtain ⟨k, hk, rfl, hrow, hb, h0⟩ := hrel
      by_cases hlt : k < n
      · obtain ⟨b, o, rfl, hbb, hcell0⟩ := hs.at_ (k := k) hlt
        have hcell : wr.cell? ⟨b, o + k, none⟩ = some (.int .i64 (l k)) := (hb.cell (p := ⟨b, o + k, none⟩) hbb).trans hcell0
        have hg : wr.cell? ⟨w.heap.size, k, none⟩ = some (.int .i64 (psum l k)) := by
          have := hrow.cell (i := k) (by omega)
          unfold oupto at this
          rwa [if_pos (Nat.le_refl _)] at this
        have hg1 : wr.cell? ⟨w.heap.size, k + 1, none⟩ = some (.int .i64 0) := by
          have := hrow.cell (i := k + 1) (by omega)
          unfold oupto at this
          rwa [if_neg (by omega)] at this
        have hfz : wr.frozen? ⟨w.heap.size, k + 1, none⟩ = false := hrow.frozen _
        clear hcell0
        obtain ⟨p1, p2⟩ := psum_bd l h0.out
        obtain ⟨f1, f2⟩ := hf k
        by_cases c1 : l k < 0
        · have H := HB.out k 12 wr hlt (chkTo_12 l h0.out (.inl c1)) (by decide) hb
          have H := Lib.hid H
          go_wp2
          go_ret2
          exact H.out
        · by_cases c2 : 2305843009213693952 < l k
          · have H := HB.out k 12 wr hlt (chkTo_12 l h0.out (.inr c2)) (by decide) hb
            have H := Lib.hid H
            go_wp2
            go_ret2
            exact H.out
          · by_cases c3 : 4611686018427387904 - psum l k < l k
            · have H := HB.out k 13 wr hlt (chkTo_13 l h0.out (by omega) (by omega) (by omega)) (by decide) hb
              have H := Lib.hid H
              go_wp2
              go_ret2
              exact H.out
            · have H0 : Hid (chkTo l (k + 1) = 0) := chkTo_0 l h0.out (by omega) (by omega) (by omega)
              have hrow' : (wr.setCell ⟨w.heap.size, k + 1, none⟩ (.int .i64 (psum l k + l k))).rowIs w.heap.size 2 (n + 1) (oupto l (k + 1)) := by
                refine (hrow.set (k + 1) _).congr (fun j _ => ?_)
                unfold oupto
                by_cases hj : j = k + 1
                · subst hj
                  rw [if_pos rfl, if_pos (Nat.le_refl _), psum_succ]
                · rw [if_neg hj]
                  by_cases hj2 : j ≤ k
                  · rw [if_pos hj2, if_pos (by omega)]
                  · rw [if_neg hj2, if_neg (by omega)]
              have HR := Lib.hid hrow'; clear hrow'
              go_wp2
              go_roundw
              case rel => exact ⟨k + 1, by omega, by go_num, HR.out, hb.setCell (Nat.le_refl _) _, H0⟩
              case measure => simp [intOf]; omega
      · obtain rfl : k = n := by omega
        have H : TopsAny l k w (.returned (.tuple #[.slice (some ⟨w.heap.size, 0, none⟩) (k + 1) (k + 1), .int .i64 0])) wr := by
          refine .inl ⟨hfin.out.trans h0.out, w.heap.size, rfl, hrow.congr (fun j hj => ?_), Nat.le_refl _, hb⟩
          unfold oupto i64s
          rw [if_pos (by omega)]
        have H := Lib.hid H
        go_wp2
        go_ret2
        exact H.out

attribute [local go_sem] run_store_complex'

end Go.Proofs.YtfmfmeiaekknbaaGreat
end

section
/-
  Fenwick trees, plain: the last bit of a number, its successors; sums. No Go text.
-/
namespace Go.Proofs.YtfmfmeiaekknbaaGreat

/-- k without its last bit. -/
def clr (k : Nat) : Nat := k &&& (k - 1)
/-- The next number whose range holds that of k. -/
def up (k : Nat) : Nat := k + (k - clr k)

theorem clr_odd (q : Nat) : clr (2 * q + 1) = 2 * q := by
  unfold clr
  rw [show 2 * q + 1 - 1 = 2 * q from by omega]
  have h1 := Nat.and_div_two (a := 2 * q + 1) (b := 2 * q)
  have h2 := Nat.and_mod_two_pow (a := 2 * q + 1) (b := 2 * q) (n := 1)
  rw [show (2 * q + 1) / 2 = q from by omega, show 2 * q / 2 = q from by omega, Nat.and_self] at h1
  rw [show (2 * q + 1) % 2 ^ 1 = 1 from by omega, show 2 * q % 2 ^ 1 = 0 from by omega] at h2
  simp at h2
  omega
theorem clr_even (q : Nat) (hq : 0 < q) : clr (2 * q) = 2 * clr q := by
  unfold clr
  have h1 := Nat.and_div_two (a := 2 * q) (b := 2 * q - 1)
  have h2 := Nat.and_mod_two_pow (a := 2 * q) (b := 2 * q - 1) (n := 1)
  rw [show 2 * q / 2 = q from by omega, show (2 * q - 1) / 2 = q - 1 from by omega] at h1
  rw [show 2 * q % 2 ^ 1 = 0 from by omega] at h2
  simp at h2
  omega
theorem parity (k : Nat) : (∃ q, k = 2 * q + 1) ∨ ∃ q, k = 2 * q := by
  rcases Nat.mod_two_eq_zero_or_one k with h | h
  · exact .inr ⟨k / 2, by omega⟩
  · exact .inl ⟨k / 2, by omega⟩
theorem clr_lt (k : Nat) (h : 0 < k) : clr k < k := by
  have : clr k ≤ k - 1 := Nat.and_le_right
  omega
theorem up_odd (q : Nat) : up (2 * q + 1) = 2 * (q + 1) := by unfold up; rw [clr_odd]; omega
theorem up_even (q : Nat) (h : 0 < q) : up (2 * q) = 2 * up q := by unfold up; rw [clr_even q h]; omega
theorem up_gt (k : Nat) (h : 0 < k) : k < up k := by have := clr_lt k h; unfold up; omega
theorem up_le (k : Nat) : up k ≤ 2 * k := by unfold up; omega
theorem clr_up (k : Nat) (h : 0 < k) : clr (up k) ≤ clr k := by
  induction k using Nat.strongRecOn with
  | ind k ih =>
    rcases parity k with ⟨q, rfl⟩ | ⟨q, rfl⟩
    · rw [up_odd, clr_even _ (by omega), clr_odd]
      have := clr_lt (q + 1) (by omega)
      omega
    · have hq : 0 < q := by omega
      rw [up_even q hq, clr_even _ (by have := up_gt q hq; omega), clr_even q hq]
      have := ih q (by omega) hq
      omega
/-- Between k and its successor. -/
theorem clr_mid (k : Nat) (h : 0 < k) : ∀ m, k < m → m < up k → k ≤ clr m := by
  induction k using Nat.strongRecOn with
  | ind k ih =>
    intro m h1 h2
    rcases parity k with ⟨q, rfl⟩ | ⟨q, rfl⟩
    · rw [up_odd] at h2; omega
    · have hq : 0 < q := by omega
      rw [up_even q hq] at h2
      rcases parity m with ⟨p, rfl⟩ | ⟨p, rfl⟩
      · rw [clr_odd]; omega
      · rw [clr_even p (by omega)]
        have := ih q (by omega) hq p (by omega) (by omega)
        omega
theorem clr_step (t : Nat) : ∀ a, clr (a * 2 ^ (t + 1) + 2 ^ t) = a * 2 ^ (t + 1) := by
  induction t with
  | zero => intro a; rw [show a * 2 ^ (0 + 1) + 2 ^ 0 = 2 * a + 1 from by omega, clr_odd]; omega
  | succ t ih =>
    intro a
    have hp := Nat.two_pow_pos t
    have e : a * 2 ^ (t + 1 + 1) + 2 ^ (t + 1) = 2 * (a * 2 ^ (t + 1) + 2 ^ t) := by rw [Nat.pow_succ 2 (t + 1), Nat.pow_succ 2 t, Nat.mul_add, ← Nat.mul_assoc a, Nat.mul_comm _ 2, Nat.mul_comm (2 ^ t) 2]
    rw [e, clr_even _ (by omega), ih, Nat.pow_succ 2 (t + 1), ← Nat.mul_assoc a, Nat.mul_comm _ 2]
/-- The last bit, by the two's complement. -/
theorem and_neg (t : Nat) : ∀ k, 0 < k → k < 2 ^ t → k &&& (2 ^ t - k) = k - clr k := by
  induction t with
  | zero => intro k h1 h2; omega
  | succ t ih =>
    intro k h1 h2
    rw [Nat.pow_succ] at h2 ⊢
    have h3 := Nat.and_div_two (a := k) (b := 2 ^ t * 2 - k)
    have h4 := Nat.and_mod_two_pow (a := k) (b := 2 ^ t * 2 - k) (n := 1)
    rcases parity k with ⟨q, rfl⟩ | ⟨q, rfl⟩
    · rw [clr_odd]
      rw [show (2 * q + 1) / 2 = q from by omega, show (2 ^ t * 2 - (2 * q + 1)) / 2 = 2 ^ t - 1 - q from by omega] at h3
      rw [show (2 * q + 1) % 2 ^ 1 = 1 from by omega, show (2 ^ t * 2 - (2 * q + 1)) % 2 ^ 1 = 1 from by omega] at h4
      have h4 : ((2 * q + 1) &&& (2 ^ t * 2 - (2 * q + 1))) % 2 = 1 := h4
      have h5 : q &&& (2 ^ t - 1 - q) = 0 := by
        apply Nat.eq_of_testBit_eq
        intro i
        rw [Nat.testBit_and, Nat.zero_testBit, show 2 ^ t - 1 - q = 2 ^ t - (q + 1) from by omega, Nat.testBit_two_pow_sub_succ (by omega)]
        cases q.testBit i <;> simp
      omega
    · have hq : 0 < q := by omega
      rw [clr_even q hq]
      rw [show 2 * q / 2 = q from by omega, show (2 ^ t * 2 - 2 * q) / 2 = 2 ^ t - q from by omega, ih q hq (by omega)] at h3
      rw [show 2 * q % 2 ^ 1 = 0 from by omega] at h4
      simp at h4
      omega

/-! ### Sums -/
/-- The list with by more at i. -/
def plusAt (l : Nat → Int) (i : Nat) (b : Int) : Nat → Int := fun j => if j = i then l i + b else l j
theorem psum_plusAt (l : Nat → Int) (i : Nat) (b : Int) (k : Nat) : psum (plusAt l i b) k = psum l k + if i < k then b else 0 := by
  induction k with
  | zero => rw [if_neg (by omega)]; rfl
  | succ k ih =>
    rw [psum_succ, psum_succ, ih]
    unfold plusAt
    by_cases c : k = i
    · subst c; rw [if_pos rfl, if_neg (by omega), if_pos (by omega)]; omega
    · rw [if_neg c]
      by_cases d : i < k
      · rw [if_pos d, if_pos (by omega)]; omega
      · rw [if_neg d, if_neg (by omega)]; omega
/-- Sizes that a tree may have. -/
structure Sizes (l : Nat → Int) (n : Nat) : Prop where
  nn : ∀ j, j < n → 0 ≤ l j
  top : psum l n ≤ 4611686018427387904
  le : n ≤ 4096
theorem Sizes.mono {l : Nat → Int} {n : Nat} (h : Sizes l n) {a b : Nat} (hab : a ≤ b) (hb : b ≤ n) : psum l a ≤ psum l b := by
  induction b with
  | zero => rw [show a = 0 from by omega]; exact Int.le_refl _
  | succ b ih =>
    by_cases c : a = b + 1
    · subst c; exact Int.le_refl _
    · have := ih (by omega) (by omega)
      have := h.nn b (by omega)
      rw [psum_succ]; omega
theorem Sizes.bd {l : Nat → Int} {n : Nat} (h : Sizes l n) {a : Nat} (ha : a ≤ n) : 0 ≤ psum l a ∧ psum l a ≤ 4611686018427387904 := by
  have h1 := h.mono (Nat.zero_le a) ha
  have h2 := h.mono ha (Nat.le_refl n)
  have h3 := h.top
  have h4 : psum l 0 = 0 := rfl
  omega
/-- What the sums of a tree are. -/
def fsum (l : Nat → Int) (k : Nat) : Int := psum l k - psum l (clr k)
theorem Sizes.fsum_bd {l : Nat → Int} {n : Nat} (h : Sizes l n) {k : Nat} (hk : k ≤ n) : 0 ≤ fsum l k ∧ fsum l k ≤ 4611686018427387904 := by
  have hc : clr k ≤ k := Nat.and_le_left
  have h1 := h.mono hc hk
  have h2 := h.bd hk
  have h3 := h.bd (Nat.le_trans hc hk)
  unfold fsum; omega
theorem fsum_plusAt (l : Nat → Int) (i : Nat) (b : Int) (k : Nat) : fsum (plusAt l i b) k = fsum l k + if clr k ≤ i ∧ i < k then b else 0 := by
  have hc : clr k ≤ k := Nat.and_le_left
  unfold fsum
  rw [psum_plusAt, psum_plusAt]
  by_cases c : i < k
  · rw [if_pos c]
    by_cases d : i < clr k
    · rw [if_pos d, if_neg (by omega)]; omega
    · rw [if_neg d, if_pos (by omega)]; omega
  · rw [if_neg c, if_neg (by omega), if_neg (by omega)]; omega
end Go.Proofs.YtfmfmeiaekknbaaGreat
end

section
/-
  Contracts of package fenwicks, first: the tree in memory; none, Len, Total, at, the successor.
-/
namespace Go.Proofs.YtfmfmeiaekknbaaGreat
open Go.RowKit
set_option linter.unusedVariables false

/-- The tree's four cells. -/
def treeCells (gs gt n : Nat) (total : Int) : Nat → Value := fun j => if j = 0 then .bool true else if j = 1 then .slice (some ⟨gs, 0, none⟩) n n else if j = 2 then .slice (some ⟨gt, 0, none⟩) (n + 1) (n + 1) else .int .i64 total

/-- A tree at p, its sizes in block gs, its sums in block gt. -/
structure FG (w : World) (p gs gt n : Nat) (l : Nat → Int) : Prop where
  hp : w.rowIs p 105 4 (treeCells gs gt n (psum l n))
  hs : w.rowIs gs 2 n (i64s l)
  ht : w.rowIs gt 2 (n + 1) (i64s (fsum l))
  ne1 : gs ≠ p
  ne2 : gt ≠ p
  ne3 : gt ≠ gs
  ok : Sizes l n

/-- The same; its memory lies from block B on. -/
def Fen (w : World) (B p n : Nat) (l : Nat → Int) : Prop := ∃ gs gt, FG w p gs gt n l ∧ B ≤ p ∧ B ≤ gs ∧ B ≤ gt

theorem Fen.ok {w : World} {B p n : Nat} {l : Nat → Int} (h : Fen w B p n l) : Sizes l n := by
  obtain ⟨gs, gt, h1, _⟩ := h
  exact h1.ok
theorem Fen.keep {w w' : World} {B p n : Nat} {l : Nat → Int} (h : Fen w B p n l) (k : ∀ b, B ≤ b → b < w.heap.size → w'.heap[b]? = w.heap[b]?) : Fen w' B p n l := by
  obtain ⟨gs, gt, h1, b1, b2, b3⟩ := h
  exact ⟨gs, gt, ⟨h1.hp.of_block (k p b1 h1.hp.lt), h1.hs.of_block (k gs b2 h1.hs.lt), h1.ht.of_block (k gt b3 h1.ht.lt), h1.ne1, h1.ne2, h1.ne3, h1.ok⟩, b1, b2, b3⟩
theorem Fen.below {w w' : World} {B p n : Nat} {l : Nat → Int} (h : Fen w B p n l) (hb : Below w.heap.size w w') : Fen w' B p n l := h.keep fun b _ hb' => hb.block b hb'
theorem Fen.drawn {w w' : World} {B p n : Nat} {l : Nat → Int} (h : Fen w B p n l) (hd : Drawn w w') : Fen w' B p n l := by obtain ⟨q, rfl⟩ := hd; exact h.keep fun _ _ _ => rfl
theorem Fen.less {w : World} {B B' p n : Nat} {l : Nat → Int} (h : Fen w B p n l) (hB : B' ≤ B) : Fen w B' p n l := by
  obtain ⟨gs, gt, h1, b1, b2, b3⟩ := h
  exact ⟨gs, gt, h1, by omega, by omega, by omega⟩

/-- The cells of the tree as the walk reads them. -/
structure TCells (w : World) (p gs gt n : Nat) (t : Int) : Prop where
  c0 : w.cell? ⟨p, 0, none⟩ = some (.bool true)
  c1 : w.cell? ⟨p, 1, none⟩ = some (.slice (some ⟨gs, 0, none⟩) n n)
  c2 : w.cell? ⟨p, 2, none⟩ = some (.slice (some ⟨gt, 0, none⟩) (n + 1) (n + 1))
  c3 : w.cell? ⟨p, 3, none⟩ = some (.int .i64 t)
  fz : ∀ i, w.frozen? ⟨p, i, none⟩ = false
theorem tcells_of {w : World} {p gs gt n : Nat} {t : Int} (h : w.rowIs p 105 4 (treeCells gs gt n t)) : TCells w p gs gt n t :=
  ⟨h.cell (i := 0) (by omega), h.cell (i := 1) (by omega), h.cell (i := 2) (by omega), h.cell (i := 3) (by omega), fun i => h.frozen i⟩

set_option maxHeartbeats 400000 in
theorem none_no (w : World) (p : Nat) (c0 : w.cell? ⟨p, 0, none⟩ = some (.bool true)) :
    Calls Tryz.prog 56 #[.pointer (some ⟨p, 0, none⟩)] w fun e w' => e = .returned (.bool false) ∧ w = w' := by
  go_enter Tryz.func56, Tryz.ntmps56
  go_wp2_with fail
  go_ret
  exact ⟨rfl, rfl⟩
theorem ftotal_any (w : World) (B p n : Nat) (l : Nat → Int) (h : Fen w B p n l) :
    Calls Tryz.prog 67 #[.pointer (some ⟨p, 0, none⟩)] w fun e w' => e = .returned (.int .i64 (psum l n)) ∧ w = w' := by
  obtain ⟨gs, gt, h1, _⟩ := h
  obtain ⟨c0, c1, c2, c3, fz⟩ := tcells_of h1.hp
  clear fz h1
  go_enter Tryz.func67, Tryz.ntmps67
  go_wp2_with fail
  refine (none_no w p c0).mono ?_
  rintro e w' ⟨rfl, rfl⟩
  go_wp2_with fail
  go_ret
  exact ⟨rfl, rfl⟩

theorem bits_low (k : Nat) (h0 : 0 < k) (h : k ≤ 100000) : bits .and .i64 (k : Int) (-(k : Int)) = ((k - clr k : Nat) : Int) := by
  have hx := and_neg 64 k h0 (by omega)
  have h1 : (BitVec.ofInt 64 (k : Int)).toNat = k := by
    rw [BitVec.ofInt_natCast, BitVec.toNat_ofNat]; exact Nat.mod_eq_of_lt (by omega)
  have h2 : (BitVec.ofInt 64 (-(k : Int))).toNat = 2 ^ 64 - k := by
    rw [BitVec.toNat_ofInt]; omega
  show IntKind.i64.wrap ((BitVec.ofInt 64 (k : Int) &&& BitVec.ofInt 64 (-(k : Int))).toNat : Int) = _
  rw [BitVec.toNat_and, h1, h2, hx, IntKind.wrap_i64]
  omega

set_option maxHeartbeats 400000 in
theorem up_any (w : World) (k : Nat) (h1 : 0 < k) (h2 : k ≤ 100000) :
    Calls Tryz.prog 114 #[.int .i64 k] w fun e w' => e = .returned (.int .i64 (up k)) ∧ w = w' := by
  have h := bits_low k h1 h2
  have hu : Hid ((k : Int) + ((k - clr k : Nat) : Int) = (up k : Int)) := by show _ = _; unfold up; omega
  obtain ⟨d, hd⟩ : ∃ d : Nat, d = k - clr k := ⟨_, rfl⟩
  have hd2 : d ≤ k := by omega
  rw [← hd] at h hu
  clear hd
  go_enter Tryz.func114, Tryz.ntmps114
  go_wp2_with fail
  go_ret
  exact ⟨ret_int hu.out, rfl⟩
end Go.Proofs.YtfmfmeiaekknbaaGreat
end

section
/-
  Contracts of package fenwicks, second: At, Sum, add.
-/
namespace Go.Proofs.YtfmfmeiaekknbaaGreat
open Go.RowKit
set_option linter.unusedVariables false

theorem plusAt_at (l : Nat → Int) (i : Nat) (b : Int) : plusAt l i b i = l i + b := if_pos rfl
theorem plusAt_ne (l : Nat → Int) {i j : Nat} (b : Int) (h : j ≠ i) : plusAt l i b j = l j := if_neg h

set_option maxHeartbeats 1600000 in
theorem add_any (w : World) (B p n : Nat) (l : Nat → Int) (h : Fen w B p n l) (hB : B ≤ w.heap.size) (i : Nat) (hi : i < n) (b : Int) (fb : Fits b) (ho : Sizes (plusAt l i b) n) :
    Calls Tryz.prog 51 #[.pointer (some ⟨p, 0, none⟩), .int .i64 i, .int .i64 b] w fun e w' => e = .returned (.tuple #[]) ∧ Fen w' B p n (plusAt l i b) ∧ Below B w w' := by
  obtain ⟨gs, gt, h1, b1, b2, b3⟩ := h
  obtain ⟨c0, c1, c2, c3, fz⟩ := tcells_of h1.hp
  have z3 := fz 3
  have hc := h1.hs.cell hi
  have hf := h1.hs.frozen i
  rw [i64s_at] at hc
  have hn := h1.ok.le
  have o1 := ho.nn i hi
  have o2 := h1.ok.nn i hi
  have o3 := h1.ok.mono (a := i) (b := i + 1) (by omega) hi
  have o4 := h1.ok.bd (a := i + 1) hi
  have o5 := h1.ok.bd (a := i) (by omega)
  rw [psum_succ] at o4 o3
  have o6 := ho.mono (a := i) (b := i + 1) (by omega) hi
  have o7 := ho.bd (a := i + 1) hi
  have o8 := ho.bd (a := i) (by omega)
  rw [psum_succ] at o7 o6
  rw [plusAt_at] at o1 o6 o7
  have t1 := h1.ok.bd (Nat.le_refl n)
  have t2 := ho.bd (Nat.le_refl n)
  have t3 := psum_plusAt l i b n
  rw [if_pos hi] at t3
  have T3 := Lib.hid t3
  have t4 : 0 ≤ psum l n + b ∧ psum l n + b ≤ 4611686018427387904 := by omega
  obtain ⟨a1, a2⟩ : 0 ≤ l i + b ∧ l i + b ≤ 4611686018427387904 := by omega
  obtain ⟨a3, a4⟩ := t4
  have HG := Lib.hid h1
  have HO := Lib.hid ho
  have NE1 := Lib.hid h1.ne1
  obtain ⟨f1, f2⟩ := fb
  have e1 : psum l n ≤ 4611686018427387904 := t1.2
  have e2 : 0 ≤ psum l n := t1.1
  have e3 : l i ≤ 4611686018427387904 := by omega
  clear t1 t2 t3 o3 o4 o5 o6 o7 o8 o1 fz h1 ho
  have k3 : ∀ v, (w.setCell ⟨gs, i, none⟩ v).cell? ⟨p, 3, none⟩ = some (.int .i64 (psum l n)) := fun v => by
    rw [World.cell?_setCell_other _ _ _ _ (fun e => NE1.out (by injection e))]; exact c3
  -- the tree behind the two stores, its sums as before
  have HW : ∀ w2, w2 = (w.setCell ⟨gs, i, none⟩ (.int .i64 (l i + b))).setCell ⟨p, 3, none⟩ (.int .i64 (psum l n + b)) →
      w2.rowIs p 105 4 (treeCells gs gt n (psum (plusAt l i b) n)) ∧ w2.rowIs gs 2 n (i64s (plusAt l i b)) ∧ w2.rowIs gt 2 (n + 1) (i64s (fsum l)) ∧ Below B w w2 := by
    rintro w2 rfl
    refine ⟨(((HG.out.hp.setOther (Ne.symm NE1.out) _).set 3 _)).congr fun j hj => ?_, ((HG.out.hs.set i _).setOther NE1.out _).congr fun j hj => ?_, (HG.out.ht.setOther HG.out.ne3 _).setOther HG.out.ne2 _, (((Below.refl B w).setCell (p := ⟨gs, i, none⟩) b2 _).setCell (p := ⟨p, 3, none⟩) b1 _)⟩
    · match j, hj with
      | 0, _ => rfl
      | 1, _ => rfl
      | 2, _ => rfl
      | 3, _ => show Value.int .i64 _ = Value.int .i64 _; rw [T3.out]
    · show (if j = i then Value.int .i64 (l i + b) else .int .i64 (l j)) = .int .i64 (plusAt l i b j)
      by_cases c : j = i
      · rw [if_pos c, c, plusAt_at]
      · rw [if_neg c, plusAt_ne l b c]
  have HW' := Lib.hid HW
  clear HW
  go_enter Tryz.func51, Tryz.ntmps51
  go_wp2_with fail
  obtain ⟨w2, e2⟩ : ∃ w2, w2 = (w.setCell ⟨gs, i, none⟩ (.int .i64 (l i + b))).setCell ⟨p, 3, none⟩ (.int .i64 (psum l n + b)) := ⟨_, rfl⟩
  rw [← e2]
  obtain ⟨r1, r2, r3, r4⟩ := HW'.out w2 e2
  clear e2 HW' k3
  have NE2 := Lib.hid HG.out.ne2
  have NE3 := Lib.hid HG.out.ne3
  have OL := Lib.hid HG.out.ok
  have R := Lib.hid (show w2.rowIs p 105 4 (treeCells gs gt n (psum (plusAt l i b) n)) ∧ w2.rowIs gs 2 n (i64s (plusAt l i b)) ∧ w2.rowIs gt 2 (n + 1) (i64s fun m => if m < i + 1 then fsum (plusAt l i b) m else fsum l m) ∧ Below B w w2 from
    ⟨r1, r2, r3.congr (fun m _ => by
      show Value.int .i64 (fsum l m) = Value.int .i64 (if m < i + 1 then fsum (plusAt l i b) m else fsum l m)
      by_cases c : m < i + 1
      · rw [if_pos c, fsum_plusAt, if_neg (by omega), Int.add_zero]
      · rw [if_neg c]), r4⟩)
  have hci := clr_lt (i + 1) (by omega)
  clear r1 r2 r3 r4 c0 c1 c2 c3 z3 hc hf HG T3
  go_loopw [7] (fun k wr => ∃ j : Nat, clr j ≤ i ∧ i < j ∧ j ≤ 8192 ∧ k = .int .i64 j ∧ Hid (wr.rowIs p 105 4 (treeCells gs gt n (psum (plusAt l i b) n)) ∧ wr.rowIs gs 2 n (i64s (plusAt l i b)) ∧ wr.rowIs gt 2 (n + 1) (i64s fun m => if m < j then fsum (plusAt l i b) m else fsum l m) ∧ Below B w wr)) (fun k _ => n + 1 - (intOf k).toNat)
  case atStart => exact ⟨i + 1, by omega, by omega, by omega, by first | rfl | go_num, R⟩
  case round =>
    obtain ⟨j, hj1, hj2, hj3, rfl, hR⟩ := hrel
    obtain ⟨c0, c1, c2, c3, fz⟩ := tcells_of hR.out.1
    clear R fz
    by_cases hlt : j < n + 1
    · have hc := hR.out.2.2.1.cell (i := j) hlt
      have hf := hR.out.2.2.1.frozen j
      rw [i64s_at, if_neg (Nat.lt_irrefl j)] at hc
      have hki : (j : Int) < (n : Int) + 1 := by omega
      have b5 := OL.out.fsum_bd (k := j) (by omega)
      have b6 := HO.out.fsum_bd (k := j) (by omega)
      have b7 := fsum_plusAt l i b j
      rw [if_pos ⟨hj1, hj2⟩] at b7
      rw [b7] at b6
      obtain ⟨b51, b52⟩ := b5
      obtain ⟨b61, b62⟩ := b6
      have B7 := Lib.hid b7
      have u1 := up_gt j (by omega)
      have u2 := up_le j
      have u3 := clr_up j (by omega)
      have u4 := clr_mid j (by omega)
      have U4 := Lib.hid u4
      clear b7 u4
      have HN : Hid (∀ wr', wr' = wr.setCell ⟨gt, j, none⟩ (.int .i64 (fsum l j + b)) → wr'.rowIs p 105 4 (treeCells gs gt n (psum (plusAt l i b) n)) ∧ wr'.rowIs gs 2 n (i64s (plusAt l i b)) ∧ wr'.rowIs gt 2 (n + 1) (i64s fun m => if m < up j then fsum (plusAt l i b) m else fsum l m) ∧ Below B w wr') := by
        rintro wr' rfl
        refine ⟨hR.out.1.setOther (Ne.symm NE2.out) _, hR.out.2.1.setOther (Ne.symm NE3.out) _, (hR.out.2.2.1.set j _).congr fun m _ => ?_, hR.out.2.2.2.setCell (p := ⟨gt, j, none⟩) b3 _⟩
        show (if m = j then Value.int .i64 (fsum l j + b) else .int .i64 (if m < j then fsum (plusAt l i b) m else fsum l m)) = .int .i64 (if m < up j then fsum (plusAt l i b) m else fsum l m)
        by_cases d1 : m = j
        · rw [if_pos d1, d1, if_pos u1, B7.out]
        · rw [if_neg d1]
          by_cases d2 : m < j
          · rw [if_pos d2, if_pos (by omega)]
          · rw [if_neg d2]
            by_cases d3 : m < up j
            · rw [if_pos d3, fsum_plusAt, if_neg (by have := U4.out m (by omega) d3; omega), Int.add_zero]
            · rw [if_neg d3]
      obtain ⟨q, hq⟩ : ∃ q, q = up j := ⟨_, rfl⟩
      have HU : Hid (∀ W, Calls Tryz.prog 114 #[.int .i64 j] W fun e w' => e = .returned (.int .i64 q) ∧ W = w') := by rw [hq]; exact fun W => up_any W j (by omega) (by omega)
      rw [← hq] at u1 u2 u3 HN
      clear hq U4 B7 hR
      go_wp2_with fail
      refine (HU.out _).mono ?_
      rintro e w' ⟨rfl, rfl⟩
      go_wp2_with fail
      go_roundw
      case rel => exact ⟨q, by omega, by omega, by omega, by go_num, HN.out _ rfl⟩
      case measure => simp [intOf]; omega
    · have HE : Hid (Fen wr B p n (plusAt l i b) ∧ Below B w wr) := ⟨⟨gs, gt, ⟨hR.out.1, hR.out.2.1, hR.out.2.2.1.congr fun m hm => by show Value.int .i64 (if m < j then _ else _) = _; rw [if_pos (by omega)]; rfl, NE1.out, NE2.out, NE3.out, HO.out⟩, b1, b2, b3⟩, hR.out.2.2.2⟩
      clear hR
      go_wp2_with fail
      go_end0
      exact ⟨rfl, HE.out⟩
end Go.Proofs.YtfmfmeiaekknbaaGreat
end

section
/-
  Contracts of package fenwicks, third: Check, New.
-/
namespace Go.Proofs.YtfmfmeiaekknbaaGreat
open Go.RowKit
set_option linter.unusedVariables false

theorem infoI64 : (Tryz.prog.info? 2).map (fun i => (i.zero, i.size, i.bytes)) = some (some (.int .i64 0), 1, 8) := by kernel_rfl
/-- make([]int64, n). -/
theorem make_i64 (n : Nat) (x : Int) (hx : x = (n : Int)) (hn : n ≤ 1000000) (W : World) :
    (Instr.makeSlice 34 (.int .i64 x) (.int .i64 x)).run Tryz.prog W = .ok (.slice (some ⟨W.heap.size, 0, none⟩) n n) (W.alloc (.cells (madeCells #[.int .i64 0] n) 2)) := by
  subst hx
  exact run_make_row' 34 2 (.int .i64 0) 8 Tryz.underlying34 infoI64 rfl .i64 .i64 n (by omega) (by omega) W

/-- The first k sizes. -/
def upto (l : Nat → Int) (k : Nat) : Nat → Int := fun j => if j < k then l j else 0
theorem upto_step (l : Nat → Int) (k : Nat) : plusAt (upto l k) k (l k) = upto l (k + 1) := by
  funext j
  unfold plusAt upto
  by_cases c : j = k
  · subst c; rw [if_pos rfl, if_neg (by omega), if_pos (by omega)]; omega
  · rw [if_neg c]
    by_cases d : j < k
    · rw [if_pos d, if_pos (by omega)]
    · rw [if_neg d, if_neg (by omega)]
theorem psum_upto (l : Nat → Int) (k : Nat) : ∀ m, psum (upto l k) m = psum l (min m k) := by
  intro m
  induction m with
  | zero => rw [Nat.zero_min]; rfl
  | succ m ih =>
    rw [psum_succ, ih]
    unfold upto
    by_cases c : m < k
    · rw [if_pos c, show min m k = m from by omega, show min (m + 1) k = m + 1 from by omega, psum_succ]
    · rw [if_neg c, show min m k = k from by omega, show min (m + 1) k = k from by omega]; omega
theorem sizes_of_chk (l : Nat → Int) (n : Nat) (hn : n ≤ 4096) (h : chkTo l n = 0) : Sizes l n :=
  ⟨fun j hj => (chkTo_step l (chkTo_zero l h (show j + 1 ≤ n from hj))).2.1, (psum_bd l h).2, hn⟩
theorem sizes_upto (l : Nat → Int) (n k : Nat) (h : Sizes l n) : Sizes (upto l k) n := by
  refine ⟨fun j hj => ?_, ?_, h.le⟩
  · unfold upto; by_cases c : j < k
    · rw [if_pos c]; exact h.nn j hj
    · rw [if_neg c]; exact Int.le_refl _
  · rw [psum_upto]; exact (h.bd (show min n k ≤ n by omega)).2
theorem psum_zero (k : Nat) (l : Nat → Int) : psum (upto l 0) k = 0 := by rw [psum_upto, Nat.min_zero]; rfl
theorem fsum_zero (k : Nat) (l : Nat → Int) : fsum (upto l 0) k = 0 := by unfold fsum; rw [psum_zero, psum_zero]; rfl

/-- The tree whose two rows and whose cells were made, in some order. -/
theorem fen_made (w : World) (W : World) (p gs gt n : Nat) (l : Nat → Int) (h : Sizes l n) (hp : W.rowIs p 105 4 (treeCells gs gt n 0)) (hs : W.rowIs gs 2 n (fun _ => .int .i64 0)) (ht : W.rowIs gt 2 (n + 1) (fun _ => .int .i64 0))
    (n1 : gs ≠ p) (n2 : gt ≠ p) (n3 : gt ≠ gs) (b1 : w.heap.size ≤ p) (b2 : w.heap.size ≤ gs) (b3 : w.heap.size ≤ gt) : Fen W w.heap.size p n (upto l 0) :=
  ⟨gs, gt, ⟨by rw [psum_zero]; exact hp, hs.congr fun j _ => (by show Value.int .i64 0 = Value.int .i64 (upto l 0 j); unfold upto; rw [if_neg (by omega)]), ht.congr fun j _ => (by show Value.int .i64 0 = Value.int .i64 (fsum (upto l 0) j); rw [fsum_zero]), n1, n2, n3, sizes_upto l n 0 h⟩, b1, b2, b3⟩

theorem fen_congr {w : World} {B p n : Nat} {l l' : Nat → Int} (h : Fen w B p n l) (e : ∀ j, j < n → l j = l' j) : Fen w B p n l' := by
  obtain ⟨gs, gt, h1, b1, b2, b3⟩ := h
  have ep : ∀ k, k ≤ n → psum l k = psum l' k := by
    intro k
    induction k with
    | zero => intro _; rfl
    | succ k ih => intro hk; rw [psum_succ, psum_succ, ih (by omega), e k (by omega)]
  refine ⟨gs, gt, ⟨by rw [← ep n (Nat.le_refl n)]; exact h1.hp, h1.hs.congr fun j hj => (by show Value.int .i64 _ = Value.int .i64 _; rw [e j hj]), h1.ht.congr fun j hj => ?_, h1.ne1, h1.ne2, h1.ne3, ⟨fun j hj => by rw [← e j hj]; exact h1.ok.nn j hj, by rw [← ep n (Nat.le_refl n)]; exact h1.ok.top, h1.ok.le⟩⟩, b1, b2, b3⟩
  have hc : clr j ≤ j := Nat.and_le_left
  show Value.int .i64 (fsum l j) = Value.int .i64 (fsum l' j)
  unfold fsum
  rw [ep j (by omega), ep (clr j) (by omega)]
theorem size_alloc' (w : World) (o : Obj) : (w.alloc o).heap.size = w.heap.size + 1 := by simp

/-- What New leaves. -/
def FNewPost (w : World) (n : Nat) (l : Nat → Int) (e : Ending) (w' : World) : Prop :=
  ∃ p, e = .returned (.tuple #[.pointer (some ⟨p, 0, none⟩), .int .i64 0]) ∧ Fen w' w.heap.size p n l ∧ Below w.heap.size w w'

set_option maxHeartbeats 1600000 in
theorem fnew_ok (A : Option Addr) (n c : Nat) (l : Nat → Int) (w : World) (hs : Sees w w.heap.size A n (i64s l)) (hf : ∀ k, Fits (l k)) (hc : chk l n = 0) :
    Calls Tryz.prog 11 #[.slice A n c] w (FNewPost w n l) := by
  have hn : n ≤ 4096 := by
    rcases Nat.lt_or_ge 4096 n with h | h
    · unfold chk at hc; rw [if_pos h] at hc; exact absurd hc (by decide)
    · exact h
  have hck : chkTo l n = 0 := by unfold chk at hc; rwa [if_neg (by omega)] at hc
  have HS := Lib.hid hs
  have HC := Lib.hid hc
  have HO := Lib.hid (sizes_of_chk l n hn hck)
  have HF := Lib.hid hf
  clear hs hc hck hf
  have hm1 := fun W => make_i64 n n rfl (by omega) W
  have hm2 := fun W => make_i64 (n + 1) ((n : Int) + 1) (by omega) (by omega) W
  go_enter Tryz.func11, Tryz.ntmps11
  go_wp2_with fail
  refine (fcheck_any A n c l w _ HS.out HF.out (by omega)).mono ?_
  rintro e w' ⟨rfl, rfl⟩
  rw [HC.out]
  go_wp2_with fail
  go_region
  · have HFe : Hid (Fen (((w.alloc (.cells (madeCells #[.int .i64 0] n) 2)).alloc (.cells (madeCells #[.int .i64 0] (n + 1)) 2)).alloc (.cells #[.bool true, .slice (some ⟨w.heap.size, 0, none⟩) n n, .slice (some ⟨(w.heap.size + 1), 0, none⟩) (n + 1) (n + 1), .int .i64 0] 105)).drew w.heap.size (w.heap.size + 1 + 1) n (upto l 0)) := by
      refine fen_made w _ _ w.heap.size (w.heap.size + 1) n l HO.out ?_ ((((World.rowIs_made w (.int .i64 0) n 2).alloc _).alloc _).drew) (((by simpa using World.rowIs_made (w.alloc (.cells (madeCells #[.int .i64 0] n) 2)) (.int .i64 0) (n + 1) 2 : ((w.alloc (.cells (madeCells #[.int .i64 0] n) 2)).alloc (.cells (madeCells #[.int .i64 0] (n + 1)) 2)).rowIs (w.heap.size + 1) 2 (n + 1) (fun _ => .int .i64 0)).alloc _).drew) (by omega) (by omega) (by omega) (by omega) (by omega) (by omega)
      have := World.rowIs_alloc ((w.alloc (.cells (madeCells #[.int .i64 0] n) 2)).alloc (.cells (madeCells #[.int .i64 0] (n + 1)) 2)) #[.bool true, .slice (some ⟨w.heap.size, 0, none⟩) n n, .slice (some ⟨(w.heap.size + 1), 0, none⟩) (n + 1) (n + 1), .int .i64 0] 105 (treeCells w.heap.size (w.heap.size + 1) n 0) (fun j hj => by
        match j, hj with
        | 0, _ => rfl
        | 1, _ => rfl
        | 2, _ => rfl
        | 3, _ => rfl)
      simp only [size_alloc'] at this
      exact this
    have HBl : Hid (Below w.heap.size w (((w.alloc (.cells (madeCells #[.int .i64 0] n) 2)).alloc (.cells (madeCells #[.int .i64 0] (n + 1)) 2)).alloc (.cells #[.bool true, .slice (some ⟨w.heap.size, 0, none⟩) n n, .slice (some ⟨(w.heap.size + 1), 0, none⟩) (n + 1) (n + 1), .int .i64 0] 105)).drew) := ((((Below.refl _ w).alloc (Nat.le_refl _) _).alloc (by simp) _).alloc (by simp; omega) _).drew
    obtain ⟨p, hp⟩ : ∃ p, p = w.heap.size + 1 + 1 := ⟨_, rfl⟩
    rw [← hp] at HFe
    rw [← hp]
    clear hp hm1 hm2
    go_wp2_with fail
    go_loopw [24] (fun i wr => ∃ k : Nat, k ≤ n ∧ i = .int .i64 k ∧ Hid (Fen wr w.heap.size p n (upto l k)) ∧ Hid (Below w.heap.size w wr)) (fun i _ => n - (intOf i).toNat)
    case atStart => exact ⟨0, Nat.zero_le _, rfl, HFe, HBl⟩
    case round =>
      obtain ⟨k, hk, rfl, hFe, hBl⟩ := hrel
      clear HFe HBl
      by_cases hlt : k < n
      · obtain ⟨b, o, rfl, _, hc⟩ := (HS.out.below hBl.out).at_ hlt
        rw [i64s_at] at hc
        have HA : Hid (Calls Tryz.prog 51 #[.pointer (some ⟨p, 0, none⟩), .int .i64 k, .int .i64 (l k)] wr fun e w' => e = .returned (.tuple #[]) ∧ Fen w' w.heap.size p n (upto l (k + 1)) ∧ Below w.heap.size wr w') := by
          have := add_any wr w.heap.size p n (upto l k) hFe.out hBl.out.size k hlt (l k) (HF.out k) (by rw [upto_step]; exact sizes_upto l n _ HO.out)
          rw [upto_step] at this
          exact this
        go_wp2_with fail
        refine HA.out.mono ?_
        rintro e w5 ⟨rfl, h5, h6⟩
        have h7 := Lib.hid h5
        have h8 := Lib.hid (hBl.out.trans h6)
        clear h5 h6 HA
        go_wp2_with fail
        go_roundw
        case rel => exact ⟨k + 1, by omega, by go_num, h7, h8⟩
        case measure => simp [intOf]; omega
      · obtain rfl : k = n := by omega
        have HP : Hid (FNewPost w k l (.returned (.tuple #[.pointer (some ⟨p, 0, none⟩), .int .i64 0])) wr) := ⟨p, rfl, fen_congr hFe.out fun j hj => if_pos hj, hBl.out⟩
        clear hFe hBl
        go_wp2_with fail
        go_ret2
        exact HP.out
  · have HFe : Hid (Fen (((w.alloc (.cells (madeCells #[.int .i64 0] (n + 1)) 2)).alloc (.cells (madeCells #[.int .i64 0] n) 2)).alloc (.cells #[.bool true, .slice (some ⟨(w.heap.size + 1), 0, none⟩) n n, .slice (some ⟨w.heap.size, 0, none⟩) (n + 1) (n + 1), .int .i64 0] 105)).drew w.heap.size (w.heap.size + 1 + 1) n (upto l 0)) := by
      refine fen_made w _ _ (w.heap.size + 1) w.heap.size n l HO.out ?_ (((by simpa using World.rowIs_made (w.alloc (.cells (madeCells #[.int .i64 0] (n + 1)) 2)) (.int .i64 0) n 2 : ((w.alloc (.cells (madeCells #[.int .i64 0] (n + 1)) 2)).alloc (.cells (madeCells #[.int .i64 0] n) 2)).rowIs (w.heap.size + 1) 2 n (fun _ => .int .i64 0)).alloc _).drew) ((((World.rowIs_made w (.int .i64 0) (n + 1) 2).alloc _).alloc _).drew) (by omega) (by omega) (by omega) (by omega) (by omega) (by omega)
      have := World.rowIs_alloc ((w.alloc (.cells (madeCells #[.int .i64 0] (n + 1)) 2)).alloc (.cells (madeCells #[.int .i64 0] n) 2)) #[.bool true, .slice (some ⟨(w.heap.size + 1), 0, none⟩) n n, .slice (some ⟨w.heap.size, 0, none⟩) (n + 1) (n + 1), .int .i64 0] 105 (treeCells (w.heap.size + 1) w.heap.size n 0) (fun j hj => by
        match j, hj with
        | 0, _ => rfl
        | 1, _ => rfl
        | 2, _ => rfl
        | 3, _ => rfl)
      simp only [size_alloc'] at this
      exact this
    have HBl : Hid (Below w.heap.size w (((w.alloc (.cells (madeCells #[.int .i64 0] (n + 1)) 2)).alloc (.cells (madeCells #[.int .i64 0] n) 2)).alloc (.cells #[.bool true, .slice (some ⟨(w.heap.size + 1), 0, none⟩) n n, .slice (some ⟨w.heap.size, 0, none⟩) (n + 1) (n + 1), .int .i64 0] 105)).drew) := ((((Below.refl _ w).alloc (Nat.le_refl _) _).alloc (by simp) _).alloc (by simp; omega) _).drew
    obtain ⟨p, hp⟩ : ∃ p, p = w.heap.size + 1 + 1 := ⟨_, rfl⟩
    rw [← hp] at HFe
    rw [← hp]
    clear hp hm1 hm2
    go_wp2_with fail
    go_loopw [24] (fun i wr => ∃ k : Nat, k ≤ n ∧ i = .int .i64 k ∧ Hid (Fen wr w.heap.size p n (upto l k)) ∧ Hid (Below w.heap.size w wr)) (fun i _ => n - (intOf i).toNat)
    case atStart => exact ⟨0, Nat.zero_le _, rfl, HFe, HBl⟩
    case round =>
      obtain ⟨k, hk, rfl, hFe, hBl⟩ := hrel
      clear HFe HBl
      by_cases hlt : k < n
      · obtain ⟨b, o, rfl, _, hc⟩ := (HS.out.below hBl.out).at_ hlt
        rw [i64s_at] at hc
        have HA : Hid (Calls Tryz.prog 51 #[.pointer (some ⟨p, 0, none⟩), .int .i64 k, .int .i64 (l k)] wr fun e w' => e = .returned (.tuple #[]) ∧ Fen w' w.heap.size p n (upto l (k + 1)) ∧ Below w.heap.size wr w') := by
          have := add_any wr w.heap.size p n (upto l k) hFe.out hBl.out.size k hlt (l k) (HF.out k) (by rw [upto_step]; exact sizes_upto l n _ HO.out)
          rw [upto_step] at this
          exact this
        go_wp2_with fail
        refine HA.out.mono ?_
        rintro e w5 ⟨rfl, h5, h6⟩
        have h7 := Lib.hid h5
        have h8 := Lib.hid (hBl.out.trans h6)
        clear h5 h6 HA
        go_wp2_with fail
        go_roundw
        case rel => exact ⟨k + 1, by omega, by go_num, h7, h8⟩
        case measure => simp [intOf]; omega
      · obtain rfl : k = n := by omega
        have HP : Hid (FNewPost w k l (.returned (.tuple #[.pointer (some ⟨p, 0, none⟩), .int .i64 0])) wr) := ⟨p, rfl, fen_congr hFe.out fun j hj => if_pos hj, hBl.out⟩
        clear hFe hBl
        go_wp2_with fail
        go_ret2
        exact HP.out
end Go.Proofs.YtfmfmeiaekknbaaGreat
end

section
/-
  Flags, plainly: counting bits, words made of bits, the steps of the library's OnesCount64, the lowest bit of a word.
-/
namespace Go.Proofs.YtfmfmeiaekknbaaGreat
set_option linter.unusedVariables false

/-- How many of the first k hold. -/
def cnt (b : Nat → Bool) : Nat → Nat
  | 0 => 0
  | k + 1 => cnt b k + (if b k then 1 else 0)
theorem cnt_zero (b : Nat → Bool) : cnt b 0 = 0 := rfl
theorem cnt_succ (b : Nat → Bool) (k : Nat) : cnt b (k + 1) = cnt b k + (if b k then 1 else 0) := rfl
theorem cnt_le (b : Nat → Bool) : ∀ k, cnt b k ≤ k := by
  intro k
  induction k with
  | zero => exact Nat.le_refl _
  | succ k ih => rw [cnt_succ]; split <;> omega
theorem cnt_congr {x y : Nat → Bool} : ∀ {k : Nat}, (∀ j, j < k → x j = y j) → cnt x k = cnt y k := by
  intro k
  induction k with
  | zero => intro _; rfl
  | succ k ih => intro h; rw [cnt_succ, cnt_succ, ih (fun j hj => h j (by omega)), h k (by omega)]
theorem cnt_add (b : Nat → Bool) (m : Nat) : ∀ k, cnt b (m + k) = cnt b m + cnt (fun j => b (m + j)) k := by
  intro k
  induction k with
  | zero => rfl
  | succ k ih => rw [← Nat.add_assoc, cnt_succ, ih, cnt_succ]; omega
theorem cnt_none {b : Nat → Bool} {k : Nat} (h : ∀ j, j < k → b j = false) : cnt b k = 0 := by
  induction k with
  | zero => rfl
  | succ k ih => rw [cnt_succ, ih (fun j hj => h j (by omega)), h k (by omega)]; rfl
theorem cnt_hit {b : Nat → Bool} {k : Nat} (h : b k = true) : cnt b (k + 1) = cnt b k + 1 := by rw [cnt_succ, h]; rfl
theorem cnt_miss {b : Nat → Bool} {k : Nat} (h : b k = false) : cnt b (k + 1) = cnt b k := by rw [cnt_succ, h]; rfl
/-- The number with given bits. -/
def ofB (f : Nat → Bool) : Nat → Nat
  | 0 => 0
  | k + 1 => ofB f k + (if f k then 2 ^ k else 0)
theorem ofB_lt (f : Nat → Bool) : ∀ k, ofB f k < 2 ^ k := by
  intro k
  induction k with
  | zero => exact Nat.one_pos
  | succ k ih => unfold ofB; rw [Nat.pow_succ]; split <;> omega
theorem testBit_ofB (f : Nat → Bool) : ∀ k j, (ofB f k).testBit j = (decide (j < k) && f j) := by
  intro k
  induction k with
  | zero => intro j; show Nat.testBit 0 j = _; rw [Nat.zero_testBit]; simp
  | succ k ih =>
    intro j
    have hl := ofB_lt f k
    unfold ofB
    cases e : f k with
    | false =>
      simp only [Bool.false_eq_true, if_false, Nat.add_zero, ih]
      by_cases c : j = k
      · subst c; simp [e]
      · by_cases d : j < k
        · simp [d, show j < k + 1 by omega]
        · simp [d, show ¬ j < k + 1 by omega]
    | true =>
      simp only [if_true]
      rw [Nat.add_comm]
      by_cases c : j = k
      · subst c
        rw [Nat.testBit_two_pow_add_eq, ih]; simp [e]
      · by_cases d : j < k
        · rw [Nat.testBit_two_pow_add_gt d, ih]; simp [d, show j < k + 1 by omega]
        · rw [Nat.testBit_lt_two_pow (Nat.lt_of_lt_of_le (show 2 ^ k + ofB f k < 2 ^ (k + 1) by rw [Nat.pow_succ]; omega) (Nat.pow_le_pow_right (by omega) (show k + 1 ≤ j by omega)))]
          simp [show ¬ j < k + 1 by omega]
theorem ofB_congr {f g : Nat → Bool} : ∀ {k : Nat}, (∀ j, j < k → f j = g j) → ofB f k = ofB g k := by
  intro k
  induction k with
  | zero => intro _; rfl
  | succ k ih => intro h; unfold ofB; rw [ih (fun j hj => h j (by omega)), h k (by omega)]
/-- A word without its lowest bit. -/
theorem clr_testBit : ∀ (j x : Nat), (clr x).testBit j = (x.testBit j && decide (0 < cnt x.testBit j)) := by
  intro j
  induction j with
  | zero =>
    intro x
    rcases parity x with ⟨q, rfl⟩ | ⟨q, rfl⟩
    · rw [clr_odd]; simp [cnt, Nat.testBit_zero]
    · rcases Nat.eq_zero_or_pos q with rfl | hq
      · simp [clr]
      · rw [clr_even q hq]; simp [cnt, Nat.testBit_zero]
  | succ j ih =>
    intro x
    have hc : cnt x.testBit (j + 1) = cnt x.testBit 1 + cnt (x / 2).testBit j := by
      rw [Nat.add_comm j 1, cnt_add]
      congr 1
      exact cnt_congr fun i _ => by rw [Nat.add_comm 1 i, Nat.testBit_succ]
    rw [Nat.testBit_succ, Nat.testBit_succ, hc]
    rcases parity x with ⟨q, rfl⟩ | ⟨q, rfl⟩
    · rw [clr_odd, show 2 * q / 2 = q from by omega, show (2 * q + 1) / 2 = q from by omega]
      have : cnt (2 * q + 1).testBit 1 = 1 := by rw [cnt_hit (by simp [Nat.testBit_zero])]; rfl
      rw [this, decide_eq_true (by omega), Bool.and_true]
    · rcases Nat.eq_zero_or_pos q with rfl | hq
      · simp [clr]
      · rw [clr_even q hq, show 2 * clr q / 2 = clr q from by omega, show 2 * q / 2 = q from by omega, ih]
        have : cnt (2 * q).testBit 1 = 0 := by rw [cnt_miss (by simp [Nat.testBit_zero])]; rfl
        rw [this, Nat.zero_add]
/-- v is x without its m lowest bits. -/
def Less (x v m : Nat) : Prop := ∀ j, v.testBit j = (x.testBit j && decide (m ≤ cnt x.testBit j))
theorem Less.cnt {x v m : Nat} (h : Less x v m) : ∀ j, Go.Proofs.YtfmfmeiaekknbaaGreat.cnt v.testBit j = Go.Proofs.YtfmfmeiaekknbaaGreat.cnt x.testBit j - m := by
  intro j
  induction j with
  | zero => rw [cnt_zero, cnt_zero]; omega
  | succ j ih =>
    rw [cnt_succ, cnt_succ, ih, h j]
    cases e : x.testBit j with
    | false => simp
    | true =>
      by_cases c : m ≤ Go.Proofs.YtfmfmeiaekknbaaGreat.cnt x.testBit j
      · simp [c]; omega
      · simp [c]; omega
theorem Less.start (x : Nat) : Less x x 0 := fun j => by simp
theorem Less.step {x v m : Nat} (h : Less x v m) : Less x (clr v) (m + 1) := fun j => by
  rw [clr_testBit, h.cnt j, h j, Bool.and_assoc, ← Bool.decide_and]
  congr 1
  exact decide_eq_decide.2 ⟨fun ⟨a, b⟩ => by omega, fun a => ⟨by omega, by omega⟩⟩
def q1 (b : Nat) : Nat := ((b / 2) &&& 0x55) + (b &&& 0x55)
def q2 (b : Nat) : Nat := ((b / 4) &&& 0x33) + (b &&& 0x33)
/-- Eight bytes. -/
def B8 (a b c d e f g h : Nat) : Nat := a + 256 * (b + 256 * (c + 256 * (d + 256 * (e + 256 * (f + 256 * (g + 256 * h))))))
def M0 : Nat := 0x5555555555555555
def M1 : Nat := 0x3333333333333333
def M2 : Nat := 0x0f0f0f0f0f0f0f0f
def S1 (x : Nat) : Nat := ((x / 2) &&& M0) + (x &&& M0)
def S2 (x : Nat) : Nat := ((x / 4) &&& M1) + (x &&& M1)
def S3 (x : Nat) : Nat := (x / 16 + x) &&& M2
end Go.Proofs.YtfmfmeiaekknbaaGreat
end

section
/-
  Lists of bits, plainly: the bit at a place, words of sixty-four bits, how one bit that turns shows in its word and in the count.
-/
namespace Go.Proofs.YtfmfmeiaekknbaaGreat
set_option linter.unusedVariables false

/-- The bit at a place; false behind the end. -/
def bt (l : List Bool) (i : Nat) : Bool := l.getD i false
theorem bt_lt {l : List Bool} {i : Nat} (h : i < l.length) : bt l i = l[i] := by
  unfold bt; rw [List.getD_eq_getElem?_getD, List.getElem?_eq_getElem h]; rfl
theorem bt_ext {l m : List Bool} (hl : l.length = m.length) (h : ∀ i, i < l.length → bt l i = bt m i) : l = m := by
  apply List.ext_getElem hl
  intro i h1 h2
  have := h i h1
  rwa [bt_lt h1, bt_lt h2] at this
theorem bt_set {l : List Bool} {i : Nat} (hi : i < l.length) (v : Bool) (j : Nat) : bt (l.set i v) j = if j = i then v else bt l j := by
  unfold bt
  rw [List.getD_eq_getElem?_getD, List.getD_eq_getElem?_getD, List.getElem?_set]
  by_cases c : i = j
  · subst c; simp [hi]
  · rw [if_neg c, if_neg (fun e => c e.symm)]
theorem bt_app (l m : List Bool) (j : Nat) : bt (l ++ m) j = if j < l.length then bt l j else bt m (j - l.length) := by
  unfold bt
  rw [List.getD_eq_getElem?_getD, List.getD_eq_getElem?_getD, List.getD_eq_getElem?_getD]
  by_cases c : j < l.length
  · rw [if_pos c, List.getElem?_append_left c]
  · rw [if_neg c, List.getElem?_append_right (by omega)]
theorem bt_take {l : List Bool} {k j : Nat} (h : j < k) : bt (l.take k) j = bt l j := by
  unfold bt; rw [List.getD_eq_getElem?_getD, List.getD_eq_getElem?_getD, List.getElem?_take_of_lt h]
theorem bt_drop (l : List Bool) (k j : Nat) : bt (l.drop k) j = bt l (k + j) := by
  unfold bt; rw [List.getD_eq_getElem?_getD, List.getD_eq_getElem?_getD, List.getElem?_drop]
theorem bt_rep (n : Nat) (v : Bool) (j : Nat) : bt (List.replicate n v) j = (decide (j < n) && v) := by
  unfold bt
  rw [List.getD_eq_getElem?_getD, List.getElem?_replicate]
  by_cases c : j < n
  · simp [c]
  · simp [c]
/-- How many are true. -/
def cn (l : List Bool) : Nat := cnt (bt l) l.length
theorem cn_le (l : List Bool) : cn l ≤ l.length := cnt_le _ _
theorem cn_rep (n : Nat) : cn (List.replicate n false) = 0 := cnt_none fun j _ => by rw [bt_rep, Bool.and_false]
theorem cnt_put (b : Nat → Bool) (i : Nat) (v : Bool) : ∀ n, cnt (fun j => if j = i then v else b j) n + (if i < n then (if b i then 1 else 0) else 0) = cnt b n + (if i < n then (if v then 1 else 0) else 0) := by
  intro n
  induction n with
  | zero => simp [cnt]
  | succ n ih =>
    rw [cnt_succ, cnt_succ]
    by_cases c : n = i
    · subst c
      simp only [if_true, Nat.lt_irrefl, if_false, Nat.add_zero, Nat.lt_succ_self] at ih ⊢
      omega
    · simp only [if_neg c]
      by_cases d : i < n
      · rw [if_pos d, if_pos d] at ih
        rw [if_pos (show i < n + 1 by omega), if_pos (show i < n + 1 by omega)]
        omega
      · rw [if_neg d, if_neg d] at ih
        rw [if_neg (show ¬ i < n + 1 by omega), if_neg (show ¬ i < n + 1 by omega)]
        omega
theorem cn_set {l : List Bool} {i : Nat} (hi : i < l.length) (v : Bool) : cn (l.set i v) + (if bt l i then 1 else 0) = cn l + (if v then 1 else 0) := by
  have h := cnt_put (bt l) i v l.length
  rw [if_pos hi, if_pos hi] at h
  unfold cn
  rw [List.length_set, cnt_congr (y := fun j => if j = i then v else bt l j) (fun j _ => bt_set hi v j)]
  exact h
theorem cn_set_true {l : List Bool} {i : Nat} (hi : i < l.length) (h : bt l i = false) : cn (l.set i true) = cn l + 1 := by
  have := cn_set hi true; rw [h] at this; simpa using this
theorem cn_set_false {l : List Bool} {i : Nat} (hi : i < l.length) (h : bt l i = true) : cn (l.set i false) + 1 = cn l := by
  have := cn_set hi false; rw [h] at this; simpa using this
theorem set_same {l : List Bool} {i : Nat} (hi : i < l.length) (v : Bool) (h : bt l i = v) : l.set i v = l := by
  apply bt_ext (by simp)
  intro j hj
  rw [bt_set hi]
  by_cases c : j = i
  · rw [if_pos c, c, h]
  · rw [if_neg c]

/-- The word with a number. -/
def wd (l : List Bool) (k : Nat) : Nat := ofB (fun j => bt l (64 * k + j)) 64
theorem wd_lt (l : List Bool) (k : Nat) : wd l k < 18446744073709551616 := ofB_lt _ 64
theorem testBit_wd (l : List Bool) (k j : Nat) (hj : j < 64) : (wd l k).testBit j = bt l (64 * k + j) := by
  unfold wd; rw [testBit_ofB]; simp [hj]
theorem testBit_wd_ge (l : List Bool) (k j : Nat) (hj : 64 ≤ j) : (wd l k).testBit j = false := by
  unfold wd; rw [testBit_ofB]; simp [show ¬ j < 64 by omega]
theorem wd_at (l : List Bool) (i : Nat) : (wd l (i / 64)).testBit (i % 64) = bt l i := by
  rw [testBit_wd l _ _ (Nat.mod_lt _ (by omega)), Nat.div_add_mod]
theorem wd_set_other {l : List Bool} {i k : Nat} (hi : i < l.length) (v : Bool) (hk : k ≠ i / 64) : wd (l.set i v) k = wd l k := by
  unfold wd
  refine ofB_congr fun j hj => ?_
  rw [bt_set hi, if_neg (by omega)]
theorem wd_set_turn {l : List Bool} {i : Nat} (hi : i < l.length) (v : Bool) (h : bt l i = !v) : wd (l.set i v) (i / 64) = wd l (i / 64) ^^^ 2 ^ (i % 64) := by
  apply Nat.eq_of_testBit_eq
  intro j
  rw [Nat.testBit_xor, Nat.testBit_two_pow]
  by_cases c : j < 64
  · rw [testBit_wd _ _ _ c, testBit_wd _ _ _ c, bt_set hi]
    by_cases d : j = i % 64
    · have e : 64 * (i / 64) + j = i := by omega
      rw [e, if_pos rfl, h, decide_eq_true d.symm]; cases v <;> rfl
    · rw [if_neg (by omega), decide_eq_false (fun e => d e.symm), Bool.xor_false]
  · rw [testBit_wd_ge _ _ _ (by omega), testBit_wd_ge _ _ _ (by omega), decide_eq_false (by omega)]; rfl
theorem wd_rep (n k : Nat) : wd (List.replicate n false) k = 0 := by
  apply Nat.eq_of_testBit_eq
  intro j
  rw [Nat.zero_testBit]
  by_cases c : j < 64
  · rw [testBit_wd _ _ _ c, bt_rep, Bool.and_false]
  · exact testBit_wd_ge _ _ _ (by omega)
end Go.Proofs.YtfmfmeiaekknbaaGreat
end

section
/-
  The library's OnesCount64 and TrailingZeros64; the table that the latter reads.
-/
namespace Go.Proofs.YtfmfmeiaekknbaaGreat
open Go.RowKit
set_option linter.unusedVariables false

def tabL : List Nat := [0, 1, 56, 2, 57, 49, 28, 3, 61, 58, 42, 50, 38, 29, 17, 4, 62, 47, 59, 36, 45, 43, 51, 22, 53, 39, 33, 30, 24, 18, 12, 5, 63, 55, 48, 27, 60, 41, 37, 16, 46, 35, 44, 21, 52, 32, 23, 11, 54, 26, 40, 15, 34, 20, 31, 10, 25, 14, 19, 9, 13, 8, 7, 6]
/-- The table lies in memory. -/
def Tab (w : World) : Prop := ∀ i, i < 0 → w.cell? ⟨0, i, none⟩ = some (.int .u8 ((tabL.getD i 0 : Nat) : Int))
theorem Tab.below {B : Nat} {w w' : World} (h : Tab w) (hb : Below B w w') (hB : (-1 : Int) < B) : Tab w' := fun i hi => (hb.cell (p := ⟨0, i, none⟩) (by show (0) < B; omega)).trans (h i hi)
theorem Tab.drawn {w w' : World} (h : Tab w) (hd : Drawn w w') : Tab w' := by obtain ⟨q, rfl⟩ := hd; exact h
theorem bits_and_u64 (a b : Nat) (ha : a < 18446744073709551616) (hb : b < 18446744073709551616) : bits .and .u64 (a : Int) (b : Int) = ((a &&& b : Nat) : Int) := by
  have hx : a &&& b ≤ a := Nat.and_le_left
  have h1 : (BitVec.ofInt 64 (a : Int)).toNat = a := by
    rw [BitVec.ofInt_natCast, BitVec.toNat_ofNat]; exact Nat.mod_eq_of_lt (by omega)
  have h2 : (BitVec.ofInt 64 (b : Int)).toNat = b := by
    rw [BitVec.ofInt_natCast, BitVec.toNat_ofNat]; exact Nat.mod_eq_of_lt (by omega)
  show IntKind.u64.wrap ((BitVec.ofInt 64 (a : Int) &&& BitVec.ofInt 64 (b : Int)).toNat : Int) = _
  rw [BitVec.toNat_and, h1, h2, IntKind.wrap_u64]
  omega
theorem bits_xor_u64 (a b : Nat) (ha : a < 18446744073709551616) (hb : b < 18446744073709551616) : bits .xor .u64 (a : Int) (b : Int) = ((a ^^^ b : Nat) : Int) := by
  have hx : a ^^^ b < 2 ^ 64 := Nat.xor_lt_two_pow (n := 64) ha hb
  have h1 : (BitVec.ofInt 64 (a : Int)).toNat = a := by
    rw [BitVec.ofInt_natCast, BitVec.toNat_ofNat]; exact Nat.mod_eq_of_lt (by omega)
  have h2 : (BitVec.ofInt 64 (b : Int)).toNat = b := by
    rw [BitVec.ofInt_natCast, BitVec.toNat_ofNat]; exact Nat.mod_eq_of_lt (by omega)
  show IntKind.u64.wrap ((BitVec.ofInt 64 (a : Int) ^^^ BitVec.ofInt 64 (b : Int)).toNat : Int) = _
  rw [BitVec.toNat_xor, h1, h2, IntKind.wrap_u64]
  omega

end Go.Proofs.YtfmfmeiaekknbaaGreat
end

section
/-
  Flags in memory; the plain methods.
-/
namespace Go.Proofs.YtfmfmeiaekknbaaGreat
open Go.RowKit
set_option linter.unusedVariables false

/-- The cells of a list of bits. -/
def flc (l : List Bool) : Nat → Value := fun j => if j = 0 then .int .i64 l.length else if j = 1 then .int .i64 (cn l) else .int .u64 (wd l (j - 2))
/-- Flags at block p hold the bits l. -/
structure Fl (w : World) (p : Nat) (l : List Bool) : Prop where
  row : w.rowIs p 152 66 (flc l)
  len : l.length ≤ 4096
  tab : Tab w
  pos : (-1 : Int) < p
theorem Fl.lt {w : World} {p : Nat} {l : List Bool} (h : Fl w p l) : p < w.heap.size := h.row.lt
theorem Fl.keep {w w' : World} {p : Nat} {l : List Bool} (h : Fl w p l) (k : w'.heap[p]? = w.heap[p]?) (ht : Tab w') : Fl w' p l := ⟨h.row.of_block k, h.len, ht, h.pos⟩
theorem Fl.below {w w' : World} {p : Nat} {l : List Bool} (h : Fl w p l) (hb : Below w.heap.size w w') : Fl w' p l :=
  h.keep (hb.block p h.lt) (h.tab.below hb (by have := h.pos; have := h.lt; omega))
theorem Fl.fr {S : Nat → Prop} {w w' : World} {p : Nat} {l : List Bool} (h : Fl w p l) (hf : Fr S w w') (hp : ¬ S p) (h0 : ∀ i : Nat, i < 0 → ¬ S (0)) : Fl w' p l :=
  h.keep (hf.block p h.lt hp) fun i hi => (World.cell?_of_block (w := w) (hf.block _ (by have := h.pos; have := h.lt; omega) (h0 i hi))).trans (h.tab i hi)
theorem Fl.drawn {w w' : World} {p : Nat} {l : List Bool} (h : Fl w p l) (hd : Drawn w w') : Fl w' p l := by obtain ⟨q, rfl⟩ := hd; exact ⟨h.row, h.len, h.tab, h.pos⟩
/-- The cells as the walk reads them. -/
structure FC (w : World) (p : Nat) (l : List Bool) : Prop where
  c0 : w.cell? ⟨p, 0, none⟩ = some (.int .i64 l.length)
  c1 : w.cell? ⟨p, 1, none⟩ = some (.int .i64 (cn l))
  cw : ∀ k, k < 64 → w.cell? ⟨p, 2 + k, none⟩ = some (.int .u64 (wd l k))
  fz : ∀ i, w.frozen? ⟨p, i, none⟩ = false
theorem Fl.cells {w : World} {p : Nat} {l : List Bool} (h : Fl w p l) : FC w p l :=
  ⟨h.row.cell (i := 0) (by omega), h.row.cell (i := 1) (by omega), fun k hk => by
    rw [h.row.cell (i := 2 + k) (by omega)]
    unfold flc
    rw [if_neg (by omega), if_neg (by omega), Nat.add_sub_cancel_left], fun i => h.row.frozen i⟩

set_option maxHeartbeats 400000 in
theorem flen_any (w : World) (p : Nat) (l : List Bool) (h : Fl w p l) :
    Calls Tryz.prog 43 #[.pointer (some ⟨p, 0, none⟩)] w fun e w' => e = .returned (.int .i64 l.length) ∧ w = w' := by
  obtain ⟨c0, c1, cw, fz⟩ := h.cells
  clear cw fz h
  go_enter Tryz.func43, Tryz.ntmps43
  go_wp2_with fail
  go_ret
  exact ⟨rfl, rfl⟩
theorem fcount_any (w : World) (p : Nat) (l : List Bool) (h : Fl w p l) :
    Calls Tryz.prog 68 #[.pointer (some ⟨p, 0, none⟩)] w fun e w' => e = .returned (.int .i64 (cn l)) ∧ w = w' := by
  obtain ⟨c0, c1, cw, fz⟩ := h.cells
  clear cw fz h
  go_enter Tryz.func68, Tryz.ntmps68
  go_wp2_with fail
  go_ret
  exact ⟨rfl, rfl⟩
/-- The error of check. -/
def flErr (n : Nat) (i k : Int) : Int := if i < 0 ∨ k < 0 ∨ (n : Int) < i ∨ (n : Int) - i < k then 4 else 0
set_option maxHeartbeats 800000 in
theorem flcheck_any (w : World) (p : Nat) (l : List Bool) (h : Fl w p l) (i k : Int) (hi : Fits i) (hk : Fits k) :
    Calls Tryz.prog 89 #[.pointer (some ⟨p, 0, none⟩), .int .i64 i, .int .i64 k] w fun e w' => e = .returned (.int .i64 (flErr l.length i k)) ∧ w = w' := by
  obtain ⟨c0, c1, cw, fz⟩ := h.cells
  have hn := h.len
  obtain ⟨i1, i2⟩ := hi
  obtain ⟨k1, k2⟩ := hk
  generalize l.length = n at c0 hn ⊢
  clear c1 cw fz h
  by_cases d1 : i < 0
  · rw [show flErr n i k = 4 from if_pos (by omega)]
    go_enter Tryz.func89, Tryz.ntmps89
    go_wp2_with fail
    go_ret
    exact ⟨rfl, rfl⟩
  by_cases d2 : k < 0
  · rw [show flErr n i k = 4 from if_pos (by omega)]
    go_enter Tryz.func89, Tryz.ntmps89
    go_wp2_with fail
    go_ret
    exact ⟨rfl, rfl⟩
  by_cases d3 : (n : Int) < i
  · rw [show flErr n i k = 4 from if_pos (by omega)]
    go_enter Tryz.func89, Tryz.ntmps89
    go_wp2_with fail
    go_ret
    exact ⟨rfl, rfl⟩
  by_cases d4 : (n : Int) - i < k
  · rw [show flErr n i k = 4 from if_pos (by omega)]
    go_enter Tryz.func89, Tryz.ntmps89
    go_wp2_with fail
    go_ret
    exact ⟨rfl, rfl⟩
  rw [show flErr n i k = 0 from if_neg (by omega)]
  go_enter Tryz.func89, Tryz.ntmps89
  go_wp2_with fail
  go_ret
  exact ⟨rfl, rfl⟩

theorem bit_and (x j : Nat) (hx : x < 18446744073709551616) : (bits .and .u64 ((x : Int) / 2 ^ j) 1 == 1) = x.testBit j := by
  have hd : x / 2 ^ j ≤ x := Nat.div_le_self _ _
  have a := bits_and_u64 (x / 2 ^ j) 1 (by omega) (by decide)
  rw [Nat.and_one_is_mod] at a
  have e : ((x / 2 ^ j : Nat) : Int) = (x : Int) / 2 ^ j := by rw [Int.natCast_ediv, Int.natCast_pow]; rfl
  rw [e] at a
  rw [show ((1 : Nat) : Int) = 1 from rfl] at a
  rw [a, Nat.testBit_eq_decide_div_mod_eq]
  have : x / 2 ^ j % 2 = 0 ∨ x / 2 ^ j % 2 = 1 := by omega
  rcases this with h | h <;> (rw [h]; rfl)
set_option maxHeartbeats 800000 in
theorem fget_any (w : World) (p : Nat) (l : List Bool) (h : Fl w p l) (i : Nat) (hi : i < l.length) :
    Calls Tryz.prog 109 #[.pointer (some ⟨p, 0, none⟩), .int .i64 i] w fun e w' => e = .returned (.bool (bt l i)) ∧ w = w' := by
  obtain ⟨c0, c1, cw, fz⟩ := h.cells
  have hn := h.len
  have hc := cw (i / 64) (by omega)
  have HE := Lib.hid ((bit_and _ (i % 64) (wd_lt l (i / 64))).trans (wd_at l i))
  clear c0 c1 cw fz h
  go_enter Tryz.func109, Tryz.ntmps109
  go_wp2_with fail
  go_ret
  exact ⟨ret_bool HE.out, rfl⟩

theorem bits_pow (j : Nat) (hj : j < 64) : (2 : Nat) ^ j < 18446744073709551616 := Nat.lt_of_lt_of_le (Nat.pow_lt_pow_right (by omega) hj) (Nat.le_refl (2 ^ 64))
theorem pow_wrap (j : Nat) (hj : j < 64) : IntKind.u64.wrap ((2 : Int) ^ j) = ((2 ^ j : Nat) : Int) := by
  have hp := bits_pow j hj
  have e : ((2 ^ j : Nat) : Int) = (2 : Int) ^ j := by rw [Int.natCast_pow]; rfl
  rw [← e]
  generalize 2 ^ j = y at hp
  rw [IntKind.wrap_u64]
  omega
/-- Flags with one bit that has turned. -/
theorem Fl.turned {w : World} {p : Nat} {l : List Bool} (h : Fl w p l) {i : Nat} (hi : i < l.length) (v : Bool) (hv : bt l i = !v) :
    Fl ((w.setCell ⟨p, 2 + i / 64, none⟩ (.int .u64 ((wd l (i / 64) ^^^ 2 ^ (i % 64) : Nat) : Int))).setCell ⟨p, 1, none⟩ (.int .i64 (cn (l.set i v)))) p (l.set i v) := by
  have hl := h.len
  refine ⟨World.rowIs.congr ((World.rowIs.set h.row _ _).set _ _) fun j hj => ?_, by rw [List.length_set]; exact h.len, fun k hk => ?_, h.pos⟩
  · unfold flc
    by_cases j1 : j = 1
    · subst j1; simp
    · rw [if_neg j1]
      by_cases j2 : j = 2 + i / 64
      · subst j2
        rw [if_pos rfl, if_neg (by omega), if_neg (by omega), Nat.add_sub_cancel_left, wd_set_turn hi v hv]
      · rw [if_neg j2, if_neg j1]
        by_cases j0 : j = 0
        · rw [if_pos j0, if_pos j0, List.length_set]
        · rw [if_neg j0, if_neg j0, if_neg j1, wd_set_other hi v (by omega)]
  · have := h.pos
    rw [World.cell?_setCell_other, World.cell?_setCell_other]
    · exact h.tab k hk
    · intro e; injection e with e; omega
    · intro e; injection e with e; omega
theorem Fr.put {w : World} {p : Nat} (a b : Nat) (u v : Value) : Fr (fun q => q = p) w ((w.setCell ⟨p, a, none⟩ u).setCell ⟨p, b, none⟩ v) :=
  Fr.setCell (S := fun q => q = p) (Fr.setCell (S := fun q => q = p) (Fr.refl _ w) (p := ⟨p, a, none⟩) rfl u) (p := ⟨p, b, none⟩) rfl v

set_option maxHeartbeats 1600000 in
theorem fput_any (w : World) (p : Nat) (l : List Bool) (h : Fl w p l) (i : Nat) (hi : i < l.length) (v : Bool) :
    Calls Tryz.prog 90 #[.pointer (some ⟨p, 0, none⟩), .int .i64 i, .bool v] w fun e w' => e = .returned (.tuple #[]) ∧ Fl w' p (l.set i v) ∧ Fr (fun b => b = p) w w' := by
  have KG := Lib.hid (fget_any w p l h i hi)
  by_cases hv : bt l i = v
  · have HF := Lib.hid h
    have HS := Lib.hid (set_same hi v hv)
    have be : (v != v) = false := by cases v <;> rfl
    rw [hv] at KG
    clear h hv
    go_enter Tryz.func90, Tryz.ntmps90
    go_wp2_with fail
    refine (KG.out).mono ?_
    rintro e w' ⟨rfl, rfl⟩
    go_wp2_with fail
    go_end0
    exact ⟨rfl, by rw [HS.out]; exact HF.out, Fr.refl _ _⟩
  · have hv' : bt l i = !v := by cases v <;> cases q : bt l i <;> simp_all
    have HT := Lib.hid (Fl.turned h hi v hv')
    have hn := h.len
    have hcl := cn_le l
    obtain ⟨c0, c1, cw, fz⟩ := h.cells
    have hc := cw (i / 64) (by omega)
    have z1 := fz (2 + i / 64)
    have z2 := fz 1
    have hp := bits_pow (i % 64) (Nat.mod_lt _ (by omega))
    have ex := bits_xor_u64 (wd l (i / 64)) (2 ^ (i % 64)) (wd_lt _ _) hp
    rw [show ((2 ^ (i % 64) : Nat) : Int) = (2 : Int) ^ (i % 64) from by rw [Int.natCast_pow]; rfl] at ex
    have ew := pow_wrap (i % 64) (Nat.mod_lt _ (by omega))
    have HR := Lib.hid (fun a b u v => Fr.put (w := w) (p := p) a b u v)
    have HN := Lib.hid (show (v = true → cn (l.set i v) = cn l + 1) ∧ (v = false → cn (l.set i v) + 1 = cn l) from ⟨fun e => by subst e; exact cn_set_true hi hv', fun e => by subst e; exact cn_set_false hi hv'⟩)
    rw [hv'] at KG
    have hci : ∀ x, (w.setCell ⟨p, 2 + i / 64, none⟩ x).cell? ⟨p, 1, none⟩ = some (.int .i64 (cn l)) := fun x => by rw [World.cell?_setCell_other _ _ _ _ (fun e => by injection e with e1 e2; omega)]; exact c1
    clear c0 cw fz h hv hv'
    cases v with
    | true =>
      have e : ((cn (l.set i true) : Nat) : Int) = (cn l : Int) + 1 := by have := HN.out.1 rfl; omega
      rw [e] at HT
      clear HN e
      go_enter Tryz.func90, Tryz.ntmps90
      go_wp2_with fail
      refine (KG.out).mono ?_
      rintro e w' ⟨rfl, rfl⟩
      go_wp2_with fail
      go_region
      go_wp2_with fail
      go_end0
      exact ⟨rfl, Fl.drawn (w := (w.setCell _ _).setCell _ _) HT.out ⟨1, rfl⟩, Fr.drawn (w := (w.setCell _ _).setCell _ _) (HR.out _ _ _ _) ⟨1, rfl⟩⟩
    | false =>
      have e : ((cn (l.set i false) : Nat) : Int) = (cn l : Int) - 1 := by have := HN.out.2 rfl; omega
      rw [e] at HT
      clear HN e
      go_enter Tryz.func90, Tryz.ntmps90
      go_wp2_with fail
      refine (KG.out).mono ?_
      rintro e w' ⟨rfl, rfl⟩
      go_wp2_with fail
      go_region
      go_wp2_with fail
      go_end0
      exact ⟨rfl, Fl.drawn (w := (w.setCell _ _).setCell _ _) HT.out ⟨1, rfl⟩, Fr.drawn (w := (w.setCell _ _).setCell _ _) (HR.out _ _ _ _) ⟨1, rfl⟩⟩
end Go.Proofs.YtfmfmeiaekknbaaGreat
end

section
/-
  Loads and stores of whole structs and arrays, for the walk, by their run equations. Over any program.
-/
namespace Go.Proofs.YtfmfmeiaekknbaaGreat
open Go.RowKit
set_option linter.unusedVariables false

section
variable {P : Program}
theorem wp_store_run {o : Oper} {a : Act} {w : World} {K : Act → World → Prop} {Q : Exit → Act → World → Prop} (t : TypeId) (x z : Operand) (ho : o.op = .store t x z) (y u : Value) (hx : a.eval x = y) (hz : a.eval z = u) {w' : World}
    (hr : (Instr.storeAt t y u).run P w = .ok () w') (h : K (a.put o.dst (.tuple #[])) w') : o.wp P a w K Q := by
  unfold Oper.wp execOp
  simp only [ho, Sem.run_bind, hx, hz, hr, Result.andThen_ok]
  exact h
theorem wpList_store_run {ops : Array Oper} {rest : List Oper} {o : Oper} {a : Act} {w : World} {Q : Exit → Act → World → Prop} (hgd : o.guard = none) (t : TypeId) (x z : Operand) (ho : o.op = .store t x z) (y u : Value) (hx : a.eval x = y) (hz : a.eval z = u) {w' : World}
    (hr : (Instr.storeAt t y u).run P w = .ok () w') (h : wpList P ops Q rest (a.put o.dst (.tuple #[])) w') : wpList P ops Q (o :: rest) a w :=
  wpList_plain hgd fun _ hK => wp_store_run t x z ho y u hx hz hr (hK _ _ h)
end
end Go.Proofs.YtfmfmeiaekknbaaGreat
end

section
/-
  Flags: Get, Set, Rank, Select, Next.
-/
namespace Go.Proofs.YtfmfmeiaekknbaaGreat
open Go.RowKit
set_option linter.unusedVariables false
set_option linter.unusedSimpArgs false

theorem flErr_0 {n : Nat} {i k : Int} (h : 0 ≤ i ∧ 0 ≤ k ∧ i + k ≤ n) : flErr n i k = 0 := by unfold flErr; rw [if_neg (by omega)]
set_option maxHeartbeats 800000 in
theorem fGet_ok (w : World) (p : Nat) (l : List Bool) (h : Fl w p l) (i : Nat) (hi : i < l.length) :
    Calls Tryz.prog 44 #[.pointer (some ⟨p, 0, none⟩), .int .i64 i] w fun e w' => e = .returned (.tuple #[.bool (bt l i), .int .i64 0]) ∧ w = w' := by
  have hn := h.len
  have KC := Lib.hid (flcheck_any w p l h i 1 ⟨by omega, by omega⟩ ⟨by omega, by omega⟩)
  rw [flErr_0 (by omega)] at KC
  have KG := Lib.hid (fget_any w p l h i hi)
  clear h hi hn
  go_enter Tryz.func44, Tryz.ntmps44
  go_wp2_with fail
  refine (KC.out).mono ?_
  rintro e w' ⟨rfl, rfl⟩
  go_wp2_with fail
  refine (KG.out).mono ?_
  rintro e w' ⟨rfl, rfl⟩
  go_wp2_with fail
  go_ret2
  exact ⟨rfl, rfl⟩
set_option maxHeartbeats 800000 in
theorem fSet_ok (w : World) (p : Nat) (l : List Bool) (h : Fl w p l) (i : Nat) (hi : i < l.length) (v : Bool) :
    Calls Tryz.prog 37 #[.pointer (some ⟨p, 0, none⟩), .int .i64 i, .bool v] w fun e w' => e = .returned (.int .i64 0) ∧ Fl w' p (l.set i v) ∧ Fr (fun b => b = p) w w' := by
  have hn := h.len
  have KC := Lib.hid (flcheck_any w p l h i 1 ⟨by omega, by omega⟩ ⟨by omega, by omega⟩)
  rw [flErr_0 (by omega)] at KC
  have KG := Lib.hid (fput_any w p l h i hi v)
  clear h hi hn
  go_enter Tryz.func37, Tryz.ntmps37
  go_wp2_with fail
  refine (KC.out).mono ?_
  rintro e w' ⟨rfl, rfl⟩
  go_wp2_with fail
  refine (KG.out).mono ?_
  rintro e w2 ⟨rfl, h1, h2⟩
  have H1 := Lib.hid h1
  have H2 := Lib.hid h2
  clear h1 h2
  go_wp2_with fail
  go_ret
  exact ⟨rfl, H1.out, H2.out⟩
theorem infoE : (Tryz.prog.info? 115).map (·.size) = some 1 := by kernel_rfl
end Go.Proofs.YtfmfmeiaekknbaaGreat
end

section
/-
  The reference of layer 4: Rank, Next, Insert, Remove, Move on plain lists of bits.
-/
namespace Go.Proofs.YtfmfmeiaekknbaaGreat
open Go.RowKit
set_option linter.unusedVariables false
set_option linter.unusedSimpArgs false

def bvs (l : List Bool) : Nat → Value := fun j => .bool (bt l j)
theorem bvs_at (l : List Bool) (j : Nat) : bvs l j = .bool (bt l j) := rfl
/-- A slice that shows bits. -/
abbrev SeesF (w : World) (B : Nat) (A : Option Addr) (l : List Bool) : Prop := Sees w B A l.length (bvs l)
abbrev OwnF (w : World) (B : Nat) (A : Option Addr) (c : Nat) (l : List Bool) : Prop := Own w B 4 1 l.length c A (bvs l)
theorem OwnF.see {w : World} {B c : Nat} {A : Option Addr} {L : List Bool} (h : OwnF w B A c L) : SeesF w w.heap.size A L := by
  have := h.sees; rw [Nat.mul_one] at this; exact this
theorem infoB : (Tryz.prog.info? 4).map (fun i => (i.zero, i.size, i.bytes)) = some (some (.bool false), 1, 1) := by kernel_rfl
theorem infoB1 : (Tryz.prog.info? 4).map (·.size) = some 1 := by kernel_rfl
theorem SeesF.first {w : World} {B : Nat} {A : Option Addr} {L : List Bool} (h : SeesF w B A L) (k : Nat) (hk : k ≤ L.length) : SeesF w B A (L.take k) := by
  intro hn
  rw [List.length_take, Nat.min_eq_left hk] at hn
  obtain ⟨b, o, h1, h2, h3⟩ := h (by omega)
  refine ⟨b, o, h1, h2, fun j hj => ?_⟩
  rw [List.length_take, Nat.min_eq_left hk] at hj
  rw [h3 j (by omega), bvs_at, bvs_at, bt_take hj]
theorem SeesF.sub {w : World} {B c : Nat} {A : Option Addr} {L : List Bool} (h : SeesF w B A L) (hnc : L.length ≤ c) (lo hi : Nat) (h1 : lo ≤ hi) (h2 : hi ≤ L.length) : SeesF w B (subA A c lo 1) ((L.drop lo).take (hi - lo)) := by
  have h' := sees_sub (sz := 1) (n := L.length) (c := c) (lo := lo) (hi := hi) (F := bvs L) (by rw [Nat.mul_one]; exact h) hnc h1 h2
  unfold SeesF
  rw [List.length_take, List.length_drop, Nat.min_eq_left (by omega)]
  rw [Nat.mul_one] at h'
  refine h'.congr fun j hj => ?_
  rw [bvs_at, bvs_at, bt_take hj, bt_drop, Nat.mul_one]
theorem SeesF.rest {w : World} {B c : Nat} {A : Option Addr} {L : List Bool} (h : SeesF w B A L) (hnc : L.length ≤ c) (lo : Nat) (h1 : lo ≤ L.length) : SeesF w B (subA A c lo 1) (L.drop lo) := by
  have := h.sub hnc lo L.length h1 (Nat.le_refl _)
  rwa [List.take_of_length_le (by rw [List.length_drop]; exact Nat.le_refl _)] at this
theorem slF_lh (A : Option Addr) (n c lo hi : Nat) (h1 : lo ≤ hi) (h2 : hi ≤ c) : ∀ wx, (Instr.sliceAt 155 (.slice A n c) (some (.int .i64 lo)) (some (.int .i64 hi)) none).run Tryz.prog wx = .ok (.slice (subA A c lo 1) (hi - lo) (c - lo)) wx :=
  slice_lh Tryz.underlying155 infoB1 A n c lo hi h1 h2
theorem slF_h (A : Option Addr) (n c hi : Nat) (h2 : hi ≤ c) : ∀ wx, (Instr.sliceAt 155 (.slice A n c) none (some (.int .i64 hi)) none).run Tryz.prog wx = .ok (.slice A hi c) wx :=
  slice_h Tryz.underlying155 infoB1 A n c hi h2
theorem slF_l (A : Option Addr) (n c lo : Nat) (h2 : lo ≤ n) : ∀ wx, (Instr.sliceAt 155 (.slice A n c) (some (.int .i64 lo)) none none).run Tryz.prog wx = .ok (.slice (subA A c lo 1) (n - lo) (c - lo)) wx :=
  slice_l Tryz.underlying155 infoB1 A n c lo h2

def fRem (L : List Bool) (k m : Nat) : List Bool := L.take k ++ L.drop (k + m)
def fRemErr (L : List Bool) (i n : Int) : Int := if i < 0 ∨ n < 0 ∨ (L.length : Int) < i ∨ (L.length : Int) - i < n then 4 else 0
theorem fRem_len {L : List Bool} {k m : Nat} (h : k + m ≤ L.length) : (fRem L k m).length = L.length - m := by
  unfold fRem; rw [List.length_append, List.length_take, List.length_drop]; omega
end Go.Proofs.YtfmfmeiaekknbaaGreat
end

section
/-
  Flags: New, Copy, list.
-/
namespace Go.Proofs.YtfmfmeiaekknbaaGreat
open Go.RowKit
set_option linter.unusedVariables false
set_option linter.unusedSimpArgs false

theorem zc_eq : Tryz.zeroCells152 = #[.int .i64 0, .int .i64 0] ++ Array.replicate 64 (.int .u64 0) := by kernel_rfl
theorem zc_size : Tryz.zeroCells152.size = 66 := by rw [zc_eq]; simp
theorem zc_at (j : Nat) (hj : j < 66) : Tryz.zeroCells152[j]? = some (if j < 2 then .int .i64 0 else .int .u64 0) := by
  rw [zc_eq]
  by_cases c : j < 2
  · rw [if_pos c, Array.getElem?_append_left (by simp; omega)]
    have : j = 0 ∨ j = 1 := by omega
    rcases this with rfl | rfl <;> rfl
  · rw [if_neg c, Array.getElem?_append_right (by simp; omega), Array.getElem?_replicate, if_pos (by simp; omega)]
theorem flc_rep (n j : Nat) : flc (List.replicate n false) j = if j = 0 then .int .i64 n else if j = 1 then .int .i64 0 else .int .u64 0 := by
  unfold flc
  rw [List.length_replicate, cn_rep, wd_rep]
  rfl
theorem infoFl : (Tryz.prog.info? 152).map (·.size) = some 66 := by kernel_rfl
theorem Fl.alloc' (w : World) (hT : Tab w) (hs : (-1 : Int) < w.heap.size) (l : List Bool) (hl : l.length ≤ 4096) (cs : Array Value) (hz : cs.size = 66) (hc : ∀ j, j < 66 → cs[j]? = some (flc l j)) : Fl (w.alloc (.cells cs 152)) w.heap.size l := by
  have hr := World.rowIs_alloc w cs 152 (flc l) (fun j hj => by rw [hc j (by omega)])
  rw [hz] at hr
  exact ⟨hr, hl, hT.below ((Below.refl w.heap.size w).alloc (Nat.le_refl _) _) hs, hs⟩
set_option maxRecDepth 100000 in
set_option maxHeartbeats 1600000 in
theorem fnew_any (w : World) (hT : Tab w) (hs : (-1 : Int) < w.heap.size) (n : Nat) (hn : n ≤ 4096) :
    Calls Tryz.prog 35 #[.int .i64 n] w fun e w' => ∃ p, e = .returned (.tuple #[.pointer (some ⟨p, 0, none⟩), .int .i64 0]) ∧ Fl w' p (List.replicate n false) ∧ w.heap.size ≤ p ∧ Below w.heap.size w w' := by
  have h1 : ¬ (n : Int) < 0 := by omega
  have h2 : ¬ 4096 < (n : Int) := by omega
  have HF : Hid (Fl (w.alloc (.cells (Tryz.zeroCells152.setIfInBounds 0 (.int .i64 n)) 152)) w.heap.size (List.replicate n false)) :=
    Fl.alloc' w hT hs _ (by simp; omega) _ (by rw [Array.size_setIfInBounds, zc_size]) fun j hj => by
      rw [flc_rep, Array.getElem?_setIfInBounds]
      by_cases c : j = 0
      · subst c; simp [zc_size]
      · rw [if_neg (fun e => c e.symm), zc_at j hj, if_neg c]
        by_cases d : j = 1
        · subst d; rfl
        · rw [if_neg (by omega), if_neg d]
  have HB : Hid (∀ o, Below w.heap.size w (w.alloc o)) := fun o => (Below.refl _ w).alloc (Nat.le_refl _) o
  clear hT hs
  go_enter Tryz.func35, Tryz.ntmps35
  go_wp2_with fail
  go_ret2
  exact ⟨_, rfl, HF.out, Nat.le_refl _, HB.out _⟩
theorem make_F (n : Nat) (hn : n ≤ 4096) (W : World) : (Instr.makeSlice 155 (.int .i64 n) (.int .i64 n)).run Tryz.prog W = .ok (.slice (some ⟨W.heap.size, 0, none⟩) n n) (W.alloc (.cells (madeCells #[.bool false] n) 4)) :=
  run_make_row' 155 4 (.bool false) 1 Tryz.underlying155 infoB rfl .i64 .i64 n (by omega) (by omega) W
set_option maxRecDepth 100000 in
set_option maxHeartbeats 1600000 in
theorem flist_any (w : World) (p : Nat) (l : List Bool) (h : Fl w p l) :
    Calls Tryz.prog 91 #[.pointer (some ⟨p, 0, none⟩)] w fun e w' => ∃ g, e = .returned (.slice (some ⟨g, 0, none⟩) l.length l.length) ∧ w'.rowIs g 4 l.length (bvs l) ∧ w.heap.size ≤ g ∧ Below w.heap.size w w' := by
  have hn := h.len
  have HF := Lib.hid h
  obtain ⟨c0, c1, cw, fz⟩ := h.cells
  have hm := make_F l.length hn
  obtain ⟨n, en⟩ : ∃ n, n = l.length := ⟨_, rfl⟩
  have EN := Lib.hid en
  rw [← en] at hm hn c0 ⊢
  have R0 : Hid ((w.alloc (.cells (madeCells #[.bool false] n) 4)).rowIs w.heap.size 4 n (fun j => if j < 0 then .bool (bt l j) else .bool false)) := (World.rowIs_made w (.bool false) n 4).congr fun j _ => by rw [if_neg (by omega)]
  have B0 : Hid (Below w.heap.size w (w.alloc (.cells (madeCells #[.bool false] n) 4))) := (Below.refl _ w).alloc (Nat.le_refl _) _
  clear c1 cw fz h en
  go_enter Tryz.func91, Tryz.ntmps91
  go_wp2_with fail
  clear hm c0
  obtain ⟨g, eg⟩ : ∃ g, g = w.heap.size := ⟨_, rfl⟩
  have EG := Lib.hid eg
  rw [← eg]
  clear eg
  go_loopw [12] (fun i wr => ∃ k : Nat, k ≤ n ∧ i = .int .i64 k ∧ Hid (wr.rowIs w.heap.size 4 n (fun j => if j < k then .bool (bt l j) else .bool false)) ∧ Hid (Below w.heap.size w wr)) (fun i _ => n - (intOf i).toNat)
  case atStart => exact ⟨0, Nat.zero_le _, rfl, R0, B0⟩
  case round =>
    obtain ⟨k, hk, rfl, hR, hB⟩ := hrel
    clear R0 B0
    by_cases hlt : k < n
    · have hki : (k : Int) < (n : Int) := by omega
      have KG := Lib.hid (fget_any wr p l (HF.out.below hB.out) k (by rw [← EN.out]; exact hlt))
      have hc := hR.out.cell (i := k) hlt
      have hf := hR.out.frozen k
      rw [if_neg (Nat.lt_irrefl k), ← EG.out] at hc
      rw [← EG.out] at hf
      have R2 : Hid (∀ v, v = bt l k → (wr.setCell ⟨g, k, none⟩ (.bool v)).rowIs w.heap.size 4 n (fun j => if j < k + 1 then .bool (bt l j) else .bool false)) := fun v hv => by
        rw [EG.out]
        refine (hR.out.set k (.bool v)).congr fun j hj => ?_
        show (if j = k then Value.bool v else if j < k then .bool (bt l j) else .bool false) = _
        by_cases c : j = k
        · rw [if_pos c, if_pos (by omega), c, hv]
        · rw [if_neg c]
          by_cases d : j < k
          · rw [if_pos d, if_pos (by omega)]
          · rw [if_neg d, if_neg (by omega)]
      have B2 : Hid (∀ v, Below w.heap.size w (wr.setCell ⟨g, k, none⟩ v)) := fun v => hB.out.setCell (p := ⟨g, k, none⟩) (by show _ ≤ g; rw [EG.out]; exact Nat.le_refl _) v
      obtain ⟨v, ev⟩ : ∃ v, v = bt l k := ⟨_, rfl⟩
      rw [← ev] at KG
      have EV := Lib.hid ev
      clear hR hB ev
      go_wp2_with fail
      refine (KG.out).mono ?_
      rintro e w' ⟨rfl, rfl⟩
      go_wp2_with fail
      go_roundw
      case rel => exact ⟨k + 1, hlt, by go_num, R2.out _ EV.out, B2.out _⟩
      case measure => simp [intOf]; omega
    · obtain rfl : k = n := by omega
      have HR : Hid (wr.rowIs g 4 k (bvs l)) := by rw [EG.out]; exact hR.out.congr fun j hj => by rw [if_pos hj]; rfl
      have hle : Hid (w.heap.size ≤ g) := by rw [EG.out]; exact Nat.le_refl _
      go_wp2_with fail
      go_ret
      exact ⟨g, rfl, HR.out, hle.out, hB.out⟩
end Go.Proofs.YtfmfmeiaekknbaaGreat
end

section
/-
  slices.Values, slices.AppendSeq, slices.Collect, slices.Sorted over a slice of int that came in: all its elements, sorted. (After the kit's worked proofs on iterators over slices.)
-/
namespace Go.Proofs.YtfmfmeiaekknbaaGreat
open Go.RowKit Go.Shelf Go.Sort
set_option linter.unusedVariables false
set_option linter.unusedSimpArgs false

attribute [local go_sem] Oper.semAt_some

/-- What has come when k rounds are over. -/
def upTo {α : Type} (f : Nat → α) (k : Nat) : List α := (List.range k).map f
theorem upTo_succ {α : Type} (f : Nat → α) (k : Nat) : upTo f (k + 1) = upTo f k ++ [f k] := by simp [upTo, List.range_succ]
theorem upTo_length {α : Type} (f : Nat → α) (k : Nat) : (upTo f k).length = k := by simp [upTo]
theorem upTo_all (zs : List Int) : upTo (fun j => zs[j]?.getD 0) zs.length = zs := by
  apply List.ext_getElem
  · simp [upTo]
  · intro i h1 h2
    simp [upTo, h2]
theorem upTo_take (zs : List Int) {k : Nat} (hk : k ≤ zs.length) : upTo (fun j => zs[j]?.getD 0) k = zs.take k := by
  apply List.ext_getElem
  · simp [upTo, hk]
  · intro i h1 h2
    have : i < zs.length := by simp [upTo] at h1; omega
    simp [upTo, this]

set_option maxRecDepth 100000 in
set_option maxHeartbeats 2000000 in
theorem values1_in (F : Fence) (n : Nat) (h7 : F.fn 154) (hro : F.round = none) (hn : 1 ≤ n) (l Bs n₀ b off len cap : Nat) (zs : List Int) (hreach : len * 8 ≤ 140737488351232) (hb : b < n₀) (J Jx : List Int → World → Prop)
    (hY : ∀ pre x W, J pre W → pre.length < len → YieldAt F (n - 1) Tryz.prog l #[.int .i64 x] W fun e W' =>
      (e = .returned (.bool true) ∧ J (pre ++ [x]) W' ∧ Below n₀ W W') ∨ (e = .returned (.bool false) ∧ Jx (pre ++ [x]) W'))
    (W : World) (hBs : W.cell? ⟨Bs, 0, none⟩ = some (.slice (some ⟨b, off, none⟩) len cap)) (hc : ∀ j, j < len → W.cell? ⟨b, off + j, none⟩ = some (.int .i64 (zs[j]?.getD 0))) (h0 : J [] W) :
    CallsIn F n Tryz.prog 154 #[.func (.yield l) #[] #[], .pointer (some ⟨Bs, 0, none⟩)] W fun e W' => (∃ v, e = .returned v) ∧
      ((∃ ys, ys = upTo (fun j => zs[j]?.getD 0) len ∧ J ys W') ∨ (∃ pre, (∃ k, k ≤ len ∧ pre = upTo (fun j => zs[j]?.getD 0) k) ∧ Jx pre W')) := by
  refine callsIn_of_wp Tryz.func154 rfl h7 ?_ hro
  simp only [Tryz.ntmps154, List.size_toArray, List.length_cons, List.length_nil, Nat.reduceAdd, Nat.reduceSub, Array.replicate_succ, Array.replicate_zero, List.push_toArray, List.append_toArray, List.nil_append, List.cons_append]
  gi_wp2
  gi_loopw [7] (fun i wr => ∃ k : Nat, k ≤ len ∧ i = .int .i64 k ∧ J (upTo (fun j => zs[j]?.getD 0) k) wr ∧ Below n₀ W wr)
    (fun i _ => len - (intOf i).toNat)
  case atStart => exact ⟨0, Nat.zero_le _, rfl, h0, Below.refl _ _⟩
  case round =>
    obtain ⟨k, hk, rfl, hJs, hnx⟩ := hrel
    have hcx : k < len → wr.cell? ⟨b, off + k, none⟩ = some (.int .i64 (zs[k]?.getD 0)) := fun h => (hnx.cell (p := ⟨b, off + k, none⟩) hb).trans (hc k h)
    by_cases hlt : k < len
    · obtain ⟨fn, tmps, assign, body, hy, hR⟩ := hY _ (zs[k]?.getD 0) wr hJs (by rw [upTo_length]; exact hlt)
      have hcx' := hcx hlt
      gi_wp2
      refine hR.mono ?_
      rintro e W3 (⟨rfl, hJ3, hk3⟩ | ⟨rfl, hJx3⟩)
      · gi_wp2
        go_roundw
        case rel => exact ⟨k + 1, by omega, by simp, by rw [upTo_succ]; exact hJ3, hnx.trans hk3⟩
        case measure => simp [intOf]; omega
      · gi_wp2
        refine bodyPost_ret (results_none rfl _ _ _) rfl ?_
        exact ⟨⟨_, rfl⟩, .inr ⟨_, ⟨k + 1, by omega, (upTo_succ _ _).symm⟩, hJx3⟩⟩
    · obtain rfl : k = len := by omega
      gi_wp2
      go_end0
      exact ⟨⟨_, rfl⟩, .inl ⟨_, rfl, hJs⟩⟩

/-- The slice value holds the ints, in a block below n₀; or it is nil and there are none. -/
def IntsAt (n₀ : Nat) (W : World) (sv : Value) (zs : List Int) : Prop :=
  ((∃ A c, sv = .slice A 0 c) ∧ zs = []) ∨ ∃ b off cap, sv = .slice (some ⟨b, off, none⟩) zs.length cap ∧ b < n₀ ∧ ∀ j, j < zs.length → W.cell? ⟨b, off + j, none⟩ = some (.int .i64 (zs[j]?.getD 0))
theorem IntsAt.below {n₀ : Nat} {A B : World} (h : Below n₀ A B) {sv : Value} {zs : List Int} : IntsAt n₀ A sv zs → IntsAt n₀ B sv zs
  | .inl e => .inl e
  | .inr ⟨b, off, cap, e, hb, hc⟩ => .inr ⟨b, off, cap, e, hb, fun j hj => (h.cell (p := ⟨b, off + j, none⟩) hb).trans (hc j hj)⟩

set_option maxRecDepth 100000 in
set_option maxHeartbeats 1000000 in
theorem values1_nil_in (F : Fence) (n : Nat) (h7 : F.fn 154) (hro : F.round = none) (l Bs : Nat) (J : List Int → World → Prop) (W : World) (Az : Option Addr) (cz : Nat) (hBs : W.cell? ⟨Bs, 0, none⟩ = some (.slice Az 0 cz)) (h0 : J [] W) :
    CallsIn F n Tryz.prog 154 #[.func (.yield l) #[] #[], .pointer (some ⟨Bs, 0, none⟩)] W fun e W' => (∃ v, e = .returned v) ∧ J [] W' := by
  refine callsIn_of_wp Tryz.func154 rfl h7 ?_ hro
  simp only [Tryz.ntmps154, List.size_toArray, List.length_cons, List.length_nil, Nat.reduceAdd, Nat.reduceSub, Array.replicate_succ, Array.replicate_zero, List.push_toArray, List.append_toArray, List.nil_append, List.cons_append]
  gi_wp2
  gi_loopw [7] (fun i wr => i = .int .i64 0 ∧ J [] wr) (fun _ _ => 0)
  case atStart => exact ⟨rfl, h0⟩
  case round =>
    obtain ⟨rfl, hJs⟩ := hrel
    gi_wp2
    go_end0
    exact ⟨⟨_, rfl⟩, hJs⟩

theorem values_stops (F : Fence) (n : Nat) (h7 : F.fn 154) (hro : F.round = none) (hn : 1 ≤ n) (Bs n₀ : Nat) (sv : Value) (zs : List Int) (hreach : zs.length * 8 ≤ 140737488351232) (w : World) (hBs : Bs < w.heap.size) (hn₀ : n₀ ≤ w.heap.size)
    (hc : w.cell? ⟨Bs, 0, none⟩ = some sv) (hI : IntsAt n₀ w sv zs) :
    SeqStopsK F n Tryz.prog 154 #[.pointer (some ⟨Bs, 0, none⟩)] (fun x : Int => #[Value.int .i64 x]) (Below n₀) (fun ys => ys = zs) (fun pre => pre <+: zs) zs.length w := fun l J Jx W hW _ _ hY h0 => by
  have hc' := (hW.cell (p := ⟨Bs, 0, none⟩) hBs).trans hc
  rcases hI.below (hW.mono hn₀) with ⟨⟨Az, cz, rfl⟩, rfl⟩ | ⟨b, off, cap, rfl, hb, hcs⟩
  · exact (values1_nil_in F n h7 hro l Bs J W Az cz hc' h0).mono fun e W' ⟨he, hj⟩ => ⟨he, .inl ⟨_, rfl, hj⟩⟩
  · refine (values1_in F n h7 hro hn l Bs n₀ b off zs.length cap zs hreach hb J Jx hY W hc' hcs h0).mono ?_
    rintro e W' ⟨he, ⟨ys, rfl, hj⟩ | ⟨pre, ⟨k, hk, rfl⟩, hj⟩⟩
    · exact ⟨he, .inl ⟨_, upTo_all zs, hj⟩⟩
    · exact ⟨he, .inr ⟨_, by rw [upTo_take zs hk]; exact List.take_prefix _ _, hj⟩⟩

theorem infoInt : (Tryz.prog.info? 3).map (fun i => (i.zero, i.size, i.bytes)) = some (some (.int .i64 0), 1, 8) := by kernel_rfl
def encI (x : Int) : Value := .int .i64 x

set_option maxRecDepth 100000 in
set_option maxHeartbeats 2000000 in
theorem appendSeq_in (F : Fence) (n : Nat) (h3 : F.fn 165) (h5 : F.fn 154) (hro : F.round = none) (hn : 3 ≤ n) (Bs : Nat) (sv : Value) (zs : List Int) (hlen : zs.length ≤ 1000000000000) (w : World) (hBs : Bs < w.heap.size) (hc : w.cell? ⟨Bs, 0, none⟩ = some sv) (hI : IntsAt w.heap.size w sv zs) :
    CallsIn F n Tryz.prog 165 #[.slice none 0 0, .func (.func 154) #[] #[.pointer (some ⟨Bs, 0, none⟩)]] w fun e W' => ∃ v, e = .returned v ∧ W'.ownsRow w.heap.size 3 1 v zs.length (zs.map encI) ∧ Below w.heap.size w W' := by
  have h1 : 1 ≤ n := by omega
  have hm : zs.length ≤ maxLen := by simp only [maxLen]; omega
  obtain ⟨i0, hi, hz0, hz1, hz2⟩ := info_parts infoInt
  refine callsIn_of_wp_marks Tryz.func165 rfl h3 ?_ hro
  simp only [Tryz.ntmps165, List.size_toArray, List.length_cons, List.length_nil, Nat.reduceAdd, Nat.reduceSub, Array.replicate_succ, Array.replicate_zero, List.push_toArray, List.append_toArray, List.nil_append, List.cons_append]
  gi_wp2
  have bO := Boxed.new w 54 (.slice none 0 0)
  have hB0 : Below w.heap.size w (w.alloc (.cells #[.slice none 0 0] 54)) := (Below.refl _ w).alloc (Nat.le_refl _) _
  refine wpIn_rangeFunc_ownG hro h1 (gf := 154) (lb := #[.pointer (some ⟨Bs, 0, none⟩)]) rfl h5 (enters_of Tryz.func154 (by kernel_rfl) rfl)
    (values_stops F (n - 1) h5 hro (by omega) Bs w.heap.size sv zs (by omega) (w.alloc (.cells #[.slice none 0 0] 54)) (by simp; omega) (by simp) ((hB0.cell (p := ⟨Bs, 0, none⟩) hBs).trans hc) (hI.below hB0)) belowK_t (belowK_b (by simp)) (Below.refl _ _) (fun _ => rfl)
    (fun pre W => (∃ v, Boxed W w.heap.size 54 v ∧ W.ownsRow w.heap.size 3 1 v pre.length (pre.map encI) ∧ True) ∧ Below w.heap.size w W)
    (fun _ _ _ => False)
    (OwnFrom.and (Own.from (holdsRow_own w.heap.size w.heap.size 54 3 1 (fun (pre : List Int) => pre.length) (fun (pre : List Int) => pre.map encI) (fun _ _ => True)) _) (ownFrom_below (Nat.le_refl _) (by simp)))
    (fun _ _ _ _ _ hs _ _ => hs)
    ⟨⟨_, bO, World.ownsRow_nil _ _ _ _, trivial⟩, hB0⟩
    (fun x => { tmps := #[.slice none 0 0, .func (.func 154) #[] #[.pointer (some ⟨Bs, 0, none⟩)], .pointer (some ⟨w.heap.size, 0, none⟩), undef, .slice none 0 0, .int .i64 x, .func (.func 154) #[] #[.pointer (some ⟨Bs, 0, none⟩)], .int .i64 x, undef, undef, undef, undef, undef], defers := [] }) ?assign ?body ?done ?stop
  case assign =>
    intro l x W K hK
    gi_wp2
    exact hK
  case body =>
    rintro l pre x W ⟨⟨v, hv, hrow, _⟩, hB⟩ hlt
    have hc := hv.cell
    gi_wp2_with (gi_at_builtin; refine wpListIn_append_own _ rfl _ _ 54 rfl w.heap.size 3 i0 (.int .i64 0) 1 8 Tryz.underlying54 hi hz0 hz1 hz2 rfl (by decide) _ _ _ rfl (hrow.alloc _) ⟨W.heap.size, 0, none⟩ 1 1 [.int .i64 x] rfl rfl (cell_one_new _ _ _) (by simp [Value.oneCell']) (by omega) (by omega) (by have := hB.size; simp; omega) ?_; intro v' w1 hown' hgrow _; obtain ⟨g', cap', rfl⟩ := ownsRow_succ hown'; obtain ⟨hv1, hv2, hr2, hk2, hb2⟩ := hv.appended (by decide) hrow hB.size (Nat.le_refl _) hown' hgrow; have hc1 := hv1.cell; have hf1 := hv1.frozen)
    exact ⟨hk2.from _, hb2, ⟨_, hv2, by simpa [encI] using hr2, trivial⟩, hB.trans hb2⟩
  case done =>
    rintro D ys W hD rfl ⟨⟨v, hv, hrow, _⟩, hB⟩ hK
    have hc := hv.cell
    gi_wp2
    refine ⟨by simp, .inl ⟨_, _, rfl, run_takeDeferred hK, ?_⟩⟩
    exact ⟨_, results_tmp rfl _ _ _, v, rfl, ownsRow_putObj hrow _ hK rfl, hB.trans (belowK_b (w := w) (Nat.le_refl _) W D _ _ (by simp at hD; omega) hK rfl rfl)⟩
  case stop =>
    rintro D c pre W _ _ h _
    exact h.elim

theorem collect_any (Bs : Nat) (sv : Value) (zs : List Int) (hlen : zs.length ≤ 1000000000000) (w : World) (hBs : Bs < w.heap.size) (hc : w.cell? ⟨Bs, 0, none⟩ = some sv) (hI : IntsAt w.heap.size w sv zs) :
    Calls Tryz.prog 152 #[.func (.func 154) #[] #[.pointer (some ⟨Bs, 0, none⟩)]] w fun e W' => ∃ v, e = .returned v ∧ W'.ownsRow w.heap.size 3 1 v zs.length (zs.map encI) ∧ Below w.heap.size w W' := by
  have K := Lib.hid ((callsIn_wide (n := 5)).1 (appendSeq_in Fence.wide 5 trivial trivial rfl (by omega) Bs sv zs hlen w hBs hc hI))
  clear hI hc
  go_enter Tryz.func152, Tryz.ntmps152
  go_wp2_with fail
  refine (K.out).mono ?_
  rintro e w1 ⟨v, rfl, h1, h2⟩
  have H1 := Lib.hid h1
  have H2 := Lib.hid h2
  clear h1 h2
  go_wp2_with fail
  go_ret
  exact ⟨v, rfl, H1.out, H2.out⟩

/-- The elements, sorted. -/
def srt (zs : List Int) : List Int := zs.mergeSort fun x y => decide (x ≤ y)
theorem srt_len (zs : List Int) : (srt zs).length = zs.length := by simp [srt]
set_option maxRecDepth 100000 in
set_option maxHeartbeats 2000000 in
theorem sorted_any (Bs : Nat) (sv : Value) (zs : List Int) (hlen : zs.length ≤ 1000000000000) (w : World) (hBs : Bs < w.heap.size) (hc : w.cell? ⟨Bs, 0, none⟩ = some sv) (hI : IntsAt w.heap.size w sv zs) :
    Calls Tryz.prog 127 #[.func (.func 154) #[] #[.pointer (some ⟨Bs, 0, none⟩)]] w fun e W' => ∃ v, e = .returned v ∧ W'.ownsRow w.heap.size 3 1 v zs.length ((srt zs).map encI) ∧ Below w.heap.size w W' := by
  have K := Lib.hid (collect_any Bs sv zs hlen w hBs hc hI)
  clear hI hc
  go_enter Tryz.func127, Tryz.ntmps127
  go_wp2_with fail
  refine (K.out).mono ?_
  rintro e w1 ⟨v, rfl, hrow, hb⟩
  rcases hrow.2 with ⟨rfl, hz⟩ | ⟨gb, cap, cur, rfl, hbase, hgb, r1, r2, r3, r4⟩
  · have hz0 : zs = [] := List.eq_nil_of_length_eq_zero hz
    subst hz0
    have KS := Lib.hid (AnyG.slices_Sort_int_none Tryz.sortL none 0 w1)
    have H1 := Lib.hid hrow
    have H2 := Lib.hid hb
    clear hrow hb
    go_wp2_with fail
    refine (KS.out).mono ?_
    rintro e w2 ⟨rfl, rfl⟩
    go_wp2_with fail
    go_ret
    exact ⟨_, rfl, by simpa [srt] using H1.out, H2.out⟩
  · have hH : Holds (Value.int .i64) w1 gb 0 zs.toArray := holds_of_block_i hgb (by have h := r4; rw [Nat.mul_one] at h; exact h)
    have hgl : gb < w1.heap.size := (Array.getElem?_eq_some_iff.1 hgb).1
    have KS := Lib.hid (AnyG.slices_Sort_int Tryz.sortL gb 0 cap zs w1 hH hgl (by omega))
    have HR : Hid (∀ n os, (grow (putRow (Value.int .i64) (Sort.ahead w1 n) gb 0 (zs.mergeSort fun x y => decide (x ≤ y)).toArray) os).ownsRow w.heap.size 3 1 (.slice (some ⟨gb, 0, none⟩) zs.length cap) zs.length ((srt zs).map encI) ∧ Below w.heap.size w (grow (putRow (Value.int .i64) (Sort.ahead w1 n) gb 0 (zs.mergeSort fun x y => decide (x ≤ y)).toArray) os)) := fun n os =>
      ⟨ownsRow_sorted_i (by simp) hbase hgb r1 r2 r3, hb.grown (grownBy_sorted_i _) hb.size (fun j hj => by cases hj; exact hbase)⟩
    clear hrow hb hH hgb r1 r2 r3 r4 hbase hgl
    go_wp2_with fail
    refine (KS.out).mono ?_
    rintro e w2 ⟨rfl, n, os, rfl⟩
    obtain ⟨q1, q2⟩ := HR.out n os
    have H1 := Lib.hid q1
    have H2 := Lib.hid q2
    clear q1 q2
    go_wp2_with fail
    go_ret
    exact ⟨_, rfl, H1.out, H2.out⟩
end Go.Proofs.YtfmfmeiaekknbaaGreat
end

section
/-
  Contracts of package spans, seventh: Of.
-/
namespace Go.Proofs.YtfmfmeiaekknbaaGreat
open Go.RowKit
set_option linter.unusedVariables false
set_option linter.unusedSimpArgs false

theorem srt_mem (L : List Int) (x : Int) : x ∈ srt L ↔ x ∈ L := by unfold srt; exact (List.mergeSort_perm L _).mem_iff
theorem srt_le (L : List Int) : (srt L).Pairwise (fun x y => x ≤ y) := by
  have := List.pairwise_mergeSort (le := fun (x y : Int) => decide (x ≤ y)) (fun a b c h1 h2 => by simp at *; omega) (fun a b => by simp; omega) L
  unfold srt
  exact this.imp (fun h => by simpa using h)
/-- The k-th of a list. -/
def nth (L : List Int) (k : Nat) : Int := L.getD k 0
theorem nth_get (L : List Int) {k : Nat} (h : k < L.length) : nth L k = L[k] := by simp [nth, List.getD_eq_getElem?_getD, List.getElem?_eq_getElem h]
theorem srt_step (L : List Int) {j k : Nat} (hj : j ≤ k) (hk : k < (srt L).length) : nth (srt L) j ≤ nth (srt L) k := by
  rw [nth_get _ hk, nth_get _ (by omega)]
  rcases Nat.lt_or_ge j k with c | c
  · exact List.pairwise_iff_getElem.1 (srt_le L) j k (by omega) hk c
  · have : j = k := by omega
    subst this
    exact Int.le_refl _
/-- The set of the first k places of a sorted list. -/
structure OfTo (S : List Int) (k : Nat) (O : Sp) : Prop where
  nf : NF O
  en : endS (-1) O = if k = 0 then -1 else nth S (k - 1) + 1
  me : ∀ i, memS O i ↔ i ∈ S.take k
theorem OfTo.start (S : List Int) : OfTo S 0 [] := ⟨trivial, rfl, fun i => by simp [memS_nil]⟩
theorem addS_again {O : Sp} {f : Int} (h : endS (-1) O = f + 1) (hf : 0 ≤ f) : addS O f (f + 1) = O := by
  rcases List.eq_nil_or_concat O with rfl | ⟨P, s, rfl⟩
  · have : endS (-1) ([] : Sp) = -1 := rfl
    omega
  · rw [List.concat_eq_append] at *
    rw [endS_append] at h
    have h : s.2 = f + 1 := h
    rw [addS_snoc (by omega), if_pos (by omega), Int.max_eq_left (by omega)]
theorem OfTo.step {L : List Int} {k : Nat} {O : Sp} (h : OfTo (srt L) k O) (hk : k < (srt L).length) (h0 : 0 ≤ nth (srt L) k) (h1 : nth (srt L) k < 1073741824) : OfTo (srt L) (k + 1) (addS O (nth (srt L) k) (nth (srt L) k + 1)) := by
  obtain ⟨a1, a2, a3⟩ := h
  have ht : ∀ i, i ∈ (srt L).take (k + 1) ↔ i ∈ (srt L).take k ∨ i = nth (srt L) k := fun i => by
    rw [List.take_succ_eq_append_getElem hk, List.mem_append, nth_get _ hk]
    simp
  by_cases c : endS (-1) O = nth (srt L) k + 1
  · rw [addS_again c h0]
    refine ⟨a1, by rw [if_neg (by omega)]; exact c, fun i => ?_⟩
    rw [a3, ht]
    constructor
    · exact .inl
    · rintro (h | rfl)
      · exact h
      · rcases Nat.eq_zero_or_pos k with hz | hp
        · rw [if_pos hz] at a2; omega
        · rw [if_neg (by omega)] at a2
          have : nth (srt L) (k - 1) = nth (srt L) k := by omega
          rw [← this, nth_get _ (by omega)]
          exact List.mem_take_iff_getElem.2 ⟨k - 1, by omega, rfl⟩
  · have he : endS (-1) O ≤ nth (srt L) k := by
      rcases Nat.eq_zero_or_pos k with hz | hp
      · rw [if_pos hz] at a2; omega
      · rw [if_neg (by omega)] at a2
        have := srt_step L (j := k - 1) (k := k) (by omega) hk
        omega
    obtain ⟨b1, b2, b3⟩ := addS_spec a1 he h0 (show nth (srt L) k < nth (srt L) k + 1 by omega) (by omega)
    refine ⟨b1, by rw [if_neg (by omega)]; exact b2, fun i => ?_⟩
    rw [b3, a3, ht]
    constructor
    · rintro (h | h)
      · exact .inl h
      · exact .inr (by omega)
    · rintro (h | h)
      · exact .inl h
      · exact .inr (by omega)
def badPlace (L : List Int) : Prop := ∃ x ∈ L, x < 0 ∨ 1073741824 ≤ x
def OfPost (w : World) (L : List Int) (e : Ending) (w' : World) : Prop :=
  (badPlace L ∧ SPost w [] 4 e w') ∨ (¬ badPlace L ∧ ∃ R, NF R ∧ (∀ i, memS R i ↔ i ∈ L) ∧ SPost w (dS R) (dE R) e w')
theorem badPlace_iff (L : List Int) (h : 0 < (srt L).length) : badPlace L ↔ nth (srt L) 0 < 0 ∨ 1073741824 ≤ nth (srt L) ((srt L).length - 1) := by
  constructor
  · rintro ⟨x, hx, hb⟩
    obtain ⟨j, hj, rfl⟩ := List.mem_iff_getElem.1 ((srt_mem L x).2 hx)
    rw [← nth_get _ hj] at hb
    have h1 := srt_step L (j := 0) (k := j) (by omega) hj
    have h2 := srt_step L (j := j) (k := (srt L).length - 1) (by omega) (by omega)
    omega
  · rintro (hb | hb)
    · exact ⟨nth (srt L) 0, (srt_mem L _).1 (by rw [nth_get _ h]; exact List.getElem_mem _), .inl hb⟩
    · exact ⟨nth (srt L) ((srt L).length - 1), (srt_mem L _).1 (by rw [nth_get _ (by omega)]; exact List.getElem_mem _), .inr hb⟩
theorem good_nth {L : List Int} (h : ¬ badPlace L) {k : Nat} (hk : k < (srt L).length) : 0 ≤ nth (srt L) k ∧ nth (srt L) k < 1073741824 := by
  have hm : nth (srt L) k ∈ L := (srt_mem L _).1 (by rw [nth_get _ hk]; exact List.getElem_mem _)
  constructor
  · rcases Int.lt_or_le (nth (srt L) k) 0 with c | c
    · exact absurd ⟨_, hm, .inl c⟩ h
    · exact c
  · rcases Int.lt_or_le (nth (srt L) k) 1073741824 with c | c
    · exact c
    · exact absurd ⟨_, hm, .inr c⟩ h

theorem values_any (w : World) (A : Option Addr) (n c : Nat) :
    Calls Tryz.prog 128 #[.slice A n c] w fun e w' => e = .returned (.func (.func 154) #[] #[.pointer (some ⟨w.heap.size, 0, none⟩)]) ∧ w' = w.alloc (.cells #[.slice A n c] 54) := by
  go_enter Tryz.func128, Tryz.ntmps128
  go_wp2_with fail
  go_ret
  exact ⟨rfl, rfl⟩
set_option maxRecDepth 100000 in
set_option maxHeartbeats 6400000 in
theorem sof_any (w : World) (A : Option Addr) (c : Nat) (L : List Int) (h : IntsAt w.heap.size w (.slice A L.length c) L) (hl : L.length ≤ 100000000) (hf : ∀ x ∈ L, Fits x) :
    Calls Tryz.prog 66 #[.slice A L.length c] w (OfPost w L) := by
  have B0 : Hid (Below w.heap.size w (w.alloc (.cells #[.slice A L.length c] 54))) := (Below.refl _ w).alloc (Nat.le_refl _) _
  have c0 : (w.alloc (.cells #[.slice A L.length c] 54)).cell? ⟨w.heap.size, 0, none⟩ = some (.slice A L.length c) := (World.rowIs_alloc w #[.slice A L.length c] 54 (fun _ => .slice A L.length c) (fun j hj => by
    have h0 : j = 0 := Nat.lt_one_iff.1 hj
    subst h0; rfl)).cell (i := 0) (by simp)
  have hI : IntsAt (w.alloc (.cells #[.slice A L.length c] 54)).heap.size (w.alloc (.cells #[.slice A L.length c] 54)) (.slice A L.length c) L := by
    rcases h.below B0.out with h | ⟨b, o, cc, h1, h2, h3⟩
    · exact .inl h
    · exact .inr ⟨b, o, cc, h1, by have := B0.out.size; omega, h3⟩
  have K := Lib.hid (sorted_any w.heap.size (.slice A L.length c) L (by omega) (w.alloc (.cells #[.slice A L.length c] 54)) (by rw [World.size_alloc]; omega) c0 hI)
  have hsl := srt_len L
  have HR : Hid (∀ v (w1 : World), w1.ownsRow (w.alloc (.cells #[.slice A L.length c] 54)).heap.size 3 1 v L.length ((srt L).map encI) → (v = .slice none 0 0 ∧ L.length = 0) ∨ ∃ b cc, v = .slice (some ⟨b, 0, none⟩) L.length cc ∧ w.heap.size ≤ b ∧ b < w1.heap.size ∧ ∀ j, j < L.length → w1.cell? ⟨b, j, none⟩ = some (.int .i64 (nth (srt L) j))) := by
    intro v w1 hrow
    rcases hrow.2 with ⟨rfl, hz⟩ | ⟨gb, cap, cur, rfl, hbase, hgb, r1, r2, r3, r4⟩
    · exact .inl ⟨rfl, hz⟩
    · refine .inr ⟨gb, cap, rfl, by rw [World.size_alloc] at hbase; omega, (Array.getElem?_eq_some_iff.1 hgb).1, fun j hj => ?_⟩
      have h1 : (cur.toList.take (L.length * 1))[j]? = ((srt L).map encI)[j]? := by rw [r4]
      rw [Nat.mul_one, List.getElem?_take_of_lt hj, List.getElem?_map, List.getElem?_eq_getElem (show j < (srt L).length by omega)] at h1
      simp only [World.cell?, hgb]
      simp only [Option.isSome_none, Bool.false_eq_true, if_false]
      rw [← Array.getElem?_toList, h1, nth_get _ (by omega)]
      rfl
  have HB : Hid (badPlace L → ∀ W, Below w.heap.size w W → OfPost w L (.returned (.tuple #[.slice none 0 0, .int .i64 4])) W) := fun hb W hW => .inl ⟨hb, SPost.none hW 4⟩
  have HG : Hid (¬ badPlace L → ∀ R e w', OfTo (srt L) L.length R → SPost w (dS R) (dE R) e w' → OfPost w L e w') := fun hb R e w' h1 h2 => .inr ⟨hb, R, h1.nf, fun i => by rw [h1.me, ← hsl, List.take_length, srt_mem], h2⟩
  have HI : Hid (0 < L.length → (badPlace L ↔ nth (srt L) 0 < 0 ∨ 1073741824 ≤ nth (srt L) (L.length - 1))) := fun h0 => by rw [← hsl]; exact badPlace_iff L (by omega)
  have HN : Hid (¬ badPlace L → ∀ k, k < L.length → 0 ≤ nth (srt L) k ∧ nth (srt L) k < 1073741824) := fun hb k hk => good_nth hb (by omega)
  have HST : Hid (¬ badPlace L → ∀ k O, k < L.length → OfTo (srt L) k O → OfTo (srt L) (k + 1) (addS O (nth (srt L) k) (nth (srt L) k + 1))) := fun hb k O hk h => h.step (by omega) (good_nth hb (by omega)).1 (good_nth hb (by omega)).2
  have HF : Hid (∀ k, k < L.length → Fits (nth (srt L) k)) := fun k hk => hf _ ((srt_mem L _).1 (by rw [nth_get _ (by omega)]; exact List.getElem_mem _))
  have hbad0 : L.length = 0 → ¬ badPlace L := fun h0 ⟨x, hx, _⟩ => by rw [List.length_eq_zero_iff.1 h0] at hx; cases hx
  obtain ⟨Q, eQ⟩ : ∃ Q, Q = OfPost w L := ⟨_, rfl⟩
  rw [← eQ] at HB HG ⊢
  obtain ⟨n, en⟩ : ∃ n, n = L.length := ⟨_, rfl⟩
  obtain ⟨bad, eb⟩ : ∃ b, b = badPlace L := ⟨_, rfl⟩
  rw [← eb] at HB HG HI HN HST hbad0
  rw [← en] at K HR HG HI HN HST HF hl hbad0 B0 ⊢
  have I0 : Hid (OfTo (srt L) 0 []) := OfTo.start _
  clear h hI c0 hsl hf eQ en eb
  have KV := Lib.hid (values_any w A n c)
  go_enter Tryz.func66, Tryz.ntmps66
  go_wp2_with fail
  refine (KV.out).mono ?_
  rintro e w0 ⟨rfl, rfl⟩
  go_wp2_with fail
  refine (K.out).mono ?_
  rintro e w1 ⟨v, rfl, hrow, hb⟩
  have B1 := Lib.hid (B0.out.trans (hb.mono B0.out.size))
  have hv := HR.out v w1 hrow
  clear hrow hb K KV HR
  rcases hv with ⟨rfl, n0⟩ | ⟨b, cc, rfl, hb1, hb2, hcells⟩
  · subst n0
    have hnb := hbad0 rfl
    go_wp2_with fail
    go_loopw [5, 31] (fun o i wr => o = .slice none 0 0 ∧ i = .int .i64 0 ∧ Hid (Below w.heap.size w wr)) (fun _ _ _ => 0)
    case atStart => exact ⟨rfl, rfl, B1⟩
    case round =>
      obtain ⟨rfl, rfl, hD⟩ := hrel
      have KD := Lib.hid (done_any w wr none 0 [] (seesP_nil _ _) (Nat.le_refl _) (by decide) hD.out)
      go_wp2_with fail
      refine (KD.out).mono ?_
      rintro e w5 ⟨A5, rfl, q1, hb⟩
      have HH := Lib.hid (HG.out hnb [] _ _ I0.out ⟨A5, rfl, q1, hb⟩)
      clear q1 hb KD
      go_wp2_with fail
      exact HH.out
  · by_cases n0 : n = 0
    · subst n0
      have hnb := hbad0 rfl
      clear hcells
      go_wp2_with fail
      go_loopw [5, 31] (fun o i wr => o = .slice none 0 0 ∧ i = .int .i64 0 ∧ Hid (Below w.heap.size w wr)) (fun _ _ _ => 0)
      case atStart => exact ⟨rfl, rfl, B1⟩
      case round =>
        obtain ⟨rfl, rfl, hD⟩ := hrel
        have KD := Lib.hid (done_any w wr none 0 [] (seesP_nil _ _) (Nat.le_refl _) (by decide) hD.out)
        go_wp2_with fail
        refine (KD.out).mono ?_
        rintro e w5 ⟨A5, rfl, q1, hb⟩
        have HH := Lib.hid (HG.out hnb [] _ _ I0.out ⟨A5, rfl, q1, hb⟩)
        clear q1 hb KD
        go_wp2_with fail
        exact HH.out
    · obtain ⟨m, rfl⟩ : ∃ m, n = m + 1 := ⟨n - 1, by omega⟩
      have CE := Lib.hid hcells
      have d0 := hcells 0 (by omega)
      have d1 := hcells m (by omega)
      have hbi := HI.out (by omega)
      rw [Nat.add_sub_cancel] at hbi
      obtain ⟨f01, f02⟩ := HF.out 0 (by omega)
      obtain ⟨f11, f12⟩ := HF.out m (by omega)
      have HBI := Lib.hid hbi
      obtain ⟨x0, ex0⟩ : ∃ x, x = nth (srt L) 0 := ⟨_, rfl⟩
      obtain ⟨xm, exm⟩ : ∃ x, x = nth (srt L) m := ⟨_, rfl⟩
      rw [← ex0] at d0 f01 f02 HBI
      rw [← exm] at d1 f11 f12 HBI
      clear hcells hbi ex0 exm
      by_cases t1 : x0 < 0
      · have H := Lib.hid (HB.out (HBI.out.2 (.inl t1)) w1 B1.out)
        clear HBI
        go_wp2_with fail
        exact H.out
      by_cases t2 : 1073741824 ≤ xm
      · have H := Lib.hid (HB.out (HBI.out.2 (.inr t2)) w1 B1.out)
        clear HBI
        go_wp2_with fail
        exact H.out
      have hnb : ¬ bad := fun hb => by have := HBI.out.1 hb; omega
      have HNB := Lib.hid hnb
      clear HBI hbad0 HB
      go_wp2_with fail
      go_loopw [5, 31] (fun o i wr => ∃ (k : Nat) (O : Sp) (Ao : Option Addr) (co : Nat), k ≤ m + 1 ∧ o = .slice Ao O.length co ∧ i = .int .i64 k ∧ Hid (OwnP wr w1.heap.size Ao co O) ∧ Hid (OfTo (srt L) k O) ∧ Hid (Below w1.heap.size w1 wr)) (fun _ i _ => m + 1 - (intOf i).toNat)
      case atStart => exact ⟨0, [], none, 0, Nat.zero_le _, rfl, rfl, Own.nil _ _ _ _ _, I0, Below.refl _ _⟩
      case round =>
        obtain ⟨k, O, Ao, co, hk, rfl, rfl, hO, hI, hD⟩ := hrel
        clear I0 d0 d1
        by_cases hlt : k < m + 1
        · have dk := (hD.out.cell (p := ⟨b, k, none⟩) hb2).trans (CE.out k hlt)
          obtain ⟨p1, p2⟩ := HN.out HNB.out k hlt
          have ST := Lib.hid (HST.out HNB.out k O hlt hI.out)
          have hlen := NF.len hI.out.nf
          obtain ⟨x, hx⟩ : ∃ x, x = nth (srt L) k := ⟨_, rfl⟩
          rw [← hx] at dk p1 p2 ST
          have KA := Lib.hid (sadd_any wr w1.heap.size Ao co O x (x + 1) hO.out hD.out.size (by omega) ⟨by omega, by omega⟩ ⟨by omega, by omega⟩ (NF.fits hI.out.nf))
          obtain ⟨O1, eO1⟩ : ∃ O1, O1 = addS O x (x + 1) := ⟨_, rfl⟩
          rw [← eO1] at KA ST
          obtain ⟨nO, enO⟩ : ∃ n, n = O.length := ⟨_, rfl⟩
          rw [← enO] at KA ⊢
          have hki : (k : Int) < (m : Int) + 1 := by omega
          clear hx eO1 enO hO hI hlen
          go_wp2_with fail
          refine (KA.out).mono ?_
          rintro e w5 ⟨A5, c5, rfl, O5, hb, _⟩
          have D5 := Lib.hid (hD.out.trans hb)
          have P5 := Lib.hid O5
          clear hb O5 KA dk
          go_wp2_with fail
          go_roundw
          case rel => exact ⟨k + 1, O1, A5, c5, by omega, rfl, by go_num, P5, ST, D5⟩
          case measure => simp [intOf]; omega
        · obtain rfl : k = m + 1 := by omega
          have KD := Lib.hid (done_any w wr Ao co O (hO.out.sees) hO.out.le (by have := NF.len hI.out.nf; omega) (B1.out.trans (hD.out.mono B1.out.size)))
          go_wp2_with fail
          refine (KD.out).mono ?_
          rintro e w5 ⟨A5, rfl, q1, hb⟩
          have HH := Lib.hid (HG.out HNB.out O _ _ hI.out ⟨A5, rfl, q1, hb⟩)
          clear q1 hb KD
          go_wp2_with fail
          exact HH.out
end Go.Proofs.YtfmfmeiaekknbaaGreat
end

section
/-
  The last examples of live11: tops, a rope, a Fenwick tree, flags, spans and moves.
-/
namespace Go.Proofs.YtfmfmeiaekknbaaGreat
open Go.RowKit
set_option linter.unusedVariables false
set_option linter.unusedSimpArgs false

abbrev tL3 : List Int := [10, 4, 3]
theorem tL3_fits : ∀ x ∈ tL3, Fits x := by
  intro x hx
  simp only [tL3, List.mem_cons, List.not_mem_nil, or_false] at hx
  rcases hx with rfl | rfl | rfl <;> exact ⟨by decide, by decide⟩
theorem tm6 (W : World) (A : Option Addr) (h : SeesL W W.heap.size A tL3) : Calls Tryz.prog 12 #[.slice A 3 3] W fun e w' => ∃ g, e = .returned (.tuple #[.slice (some ⟨g, 0, none⟩) 4 4, .int .i64 0]) ∧ w'.rowIs g 2 4 (i64s (psum (lf tL3))) ∧ Below W.heap.size W w' :=
  (tops_any A 3 3 (lf tL3) W h (lf_fits tL3_fits) (by omega)).mono fun e w' hp => by
    rcases hp with ⟨_, g, h1, h2, h3, h4⟩ | ⟨h, _⟩
    · exact ⟨g, h1, h2, h4⟩
    · exact absurd (show chk (lf tL3) 3 = 0 by decide) h
theorem tm7 (W : World) (A : Option Addr) (h : SeesL W W.heap.size A tL3) : Calls Tryz.prog 10 #[.slice A 3 3] W fun e w' => ∃ a, e = .returned (.tuple #[.agg #[.pointer a], .int .i64 0]) ∧ Rp w' a tL3 ∧ Below W.heap.size W w' :=
  (of_any W A 3 W.heap.size tL3 h (Nat.le_refl _) (Nat.le_refl _) (by unfold maxLen; decide) (by decide) tL3_fits).mono fun e w' hp => by
    have : chkL tL3 = 0 := by decide
    rw [this] at hp
    exact hp
theorem tm8 (W : World) (A : Option Addr) (h : SeesL W W.heap.size A tL3) : Calls Tryz.prog 11 #[.slice A 3 3] W (FNewPost W 3 (lf tL3)) :=
  fnew_ok A 3 3 (lf tL3) W h (lf_fits tL3_fits) (by decide)
theorem tm10 (W : World) (b : Nat) (hb : b < W.heap.size) (h0 : W.cell? ⟨b, 0, none⟩ = some (.int .i64 1)) (h1 : W.cell? ⟨b, 1, none⟩ = some (.int .i64 2)) : Calls Tryz.prog 66 #[.slice (some ⟨b, 0, none⟩) 2 2] W fun e w' => ∃ A, e = .returned (.tuple #[.slice A 1 1, .int .i64 0]) ∧ SeesP w' w'.heap.size A [(1, 3)] ∧ Below W.heap.size W w' :=
  (sof_any W (some ⟨b, 0, none⟩) 2 [1, 2] (.inr ⟨b, 0, 2, rfl, hb, fun j hj => by
    have : j = 0 ∨ j = 1 := by simp at hj; omega
    rcases this with rfl | rfl
    · exact h0
    · exact h1⟩) (by decide) (by
    intro x hx
    simp only [List.mem_cons, List.not_mem_nil, or_false] at hx
    rcases hx with rfl | rfl <;> exact ⟨by decide, by decide⟩)).mono fun e w' hp => by
    rcases hp with ⟨⟨x, hx, hc⟩, _⟩ | ⟨_, R, hN, hm, hp⟩
    · exfalso
      simp only [List.mem_cons, List.not_mem_nil, or_false] at hx
      rcases hx with rfl | rfl <;> omega
    · have e : R = [(1, 3)] := NFfrom.unique hN (show NF [(1, 3)] from ⟨by omega, by omega, by omega, trivial⟩) fun i => by
        rw [hm, memS_cons]
        have := memS_nil i
        simp only [List.mem_cons, List.not_mem_nil, or_false, this]
        omega
      subst e
      exact hp
def tA (j : Nat) : Int := if j = 0 then 7 else if j = 1 then 8 else 9
def tBf (j : Nat) : Int := if j = 0 then 8 else if j = 1 then 9 else 7
def tPos (j : Nat) : Nat := if j = 0 then 1 else if j = 1 then 2 else 0
theorem tm11 (W : World) (A A2 : Option Addr) (h : Sees W W.heap.size A 3 (i64s tA)) (h2 : Sees W W.heap.size A2 3 (i64s tBf)) : Calls Tryz.prog 22 #[.slice A 3 3, .slice A2 3 3] W fun e w' => ∃ A' c', e = .returned (.tuple #[.slice A' 1 c', .int .i64 0]) ∧ Sees w' w'.heap.size A' 2 (spf [(7, -1)]) ∧ Below W.heap.size W w' :=
  (moves_ok W A A2 3 3 3 tA tBf tPos h h2 (by omega) ⟨⟨fun i hi => by
      have : i = 0 ∨ i = 1 ∨ i = 2 := by omega
      rcases this with rfl | rfl | rfl <;> decide, fun i j hi hj => by
      have : i = 0 ∨ i = 1 ∨ i = 2 := by omega
      have : j = 0 ∨ j = 1 ∨ j = 2 := by omega
      rcases ‹i = 0 ∨ i = 1 ∨ i = 2› with rfl | rfl | rfl <;> rcases ‹j = 0 ∨ j = 1 ∨ j = 2› with rfl | rfl | rfl <;> decide⟩, ⟨fun i hi => by
      have : i = 0 ∨ i = 1 ∨ i = 2 := by omega
      rcases this with rfl | rfl | rfl <;> decide, fun i j hi hj => by
      have : i = 0 ∨ i = 1 ∨ i = 2 := by omega
      have : j = 0 ∨ j = 1 ∨ j = 2 := by omega
      rcases ‹i = 0 ∨ i = 1 ∨ i = 2› with rfl | rfl | rfl <;> rcases ‹j = 0 ∨ j = 1 ∨ j = 2› with rfl | rfl | rfl <;> decide⟩, fun i hi => by
      have : i = 0 ∨ i = 1 ∨ i = 2 := by omega
      rcases this with rfl | rfl | rfl <;> exact ⟨by decide, by decide⟩⟩).mono fun e w' hp => by
    obtain ⟨q, r, O, A', c', he, hl, hO, hs, hb⟩ := hp
    have hp0 : ∀ i : Nat, ((tPos i : Nat) : Int) = if i = 0 then 1 else if i = 1 then 2 else 0 := fun i => by
      unfold tPos
      split
      · rfl
      · split <;> rfl
    have h2 : 2 ≤ q := hl.best 2 (fun a => a) ⟨fun a ha => by show a < 3; omega, fun a ha => by show a < a + 1; omega, fun a ha => by
      have : a = 0 := by omega
      subst this
      show ((tPos 0 : Nat) : Int) < ((tPos 1 : Nat) : Int)
      decide⟩
    have l0 := hl.rise.lt 0 (by omega)
    have l1 := hl.rise.lt 1 (by omega)
    have u0 := hl.rise.up 0 (by omega)
    have n0 : ((tPos (r 0) : Nat) : Int) < ((tPos (r (0 + 1)) : Nat) : Int) := hl.rise.num 0 (by omega)
    rw [hp0, hp0] at n0
    have q2 : q = 2 := by
      rcases Nat.lt_or_ge 2 q with h | h
      · have l2 := hl.rise.lt 2 (by omega)
        have u1 := hl.rise.up 1 (by omega)
        have n1 : ((tPos (r 1) : Nat) : Int) < ((tPos (r (1 + 1)) : Nat) : Int) := hl.rise.num 1 (by omega)
        rw [hp0, hp0] at n1
        exfalso
        have e0 : r 0 = 0 := by simp only [Nat.zero_add, Nat.reduceAdd] at *; omega
        have e1 : r 1 = 1 := by simp only [Nat.zero_add, Nat.reduceAdd] at *; omega
        have e2 : r 2 = 2 := by simp only [Nat.zero_add, Nat.reduceAdd] at *; omega
        simp [e1, e2] at n1
      · omega
    subst q2
    simp only [Nat.zero_add] at u0 n0
    have e1 : r 1 = 1 ∧ r 0 = 0 := by
      have : r 1 = 1 ∨ r 1 = 2 := by omega
      rcases this with h | h
      · exact ⟨h, by omega⟩
      · exfalso
        rw [h] at n0
        have : r 0 = 0 ∨ r 0 = 1 := by omega
        rcases this with h' | h' <;> rw [h'] at n0 <;> simp at n0
    have eO : O = [(7, -1)] := by
      rcases hO with h | ⟨h, _⟩
      · rw [h]
        have eb : bk tBf 3 3 = [(2, 7), (1, 9), (0, 8)] := by decide
        rw [eb]
        simp [mst, mstep, e1.1, e1.2]
      · omega
    subst eO
    exact ⟨A', c', he, hs, hb⟩
/-- A slice one cell of which is no number of the flags lies outside them. -/
theorem sees_past {w w' : World} {B p n : Nat} {A : Option Addr} {f : Nat → Value} {l : List Bool} (h : Sees w B A n f) (hF : Fl w p l) (hB : B ≤ w.heap.size) (hf : Fr (fun b => b = p) w w') (k : Nat) (hk : k < n) (v : Int) (hv : f k = .int .i64 v) (h1 : v ≠ (l.length : Int)) (h2 : v ≠ (cn l : Int)) : Sees w' w'.heap.size A n f := by
  intro hn
  obtain ⟨b, o, e1, hb, hc⟩ := h hn
  have hbp : ¬ b = p := by
    rintro rfl
    have h0 := hc k hk
    rw [hv] at h0
    obtain ⟨cs, q1, q2, q3⟩ := hF.row
    have g0 : cs[o + k]? = some (.int .i64 v) := by simpa [World.cell?, q1] using h0
    have ho : o + k < 66 := by
      obtain ⟨q, _⟩ := Array.getElem?_eq_some_iff.1 g0
      omega
    have f0 := (q3 (o + k) ho).symm.trans g0
    unfold flc at f0
    by_cases c : o + k = 0
    · rw [if_pos c] at f0
      cases f0
      exact h1 rfl
    · rw [if_neg c] at f0
      by_cases c : o + k = 1
      · rw [if_pos c] at f0
        cases f0
        exact h2 rfl
      · rw [if_neg c] at f0
        cases f0
  exact ⟨b, o, e1, by have := hf.size; omega, fun j hj => (World.cell?_of_block (w := w) (hf.block b (by omega) hbp)).trans (hc j hj)⟩
theorem tm9 (W : World) (hT : Tab W) (hs : (-1 : Int) < W.heap.size) : Calls Tryz.prog 35 #[.int .i64 3] W fun e w' => ∃ p, e = .returned (.tuple #[.pointer (some ⟨p, 0, none⟩), .int .i64 0]) ∧ Fl w' p (List.replicate 3 false) ∧ W.heap.size ≤ p ∧ Below W.heap.size W w' := fnew_any W hT hs 3 (by omega)
theorem tm12 (W : World) (p : Nat) (h : Fl W p (List.replicate 3 false)) : Calls Tryz.prog 37 #[.pointer (some ⟨p, 0, none⟩), .int .i64 1, .bool true] W fun e w' => e = .returned (.int .i64 0) ∧ Fl w' p [false, true, false] ∧ Fr (fun b => b = p) W w' := fSet_ok W p (List.replicate 3 false) h 1 (by decide) true
theorem tm13 (W : World) (p : Nat) (h : Fl W p [false, true, false]) : Calls Tryz.prog 68 #[.pointer (some ⟨p, 0, none⟩)] W fun e w' => e = .returned (.int .i64 1) ∧ W = w' := fcount_any W p [false, true, false] h
theorem tm14 (W : World) (A : Option Addr) (h : SeesP W W.heap.size A [(1, 3)]) : Calls Tryz.prog 69 #[.slice A 1 1] W fun e w' => e = .returned (.int .i64 2) ∧ Below W.heap.size W w' := scount_any W W.heap.size A 1 [(1, 3)] h (Nat.le_refl _) (fun s hs => by
  rw [List.mem_singleton.1 hs]
  exact ⟨⟨by decide, by decide⟩, ⟨by decide, by decide⟩⟩) (by decide)
theorem tm15 (W : World) (a : Option Addr) (h : Rp W a tL3) : Calls Tryz.prog 31 #[.agg #[.pointer a]] W fun e w' => e = .returned (.int .i64 17) ∧ Below W.heap.size W w' := rtotal_any W a tL3 h
theorem tm16 (W : World) (B p : Nat) (h : Fen W B p 3 (lf tL3)) : Calls Tryz.prog 67 #[.pointer (some ⟨p, 0, none⟩)] W fun e w' => e = .returned (.int .i64 17) ∧ W = w' := ftotal_any W B p 3 (lf tL3) h
theorem tm17 (W : World) : Calls Tryz.prog 66 #[.slice (some ⟨W.heap.size, 0, none⟩) 2 2] (W.alloc (.cells #[.int .i64 1, .int .i64 2] 3)) fun e w' => ∃ A, e = .returned (.tuple #[.slice A 1 1, .int .i64 0]) ∧ SeesP w' w'.heap.size A [(1, 3)] ∧ Below W.heap.size W w' := by
  have RW := World.rowIs_alloc W #[.int .i64 1, .int .i64 2] 3 (fun j => if j = 0 then .int .i64 1 else .int .i64 2) (fun j hj => by
    have : j = 0 ∨ j = 1 := by simp at hj; omega
    rcases this with rfl | rfl <;> rfl)
  refine (tm10 _ W.heap.size RW.lt (RW.cell (i := 0) (by simp)) (RW.cell (i := 1) (by simp))).mono fun e w' hp => ?_
  obtain ⟨A, h1, h2, h3⟩ := hp
  have b1 : Below W.heap.size W (W.alloc (.cells #[.int .i64 1, .int .i64 2] 3)) := (Below.refl _ W).alloc (Nat.le_refl _) _
  exact ⟨A, h1, h2, b1.trans (h3.mono b1.size)⟩
theorem litA (W : World) : Sees (W.alloc (.cells #[.int .i64 7, .int .i64 8, .int .i64 9] 3)) (W.alloc (.cells #[.int .i64 7, .int .i64 8, .int .i64 9] 3)).heap.size (some ⟨W.heap.size, 0, none⟩) 3 (i64s tA) := Sees.lit W #[.int .i64 7, .int .i64 8, .int .i64 9] 3 (i64s tA) 3 rfl (fun j hj => by
  have : j = 0 ∨ j = 1 ∨ j = 2 := by omega
  rcases this with rfl | rfl | rfl <;> rfl)
theorem litB (W : World) : Sees (W.alloc (.cells #[.int .i64 8, .int .i64 9, .int .i64 7] 3)) (W.alloc (.cells #[.int .i64 8, .int .i64 9, .int .i64 7] 3)).heap.size (some ⟨W.heap.size, 0, none⟩) 3 (i64s tBf) := Sees.lit W #[.int .i64 8, .int .i64 9, .int .i64 7] 3 (i64s tBf) 3 rfl (fun j hj => by
  have : j = 0 ∨ j = 1 ∨ j = 2 := by omega
  rcases this with rfl | rfl | rfl <;> rfl)
theorem tm18 (W : World) : Calls Tryz.prog 22 #[.slice (some ⟨W.heap.size, 0, none⟩) 3 3, .slice (some ⟨W.heap.size + 1, 0, none⟩) 3 3] ((W.alloc (.cells #[.int .i64 7, .int .i64 8, .int .i64 9] 3)).alloc (.cells #[.int .i64 8, .int .i64 9, .int .i64 7] 3)) fun e w' => ∃ A' c', e = .returned (.tuple #[.slice A' 1 c', .int .i64 0]) ∧ Sees w' w'.heap.size A' 2 (spf [(7, -1)]) ∧ Below W.heap.size W w' := by
  have b1 : Below W.heap.size W (W.alloc (.cells #[.int .i64 7, .int .i64 8, .int .i64 9] 3)) := (Below.refl _ W).alloc (Nat.le_refl _) _
  have b2 : Below (W.alloc (.cells #[.int .i64 7, .int .i64 8, .int .i64 9] 3)).heap.size (W.alloc (.cells #[.int .i64 7, .int .i64 8, .int .i64 9] 3)) ((W.alloc (.cells #[.int .i64 7, .int .i64 8, .int .i64 9] 3)).alloc (.cells #[.int .i64 8, .int .i64 9, .int .i64 7] 3)) := (Below.refl _ _).alloc (Nat.le_refl _) _
  have s2 := litB (W.alloc (.cells #[.int .i64 7, .int .i64 8, .int .i64 9] 3))
  have s1 := ((litA W).below b2).more b2.size
  have e : (W.alloc (.cells #[.int .i64 7, .int .i64 8, .int .i64 9] 3)).heap.size = W.heap.size + 1 := by rw [World.size_alloc]
  have b3 := b1.trans (b2.mono b1.size)
  clear b1 b2
  rw [show (some (⟨(W.alloc (.cells #[.int .i64 7, .int .i64 8, .int .i64 9] 3)).heap.size, 0, none⟩ : Addr)) = some ⟨W.heap.size + 1, 0, none⟩ by rw [e]] at s2
  refine (tm11 _ _ _ s1 s2).mono fun e w' hp => ?_
  obtain ⟨A, c, h1, h2, h3⟩ := hp
  exact ⟨A, c, h1, h2, b3.trans (h3.mono b3.size)⟩
end Go.Proofs.YtfmfmeiaekknbaaGreat
end

section
/-
  The examples of the layers 1 to 11 hold (live11).
-/
namespace Go.Proofs.YtfmfmeiaekknbaaGreat
open Go.RowKit
set_option linter.unusedVariables false
set_option linter.unusedSimpArgs false

theorem litT (w : World) (L : List Int) : SeesL (w.alloc (.cells ((L.map (fun x => Value.int .i64 x)).toArray) 2)) (w.alloc (.cells ((L.map (fun x => Value.int .i64 x)).toArray) 2)).heap.size (some ⟨w.heap.size, 0, none⟩) L :=
  Sees.lit w ((L.map (fun x => Value.int .i64 x)).toArray) 2 (i64s (lf L)) L.length (by simp) (fun j hj => by
    rw [List.getElem?_toArray, List.getElem?_map, List.getElem?_eq_getElem hj]
    show some (Value.int .i64 L[j]) = some (Value.int .i64 (lf L j))
    rw [lf_get L hj])
def tR0 : Rws := [(10, false), (10, false), (10, false)]
def tR1 : Rws := [(10, false), (10, false), (4, true)]
def tR2 : Rws := [(3, true), (10, false), (4, true)]
def tR3 : Rws := [(10, false), (4, true), (3, true)]
theorem tl1 (W : World) (A : Option Addr) (h : SeesL W W.heap.size A [10, 10, 10]) : Calls Tryz.prog 46 #[ixv none none 0, .int .i64 0, .slice A 3 3, .bool false] W (IPost W tR0 0) :=
  (iinsert_any W none none [] [] (Ix.new W) 0 A 3 W.heap.size [10, 10, 10] false ⟨by omega, by omega⟩ h (Nat.le_refl _) (Nat.le_refl _) (by unfold maxLen; decide) (by decide) (by unfold Fits; decide)).mono fun e w' hp => hp.cast (by decide) (by decide)
theorem tl2 (W : World) (a A : Option Addr) (S : Sp) (g : Ix W a A S tR0) : Calls Tryz.prog 64 #[ixv a A S.length, .int .i64 2, .int .i64 4, .bool true] W (IPost W tR1 0) :=
  (iset_any W a A S tR0 g 2 4 true ⟨by omega, by omega⟩ ⟨by omega, by omega⟩).mono fun e w' hp => hp.cast (by decide) (by decide)
theorem tl3 (W : World) (a A : Option Addr) (S : Sp) (g : Ix W a A S tR1) : Calls Tryz.prog 64 #[ixv a A S.length, .int .i64 0, .int .i64 3, .bool true] W (IPost W tR2 0) :=
  (iset_any W a A S tR1 g 0 3 true ⟨by omega, by omega⟩ ⟨by omega, by omega⟩).mono fun e w' hp => hp.cast (by decide) (by decide)
theorem tl4 (W : World) (a A : Option Addr) (S : Sp) (g : Ix W a A S tR2) : Calls Tryz.prog 40 #[ixv a A S.length, .int .i64 0, .int .i64 1, .int .i64 2] W (IPost W tR3 0) :=
  (imove_ok W a A S tR2 g 0 1 2 (by decide) (by decide)).mono fun e w' hp => hp.cast (by decide) rfl
/-- The keys. -/
def keyF (i : Nat) : Int := if i = 0 then 7 else if i = 1 then 8 else 9
/-- The values of the first k keys. -/
def tT : Nat → Int → Option Int
  | 0 => fun _ => none
  | k + 1 => tput (tT k) (keyF k) k
theorem rp_frS {w w' : World} {a : Option Addr} {L : List Int} {S : Nat → Prop} (h : Rp w a L) (hf : Fr S w w') (hS : ∀ b f, w.rowIs b 108 6 f → ¬ S b) : Rp w' a L := by
  obtain ⟨t, h1, h2, h3⟩ := h
  exact ⟨t, h1.stay fun b f hr => hf.block b hr.lt (hS b f hr), h2, h3⟩
def DepT (q : Nat) (a A : Option Addr) (S : Sp) : Prop := q = q ∧ a = a ∧ A = A ∧ S = S
/-- Behind a region with several orders: what they come to. -/
theorem wp_joinT {P : Program} {c : Code} {Q : Exit → Act → World → Prop} {a : Act} {w : World} {T : Nat → Option Addr → Option Addr → Sp → Act} (X : Nat → Option Addr → Option Addr → Sp → World → Prop)
    (h1 : c.wp P (fun e x y => e = .normal ∧ ∃ q a A S, x = T q a A S ∧ X q a A S y) a w) (h2 : ∀ q a A S y, X q a A S y → Q .normal (T q a A S) y) : c.wp P Q a w :=
  Code.wp_mono (fun e x y h => by
    obtain ⟨rfl, q, a, A, S, rfl, h⟩ := h
    exact h2 q a A S y h) h1
/-- An index variable of which the sizes matter alone. -/
structure YV (w : World) (q : Nat) (a A : Option Addr) (n : Nat) (L : List Int) : Prop where
  xv : XVar w q a A n
  rp : Rp w a L
theorem YV.below {w w' : World} {q n : Nat} {a A : Option Addr} {L : List Int} (h : YV w q a A n L) (hb : Below w.heap.size w w') : YV w' q a A n L := ⟨World.rowIs.of_block h.xv (hb.block q (World.rowIs.lt h.xv)), h.rp.below hb⟩
theorem YV.cells {w : World} {q n : Nat} {a A : Option Addr} {L : List Int} (h : YV w q a A n L) : w.cell? ⟨q, 0, none⟩ = some (.pointer a) ∧ w.cell? ⟨q, 1, none⟩ = some (.slice A n n) ∧ w.frozen? ⟨q, 0, none⟩ = false ∧ w.frozen? ⟨q, 1, none⟩ = false ∧ q < w.heap.size :=
  ⟨World.rowIs.cell h.xv (i := 0) (by omega), World.rowIs.cell h.xv (i := 1) (by omega), World.rowIs.frozen h.xv 0, World.rowIs.frozen h.xv 1, World.rowIs.lt h.xv⟩
/-- The rows of the index in the second loop. -/
def tRk (k : Nat) : Rws := if k = 0 then tR0 else if k = 1 then tR1 else tR2
set_option maxRecDepth 100000 in
set_option maxHeartbeats 12800000 in
theorem live11_yes (w : World) (hT : Tab w) (h0 : (-1 : Int) < w.heap.size) : Calls Tryz.prog 20 #[] w fun e w' => e = .returned (.bool true) ∧ Below w.heap.size w w' := by
  have V0 := Lib.hid (LX.start (Below.refl _ w))
  have HTab := Lib.hid hT
  have HPos := Lib.hid h0
  clear hT h0
  go_enter Tryz.func20, Tryz.ntmps20
  go_wp2_with fail
  refine (new_any w).mono ?_
  rintro e w1 ⟨rfl, hb⟩
  have V1 := Lib.hid (V0.out.below hb)
  clear hb
  go_wp2_with fail
  refine (tl1 _ _ (litT w1 [10, 10, 10])).mono ?_
  rintro e w2 ⟨a2, A2, S2, rfl, q, hb⟩
  have V2 := Lib.hid (((V1.out.alloc (.cells #[.int .i64 10, .int .i64 10, .int .i64 10] 2)).below hb).cons q)
  clear hb q
  obtain ⟨bx, ebx⟩ : ∃ b, b = w2.heap.size := ⟨_, rfl⟩
  have V2' : Hid (LX w (ixw w2 a2 A2 S2.length) [(bx, a2, A2, S2, tR0)] []) := by rw [ebx]; exact V2.out
  have HS : Sees ((ixw w2 a2 A2 S2.length).alloc (.cells #[.int .u64 7, .int .u64 8, .int .u64 9] 115)) ((ixw w2 a2 A2 S2.length).alloc (.cells #[.int .u64 7, .int .u64 8, .int .u64 9] 115)).heap.size (some ⟨bx + 1, 0, none⟩) 3 (fun j => .int .u64 (keyF j)) := by
    have := Sees.lit (ixw w2 a2 A2 S2.length) #[.int .u64 7, .int .u64 8, .int .u64 9] 115 (fun j => .int .u64 (keyF j)) 3 rfl (fun j hj => by
      have : j = 0 ∨ j = 1 ∨ j = 2 := by omega
      rcases this with rfl | rfl | rfl <;> rfl)
    rwa [show (ixw w2 a2 A2 S2.length).heap.size = bx + 1 by rw [ebx]; simp] at this
  have KB := Lib.hid (GapU.new_ok _ 3 3 _ keyF HS (by omega))
  have EBX := Lib.hid ebx
  clear V2 HS ebx
  go_wp2_with fail
  rw [← EBX.out]
  refine (KB.out).mono ?_
  rintro e w4 ⟨pb, rfl, hbuf, hb⟩
  have V4 := Lib.hid ((V2'.out.alloc _).below hb)
  have BU := Lib.hid hbuf
  have lB : bx < ((ixw w2 a2 A2 S2.length).alloc (.cells #[.int .u64 7, .int .u64 8, .int .u64 9] 115)).heap.size := by rw [World.size_alloc, World.size_alloc, EBX.out]; omega
  generalize ((ixw w2 a2 A2 S2.length).alloc (.cells #[.int .u64 7, .int .u64 8, .int .u64 9] 115)).heap.size = B0 at BU lB
  have KN := Lib.hid (knew_any w4)
  clear KB V2' hbuf hb
  go_wp2_with fail
  refine (KN.out).mono ?_
  rintro e w5 ⟨rfl, k1, k2⟩
  obtain ⟨pm, epm⟩ : ∃ b, b = w4.heap.size := ⟨_, rfl⟩
  have EPM := Lib.hid epm
  have R5 := Lib.hid k1
  have D5 := Lib.hid k2
  rw [← epm] at R5 ⊢
  clear KN k1 k2 epm
  go_wp2_with fail
  go_loopw [6] (fun iv wr => ∃ k : Nat, k ≤ 3 ∧ iv = .int .i64 k ∧ Hid ((k = 0 ∧ wr.rowIs pm 190 3 (kmc none 0 0)) ∨ (0 < k ∧ ∃ g, w4.heap.size ≤ g ∧ KG wr pm g (tT k))) ∧ Hid (Below w4.heap.size w4 wr)) (fun iv _ => 3 - (intOf iv).toNat)
  case atStart => exact ⟨0, by omega, rfl, .inl ⟨rfl, R5.out⟩, D5⟩
  case round =>
    obtain ⟨k, hk, rfl, hM, hD⟩ := hrel
    clear R5 D5
    rcases (show k = 0 ∨ k = 1 ∨ k = 2 ∨ k = 3 by omega) with rfl | rfl | rfl | rfl
    · have hR : wr.rowIs pm 190 3 (kmc none 0 0) := by
        rcases hM.out with ⟨_, h⟩ | ⟨h, _⟩
        · exact h
        · omega
      -- 0 k, 7 key, kput_first wd pm (by obtain ⟨q, rfl⟩ := hd; exact hR) 7 0 (.inl rfl) the Put's contract ;; ⟨g, rfl, k1, k2, k3⟩ its pattern ;;  new state
      have KA : Hid (Calls Tryz.prog 60 #[.pointer (some ⟨pb, 0, none⟩), .int .i64 0] wr fun e w' => e = .returned (.tuple #[.int .u64 7, .int .i64 0]) ∧ Drawn wr w') := GapU.at_ok wr _ pb 3 3 keyF (BU.out.below hD.out) 0 (by omega)
      go_wp2_with fail
      refine (KA.out).mono ?_
      rintro e wd ⟨rfl, hd⟩
      have D1 := Lib.hid (hD.out.trans ((hd.below _).mono (Nat.le_refl _)))
      have KP := Lib.hid (kput_first wd pm (by obtain ⟨q, rfl⟩ := hd; exact hR) 7 0 (.inl rfl))
      have HM := hM.out
      clear hd KA hD hM
      go_wp2_with fail
      refine (KP.out).mono ?_
      rintro e w5 ⟨g, rfl, k1, k2, k3⟩
      have S1 : Hid ((1 = 0 ∧ w5.rowIs pm 190 3 (kmc none 0 0)) ∨ (0 < 1 ∧ ∃ g, w4.heap.size ≤ g ∧ KG w5 pm g (tT 1))) := .inr ⟨by omega, g, by have := D1.out.size; omega, k1⟩
      have D2 : Hid (Below w4.heap.size w4 w5) := D1.out.trans (k3.below D1.out.size (fun b h => by have := EPM.out; have := D1.out.size; omega))
      clear k1 k2 k3 hR HM KP
      go_wp2_with fail
      go_roundw
      case rel => exact ⟨1, by omega, by go_num, S1, D2⟩
      case measure => simp [intOf]
    · obtain ⟨g, hg, hR⟩ : ∃ g, w4.heap.size ≤ g ∧ KG wr pm g (tT 1) := by
        rcases hM.out with ⟨h, _⟩ | ⟨_, h⟩
        · omega
        · exact h
      -- 1 k, 8 key, kput_new wd pm g (tT 1) (by obtain ⟨q, rfl⟩ := hd; exact hR.keep rfl rfl) 8 1 (.inr (.inl rfl)) rfl (by decide) the Put's contract ;; ⟨rfl, k1, k3⟩ its pattern ;;  new state
      have KA : Hid (Calls Tryz.prog 60 #[.pointer (some ⟨pb, 0, none⟩), .int .i64 1] wr fun e w' => e = .returned (.tuple #[.int .u64 8, .int .i64 0]) ∧ Drawn wr w') := GapU.at_ok wr _ pb 3 3 keyF (BU.out.below hD.out) 1 (by omega)
      go_wp2_with fail
      refine (KA.out).mono ?_
      rintro e wd ⟨rfl, hd⟩
      have D1 := Lib.hid (hD.out.trans ((hd.below _).mono (Nat.le_refl _)))
      have KP := Lib.hid (kput_new wd pm g (tT 1) (by obtain ⟨q, rfl⟩ := hd; exact hR.keep rfl rfl) 8 1 (.inr (.inl rfl)) rfl (by decide))
      have HM := hM.out
      clear hd KA hD hM
      go_wp2_with fail
      refine (KP.out).mono ?_
      rintro e w5 ⟨rfl, k1, k3⟩
      have S1 : Hid ((2 = 0 ∧ w5.rowIs pm 190 3 (kmc none 0 0)) ∨ (0 < 2 ∧ ∃ g, w4.heap.size ≤ g ∧ KG w5 pm g (tT 2))) := .inr ⟨by omega, g, hg, k1⟩
      have D2 : Hid (Below w4.heap.size w4 w5) := D1.out.trans (k3.below D1.out.size (fun b h => by have := EPM.out; omega))
      clear k1 k3 hR HM KP
      go_wp2_with fail
      go_roundw
      case rel => exact ⟨2, by omega, by go_num, S1, D2⟩
      case measure => simp [intOf]
    · obtain ⟨g, hg, hR⟩ : ∃ g, w4.heap.size ≤ g ∧ KG wr pm g (tT 2) := by
        rcases hM.out with ⟨h, _⟩ | ⟨_, h⟩
        · omega
        · exact h
      -- 2 k, 9 key, kput_new wd pm g (tT 2) (by obtain ⟨q, rfl⟩ := hd; exact hR.keep rfl rfl) 9 2 (.inr (.inr rfl)) rfl (by decide) the Put's contract ;; ⟨rfl, k1, k3⟩ its pattern ;;  new state
      have KA : Hid (Calls Tryz.prog 60 #[.pointer (some ⟨pb, 0, none⟩), .int .i64 2] wr fun e w' => e = .returned (.tuple #[.int .u64 9, .int .i64 0]) ∧ Drawn wr w') := GapU.at_ok wr _ pb 3 3 keyF (BU.out.below hD.out) 2 (by omega)
      go_wp2_with fail
      refine (KA.out).mono ?_
      rintro e wd ⟨rfl, hd⟩
      have D1 := Lib.hid (hD.out.trans ((hd.below _).mono (Nat.le_refl _)))
      have KP := Lib.hid (kput_new wd pm g (tT 2) (by obtain ⟨q, rfl⟩ := hd; exact hR.keep rfl rfl) 9 2 (.inr (.inr rfl)) rfl (by decide))
      have HM := hM.out
      clear hd KA hD hM
      go_wp2_with fail
      refine (KP.out).mono ?_
      rintro e w5 ⟨rfl, k1, k3⟩
      have S1 : Hid ((3 = 0 ∧ w5.rowIs pm 190 3 (kmc none 0 0)) ∨ (0 < 3 ∧ ∃ g, w4.heap.size ≤ g ∧ KG w5 pm g (tT 3))) := .inr ⟨by omega, g, hg, k1⟩
      have D2 : Hid (Below w4.heap.size w4 w5) := D1.out.trans (k3.below D1.out.size (fun b h => by have := EPM.out; omega))
      clear k1 k3 hR HM KP
      go_wp2_with fail
      go_roundw
      case rel => exact ⟨3, by omega, by go_num, S1, D2⟩
      case measure => simp [intOf]
    · obtain ⟨g, hg, hR⟩ : ∃ g, w4.heap.size ≤ g ∧ KG wr pm g (tT 3) := by
        rcases hM.out with ⟨h, _⟩ | ⟨_, h⟩
        · omega
        · exact h
      have lpm : pm < wr.heap.size := hR.hp.lt
      obtain ⟨tb, etb⟩ : ∃ t, t = wr.heap.size := ⟨_, rfl⟩
      have TB : Hid ((wr.alloc (.cells #[.int .u64 9, .int .i64 4, .int .u64 7, .int .i64 3] 123)).rowIs tb 123 4 tabC) := by
        rw [etb]
        exact World.rowIs_alloc wr _ _ _ (fun j hj => by
          have : j = 0 ∨ j = 1 ∨ j = 2 ∨ j = 3 := by simp at hj; omega
          rcases this with rfl | rfl | rfl | rfl <;> rfl)
      have L6 : Below wr.heap.size wr (wr.alloc (.cells #[.int .u64 9, .int .i64 4, .int .u64 7, .int .i64 3] 123)) := (Below.refl _ wr).alloc (Nat.le_refl _) _
      have R6 := Lib.hid (hR.below L6)
      have D6 : Hid (Below w4.heap.size w4 (wr.alloc (.cells #[.int .u64 9, .int .i64 4, .int .u64 7, .int .i64 3] 123))) := hD.out.trans (L6.mono hD.out.size)
      have KC := Lib.hid (tcheck_ok _ tb TB.out)
      have ETB := Lib.hid etb
      have LW := hD.out.size
      have LTB : Hid (w4.heap.size ≤ tb) := by show _ ≤ _; omega
      clear hM hD hR L6 etb LW
      go_wp2_with fail
      rw [← ETB.out]
      refine (KC.out).mono ?_
      rintro e w7 ⟨rfl, hb⟩
      have D7 : Hid (Below w4.heap.size w4 w7) := D6.out.trans (hb.mono D6.out.size)
      have R7 := Lib.hid (R6.out.below hb)
      have TB7 := Lib.hid (TB.out.of_block (hb.block _ TB.out.lt))
      have V7 := Lib.hid (V4.out.below D7.out)
      clear hb KC R6 D6 TB
      go_wp2_with fail
      have VL : Hid (bx < w4.heap.size) := (V4.out.get (.head _)).lt
      have B7 := Lib.hid (GapU.Buf.below BU.out D7.out)
      clear V4 BU D7
      go_loopw [12] (fun iv wr => ∃ (k : Nat) (a A : Option Addr) (S : Sp), k ≤ 2 ∧ iv = .int .i64 k ∧ Hid (LX w wr [(bx, a, A, S, tRk k)] []) ∧ Hid (wr.rowIs tb 123 4 tabC) ∧ Hid (KG wr pm g (tT 3)) ∧ Hid (GapU.Buf wr B0 pb 3 3 keyF)) (fun iv _ => 2 - (intOf iv).toNat)
      case atStart => exact ⟨0, a2, A2, S2, by omega, rfl, V7, TB7, R7, B7⟩
      case round =>
        obtain ⟨k, a, A, S, hk, rfl, L, T8, K8, B8⟩ := hrel
        clear V7 TB7 R7 B7
        rcases (show k = 0 ∨ k = 1 ∨ k = 2 by omega) with rfl | rfl | rfl
        · -- (kget_any wr pm g (tT 3) K8.out 9 (.inr (.inr rfl)) (by decide) : Calls Tryz.prog 63 #[.pointer (some ⟨pm, 0, none⟩), .int .u64 9] wr fun e w' => e = .returned (.tuple #[.int .i64 2, .bool true]) ∧ Below wr.heap.size wr w') the Get's contract at wr (a fact), tl2 the Set's contract, tR0 rows before, tR1 rows behind, 1 k behind,  cells of the table: key's offset,  size's offset,  literals
          obtain ⟨x1, x2, x3, x4, _, lx⟩ := L.out.get (.head _)
          have t0 : wr.cell? ⟨tb, 0, none⟩ = some (.int .u64 9) := T8.out.cell (i := 0) (by omega)
          have t2 : wr.cell? ⟨tb, 2, none⟩ = some (.int .u64 7) := T8.out.cell (i := 2) (by omega)
          have KGET := Lib.hid ((kget_any wr pm g (tT 3) K8.out 9 (.inr (.inr rfl)) (by decide) : Calls Tryz.prog 63 #[.pointer (some ⟨pm, 0, none⟩), .int .u64 9] wr fun e w' => e = .returned (.tuple #[.int .i64 2, .bool true]) ∧ Below wr.heap.size wr w'))
          clear x1 x2 x3 x4 lx
          go_wp2_with fail
          refine (KGET.out).mono ?_
          rintro e wa ⟨rfl, hb⟩
          have La := Lib.hid (L.out.below hb)
          have Ta := Lib.hid (T8.out.of_block (hb.block _ T8.out.lt))
          have Ra := Lib.hid (K8.out.below hb)
          have Ba := Lib.hid (GapU.Buf.below B8.out hb)
          clear hb KGET L T8 K8 B8 t0 t2
          have t1 : wa.cell? ⟨tb, 1, none⟩ = some (.int .i64 4) := Ta.out.cell (i := 1) (by omega)
          have t3 : wa.cell? ⟨tb, 3, none⟩ = some (.int .i64 3) := Ta.out.cell (i := 3) (by omega)
          have lt := Ta.out.lt
          obtain ⟨x1, x2, x3, x4, _, lx⟩ := La.out.get (.head _)
          have D1 : Hid (Below wa.heap.size wa wa.drew) := (Below.refl _ _).drew
          have BE : Hid (∀ o, Below wa.heap.size wa ((wa.alloc o).drew)) := fun o => ((Below.refl _ wa).alloc (Nat.le_refl _) _).drew
          go_wp2_with fail
          apply wp_joinT (X := fun q a' A' S' y => LX w y [(q, a', A', S', tR1), (bx, a, A, S, tR0)] [] ∧ Below wa.heap.size wa y ∧ DepT q a' A' S' ∧ q ≠ bx)
          case h1 =>
            refine wp_region_tree ((PT.pures [0, 1, 2, 3, 4, 5, 6] (.two 7 11 (.pures [8, 9, 10] (.mark 11 (.mark 12 (.pure 13 .fin)))) (.mark 7 (.pures [8, 9, 10] (.mark 12 (.pure 13 .fin))))))) (Below wa.heap.size wa) (by kernel_rfl) (by kernel_rfl) (D1.out) ?_
            repeat (refine HT.pure (by simp only [List.getElem?_toArray, List.getElem?_cons_succ, List.getElem?_cons_zero]; rfl) (fun K hK => ?_); first | (apply held_yes; (focus rfl); (focus (intro w' hw; obtain ⟨hc', hf'⟩ := below_cells hw; go_simp; rfl)); (go_simp; refine hK _ ?_; clear hK K)) | (refine ite_no (by decide) ?_; go_simp; refine hK _ ?_; clear hK K))
            refine HT.two (by simp only [List.getElem?_toArray, List.getElem?_cons_succ, List.getElem?_cons_zero]; rfl) (by simp only [List.getElem?_toArray, List.getElem?_cons_succ, List.getElem?_cons_zero]; rfl) ?_ ?_
            · go_wp2_with fail
              refine (tl2 _ _ _ _ ((La.out.below D1.out).get (.head _)).ix).mono ?_
              rintro e wb ⟨ab, Ab, Sb, rfl, p, hb⟩
              have BB : Hid (Below wa.heap.size wa wb) := D1.out.trans hb
              have BC : Hid (∀ o, Below wa.heap.size wa (wb.alloc o)) := fun o => BB.out.alloc BB.out.size _
              have L5 := Lib.hid ((La.out.below BB.out).cons p)
              have lq : wb.heap.size ≠ bx := by have := BB.out.size; omega
              have LQ := Lib.hid lq
              clear hb p lq
              go_wp2_with fail
              refine ⟨BB.out, ?_⟩
              repeat (refine HT.pure (by simp only [List.getElem?_toArray, List.getElem?_cons_succ, List.getElem?_cons_zero]; rfl) (fun K hK => ?_); first | (apply held_yes; (focus rfl); (focus (intro w' hw; obtain ⟨hc', hf'⟩ := below_cells hw; go_simp; rfl)); (go_simp; refine hK _ ?_; clear hK K)) | (refine ite_no (by decide) ?_; go_simp; refine hK _ ?_; clear hK K))
              refine HT.mark (by simp only [List.getElem?_toArray, List.getElem?_cons_succ, List.getElem?_cons_zero]; rfl) ?_
              go_wp2_with fail
              refine ⟨(BC.out _), ?_⟩
              repeat (refine HT.pure (by simp only [List.getElem?_toArray, List.getElem?_cons_succ, List.getElem?_cons_zero]; rfl) (fun K hK => ?_); first | (apply held_yes; (focus rfl); (focus (intro w' hw; obtain ⟨hc', hf'⟩ := below_cells hw; go_simp; rfl)); (go_simp; refine hK _ ?_; clear hK K)) | (refine ite_no (by decide) ?_; go_simp; refine hK _ ?_; clear hK K))
              refine HT.mark (by simp only [List.getElem?_toArray, List.getElem?_cons_succ, List.getElem?_cons_zero]; rfl) ?_
              go_wp2_with fail
              refine ⟨(BC.out _), ?_⟩
              repeat (refine HT.pure (by simp only [List.getElem?_toArray, List.getElem?_cons_succ, List.getElem?_cons_zero]; rfl) (fun K hK => ?_); first | (apply held_yes; (focus rfl); (focus (intro w' hw; obtain ⟨hc', hf'⟩ := below_cells hw; go_simp; rfl)); (go_simp; refine hK _ ?_; clear hK K)) | (refine ite_no (by decide) ?_; go_simp; refine hK _ ?_; clear hK K))
              refine HT.fin ?_
              have B5 := BC.out (.cells #[.pointer ab, .slice Ab Sb.length Sb.length] 32)
              have L6 := L5.out
              have L7 := LQ.out
              obtain ⟨qq, hq⟩ : ∃ q, q = wb.heap.size := ⟨_, rfl⟩
              rw [← hq] at L6 L7 ⊢
              exact ⟨rfl, qq, ab, Ab, Sb, rfl, L6, B5, ⟨rfl, rfl, rfl, rfl⟩, L7⟩
            · go_wp2_with fail
              refine ⟨(BE.out _), ?_⟩
              repeat (refine HT.pure (by simp only [List.getElem?_toArray, List.getElem?_cons_succ, List.getElem?_cons_zero]; rfl) (fun K hK => ?_); first | (apply held_yes; (focus rfl); (focus (intro w' hw; obtain ⟨hc', hf'⟩ := below_cells hw; go_simp; rfl)); (go_simp; refine hK _ ?_; clear hK K)) | (refine ite_no (by decide) ?_; go_simp; refine hK _ ?_; clear hK K))
              refine HT.mark (by simp only [List.getElem?_toArray, List.getElem?_cons_succ, List.getElem?_cons_zero]; rfl) ?_
              go_wp2_with fail
              refine (tl2 _ _ _ _ ((La.out.below (BE.out _)).get (.head _)).ix).mono ?_
              rintro e wb ⟨ab, Ab, Sb, rfl, p, hb⟩
              have BB : Hid (Below wa.heap.size wa wb) := (BE.out _).trans (hb.mono (BE.out _).size)
              have LV := La.out.cons (Ix.new _)
              have L6 := Lib.hid ((LV.drawn (w' := (wa.alloc (.cells #[.pointer none, .slice none 0 0] 32)).drew) ⟨1, rfl⟩).below hb)
              obtain ⟨y1, y2, y3, y4, l1⟩ := L6.out.get0 (.head _)
              have BC : Hid (∀ v v', Below wa.heap.size wa ((wb.setCell ⟨wa.heap.size, 0, none⟩ v).setCell ⟨wa.heap.size, 1, none⟩ v')) := fun v v' => (BB.out.setCell (p := ⟨wa.heap.size, 0, none⟩) (Nat.le_refl _) v).setCell (p := ⟨wa.heap.size, 1, none⟩) (Nat.le_refl _) v'
              have L7 := Lib.hid (L6.out.put (.head _) p [(bx, a, A, S, tR0)] (fun x hx => by
                rw [List.mem_singleton.1 hx]
                exact ⟨.tail _ (.head _), by show bx ≠ _; omega⟩))
              clear hb p LV
              go_wp2_with fail
              refine ⟨BB.out, ?_⟩
              repeat (refine HT.pure (by simp only [List.getElem?_toArray, List.getElem?_cons_succ, List.getElem?_cons_zero]; rfl) (fun K hK => ?_); first | (apply held_yes; (focus rfl); (focus (intro w' hw; obtain ⟨hc', hf'⟩ := below_cells hw; go_simp; rfl)); (go_simp; refine hK _ ?_; clear hK K)) | (refine ite_no (by decide) ?_; go_simp; refine hK _ ?_; clear hK K))
              refine HT.mark (by simp only [List.getElem?_toArray, List.getElem?_cons_succ, List.getElem?_cons_zero]; rfl) ?_
              go_wp2_with fail
              refine ⟨(BC.out _ _), ?_⟩
              repeat (refine HT.pure (by simp only [List.getElem?_toArray, List.getElem?_cons_succ, List.getElem?_cons_zero]; rfl) (fun K hK => ?_); first | (apply held_yes; (focus rfl); (focus (intro w' hw; obtain ⟨hc', hf'⟩ := below_cells hw; go_simp; rfl)); (go_simp; refine hK _ ?_; clear hK K)) | (refine ite_no (by decide) ?_; go_simp; refine hK _ ?_; clear hK K))
              refine HT.fin ?_
              exact ⟨rfl, wa.heap.size, ab, Ab, Sb, rfl, L7.out, BC.out _ _, ⟨rfl, rfl, rfl, rfl⟩, by omega⟩
          case h2 =>
            rintro q a' A' S' y ⟨L, HB, _, hqx⟩
            have L4 := Lib.hid L
            have Ty := Lib.hid (Ta.out.of_block (HB.block _ Ta.out.lt))
            have Ry := Lib.hid (Ra.out.below HB)
            have By := Lib.hid (GapU.Buf.below Ba.out HB)
            clear L HB x1 x2 x3 x4 lx t1 t3 lt Ta Ra Ba D1 BE La
            obtain ⟨x1, x2, x3, x4, xi, lx⟩ := L4.out.get (.head _)
            obtain ⟨z1, z2, z3, z4, _, lz⟩ := L4.out.get (.tail _ (.head _))
            have L5 := Lib.hid (L4.out.put1 (.tail _ (.head _)) xi)
            have hp1 : pm ≠ bx := by have := EPM.out; have := VL.out; omega
            have hp2 : g ≠ bx := by have := VL.out; omega
            have hp3 : tb ≠ bx := by have := LTB.out; have := VL.out; omega
            have Tz := Lib.hid (row_past (row_past Ty.out hp3 (i := 0) (.pointer a')) hp3 (i := 1) (.slice A' S'.length S'.length))
            have Rz : Hid (KG ((y.setCell ⟨bx, 0, none⟩ (.pointer a')).setCell ⟨bx, 1, none⟩ (.slice A' S'.length S'.length)) pm g (tT 3)) := Ry.out.keep (by rw [Below.heap_setCell _ _ _ _ hp1, Below.heap_setCell _ _ _ _ hp1]) (by rw [Below.heap_setCell _ _ _ _ hp2, Below.heap_setCell _ _ _ _ hp2])
            have Bz : Hid (GapU.Buf ((y.setCell ⟨bx, 0, none⟩ (.pointer a')).setCell ⟨bx, 1, none⟩ (.slice A' S'.length S'.length)) B0 pb 3 3 keyF) := GapU.Buf.keep By.out (fun b h1 h2 => by
              rw [Below.heap_setCell _ _ _ _ (show b ≠ bx by omega), Below.heap_setCell _ _ _ _ (show b ≠ bx by omega)])
            clear Ty Ry By L4 hp1 hp2 hp3 xi hqx
            go_wp2_with fail
            go_roundw
            case rel => exact ⟨1, a', A', S', by omega, by go_num, L5, Tz, Rz, Bz⟩
            case measure => simp [intOf]
        · -- (kget_any wr pm g (tT 3) K8.out 7 (.inl rfl) (by decide) : Calls Tryz.prog 63 #[.pointer (some ⟨pm, 0, none⟩), .int .u64 7] wr fun e w' => e = .returned (.tuple #[.int .i64 0, .bool true]) ∧ Below wr.heap.size wr w') the Get's contract at wr (a fact), tl3 the Set's contract, tR1 rows before, tR2 rows behind, 2 k behind,  cells of the table: key's offset,  size's offset,  literals
          obtain ⟨x1, x2, x3, x4, _, lx⟩ := L.out.get (.head _)
          have t0 : wr.cell? ⟨tb, 0, none⟩ = some (.int .u64 9) := T8.out.cell (i := 0) (by omega)
          have t2 : wr.cell? ⟨tb, 2, none⟩ = some (.int .u64 7) := T8.out.cell (i := 2) (by omega)
          have KGET := Lib.hid ((kget_any wr pm g (tT 3) K8.out 7 (.inl rfl) (by decide) : Calls Tryz.prog 63 #[.pointer (some ⟨pm, 0, none⟩), .int .u64 7] wr fun e w' => e = .returned (.tuple #[.int .i64 0, .bool true]) ∧ Below wr.heap.size wr w'))
          clear x1 x2 x3 x4 lx
          go_wp2_with fail
          refine (KGET.out).mono ?_
          rintro e wa ⟨rfl, hb⟩
          have La := Lib.hid (L.out.below hb)
          have Ta := Lib.hid (T8.out.of_block (hb.block _ T8.out.lt))
          have Ra := Lib.hid (K8.out.below hb)
          have Ba := Lib.hid (GapU.Buf.below B8.out hb)
          clear hb KGET L T8 K8 B8 t0 t2
          have t1 : wa.cell? ⟨tb, 1, none⟩ = some (.int .i64 4) := Ta.out.cell (i := 1) (by omega)
          have t3 : wa.cell? ⟨tb, 3, none⟩ = some (.int .i64 3) := Ta.out.cell (i := 3) (by omega)
          have lt := Ta.out.lt
          obtain ⟨x1, x2, x3, x4, _, lx⟩ := La.out.get (.head _)
          have D1 : Hid (Below wa.heap.size wa wa.drew) := (Below.refl _ _).drew
          have BE : Hid (∀ o, Below wa.heap.size wa ((wa.alloc o).drew)) := fun o => ((Below.refl _ wa).alloc (Nat.le_refl _) _).drew
          go_wp2_with fail
          apply wp_joinT (X := fun q a' A' S' y => LX w y [(q, a', A', S', tR2), (bx, a, A, S, tR1)] [] ∧ Below wa.heap.size wa y ∧ DepT q a' A' S' ∧ q ≠ bx)
          case h1 =>
            refine wp_region_tree ((PT.pures [0, 1, 2, 3, 4, 5, 6] (.two 7 11 (.pures [8, 9, 10] (.mark 11 (.mark 12 (.pure 13 .fin)))) (.mark 7 (.pures [8, 9, 10] (.mark 12 (.pure 13 .fin))))))) (Below wa.heap.size wa) (by kernel_rfl) (by kernel_rfl) (D1.out) ?_
            repeat (refine HT.pure (by simp only [List.getElem?_toArray, List.getElem?_cons_succ, List.getElem?_cons_zero]; rfl) (fun K hK => ?_); first | (apply held_yes; (focus rfl); (focus (intro w' hw; obtain ⟨hc', hf'⟩ := below_cells hw; go_simp; rfl)); (go_simp; refine hK _ ?_; clear hK K)) | (refine ite_no (by decide) ?_; go_simp; refine hK _ ?_; clear hK K))
            refine HT.two (by simp only [List.getElem?_toArray, List.getElem?_cons_succ, List.getElem?_cons_zero]; rfl) (by simp only [List.getElem?_toArray, List.getElem?_cons_succ, List.getElem?_cons_zero]; rfl) ?_ ?_
            · go_wp2_with fail
              refine (tl3 _ _ _ _ ((La.out.below D1.out).get (.head _)).ix).mono ?_
              rintro e wb ⟨ab, Ab, Sb, rfl, p, hb⟩
              have BB : Hid (Below wa.heap.size wa wb) := D1.out.trans hb
              have BC : Hid (∀ o, Below wa.heap.size wa (wb.alloc o)) := fun o => BB.out.alloc BB.out.size _
              have L5 := Lib.hid ((La.out.below BB.out).cons p)
              have lq : wb.heap.size ≠ bx := by have := BB.out.size; omega
              have LQ := Lib.hid lq
              clear hb p lq
              go_wp2_with fail
              refine ⟨BB.out, ?_⟩
              repeat (refine HT.pure (by simp only [List.getElem?_toArray, List.getElem?_cons_succ, List.getElem?_cons_zero]; rfl) (fun K hK => ?_); first | (apply held_yes; (focus rfl); (focus (intro w' hw; obtain ⟨hc', hf'⟩ := below_cells hw; go_simp; rfl)); (go_simp; refine hK _ ?_; clear hK K)) | (refine ite_no (by decide) ?_; go_simp; refine hK _ ?_; clear hK K))
              refine HT.mark (by simp only [List.getElem?_toArray, List.getElem?_cons_succ, List.getElem?_cons_zero]; rfl) ?_
              go_wp2_with fail
              refine ⟨(BC.out _), ?_⟩
              repeat (refine HT.pure (by simp only [List.getElem?_toArray, List.getElem?_cons_succ, List.getElem?_cons_zero]; rfl) (fun K hK => ?_); first | (apply held_yes; (focus rfl); (focus (intro w' hw; obtain ⟨hc', hf'⟩ := below_cells hw; go_simp; rfl)); (go_simp; refine hK _ ?_; clear hK K)) | (refine ite_no (by decide) ?_; go_simp; refine hK _ ?_; clear hK K))
              refine HT.mark (by simp only [List.getElem?_toArray, List.getElem?_cons_succ, List.getElem?_cons_zero]; rfl) ?_
              go_wp2_with fail
              refine ⟨(BC.out _), ?_⟩
              repeat (refine HT.pure (by simp only [List.getElem?_toArray, List.getElem?_cons_succ, List.getElem?_cons_zero]; rfl) (fun K hK => ?_); first | (apply held_yes; (focus rfl); (focus (intro w' hw; obtain ⟨hc', hf'⟩ := below_cells hw; go_simp; rfl)); (go_simp; refine hK _ ?_; clear hK K)) | (refine ite_no (by decide) ?_; go_simp; refine hK _ ?_; clear hK K))
              refine HT.fin ?_
              have B5 := BC.out (.cells #[.pointer ab, .slice Ab Sb.length Sb.length] 32)
              have L6 := L5.out
              have L7 := LQ.out
              obtain ⟨qq, hq⟩ : ∃ q, q = wb.heap.size := ⟨_, rfl⟩
              rw [← hq] at L6 L7 ⊢
              exact ⟨rfl, qq, ab, Ab, Sb, rfl, L6, B5, ⟨rfl, rfl, rfl, rfl⟩, L7⟩
            · go_wp2_with fail
              refine ⟨(BE.out _), ?_⟩
              repeat (refine HT.pure (by simp only [List.getElem?_toArray, List.getElem?_cons_succ, List.getElem?_cons_zero]; rfl) (fun K hK => ?_); first | (apply held_yes; (focus rfl); (focus (intro w' hw; obtain ⟨hc', hf'⟩ := below_cells hw; go_simp; rfl)); (go_simp; refine hK _ ?_; clear hK K)) | (refine ite_no (by decide) ?_; go_simp; refine hK _ ?_; clear hK K))
              refine HT.mark (by simp only [List.getElem?_toArray, List.getElem?_cons_succ, List.getElem?_cons_zero]; rfl) ?_
              go_wp2_with fail
              refine (tl3 _ _ _ _ ((La.out.below (BE.out _)).get (.head _)).ix).mono ?_
              rintro e wb ⟨ab, Ab, Sb, rfl, p, hb⟩
              have BB : Hid (Below wa.heap.size wa wb) := (BE.out _).trans (hb.mono (BE.out _).size)
              have LV := La.out.cons (Ix.new _)
              have L6 := Lib.hid ((LV.drawn (w' := (wa.alloc (.cells #[.pointer none, .slice none 0 0] 32)).drew) ⟨1, rfl⟩).below hb)
              obtain ⟨y1, y2, y3, y4, l1⟩ := L6.out.get0 (.head _)
              have BC : Hid (∀ v v', Below wa.heap.size wa ((wb.setCell ⟨wa.heap.size, 0, none⟩ v).setCell ⟨wa.heap.size, 1, none⟩ v')) := fun v v' => (BB.out.setCell (p := ⟨wa.heap.size, 0, none⟩) (Nat.le_refl _) v).setCell (p := ⟨wa.heap.size, 1, none⟩) (Nat.le_refl _) v'
              have L7 := Lib.hid (L6.out.put (.head _) p [(bx, a, A, S, tR1)] (fun x hx => by
                rw [List.mem_singleton.1 hx]
                exact ⟨.tail _ (.head _), by show bx ≠ _; omega⟩))
              clear hb p LV
              go_wp2_with fail
              refine ⟨BB.out, ?_⟩
              repeat (refine HT.pure (by simp only [List.getElem?_toArray, List.getElem?_cons_succ, List.getElem?_cons_zero]; rfl) (fun K hK => ?_); first | (apply held_yes; (focus rfl); (focus (intro w' hw; obtain ⟨hc', hf'⟩ := below_cells hw; go_simp; rfl)); (go_simp; refine hK _ ?_; clear hK K)) | (refine ite_no (by decide) ?_; go_simp; refine hK _ ?_; clear hK K))
              refine HT.mark (by simp only [List.getElem?_toArray, List.getElem?_cons_succ, List.getElem?_cons_zero]; rfl) ?_
              go_wp2_with fail
              refine ⟨(BC.out _ _), ?_⟩
              repeat (refine HT.pure (by simp only [List.getElem?_toArray, List.getElem?_cons_succ, List.getElem?_cons_zero]; rfl) (fun K hK => ?_); first | (apply held_yes; (focus rfl); (focus (intro w' hw; obtain ⟨hc', hf'⟩ := below_cells hw; go_simp; rfl)); (go_simp; refine hK _ ?_; clear hK K)) | (refine ite_no (by decide) ?_; go_simp; refine hK _ ?_; clear hK K))
              refine HT.fin ?_
              exact ⟨rfl, wa.heap.size, ab, Ab, Sb, rfl, L7.out, BC.out _ _, ⟨rfl, rfl, rfl, rfl⟩, by omega⟩
          case h2 =>
            rintro q a' A' S' y ⟨L, HB, _, hqx⟩
            have L4 := Lib.hid L
            have Ty := Lib.hid (Ta.out.of_block (HB.block _ Ta.out.lt))
            have Ry := Lib.hid (Ra.out.below HB)
            have By := Lib.hid (GapU.Buf.below Ba.out HB)
            clear L HB x1 x2 x3 x4 lx t1 t3 lt Ta Ra Ba D1 BE La
            obtain ⟨x1, x2, x3, x4, xi, lx⟩ := L4.out.get (.head _)
            obtain ⟨z1, z2, z3, z4, _, lz⟩ := L4.out.get (.tail _ (.head _))
            have L5 := Lib.hid (L4.out.put1 (.tail _ (.head _)) xi)
            have hp1 : pm ≠ bx := by have := EPM.out; have := VL.out; omega
            have hp2 : g ≠ bx := by have := VL.out; omega
            have hp3 : tb ≠ bx := by have := LTB.out; have := VL.out; omega
            have Tz := Lib.hid (row_past (row_past Ty.out hp3 (i := 0) (.pointer a')) hp3 (i := 1) (.slice A' S'.length S'.length))
            have Rz : Hid (KG ((y.setCell ⟨bx, 0, none⟩ (.pointer a')).setCell ⟨bx, 1, none⟩ (.slice A' S'.length S'.length)) pm g (tT 3)) := Ry.out.keep (by rw [Below.heap_setCell _ _ _ _ hp1, Below.heap_setCell _ _ _ _ hp1]) (by rw [Below.heap_setCell _ _ _ _ hp2, Below.heap_setCell _ _ _ _ hp2])
            have Bz : Hid (GapU.Buf ((y.setCell ⟨bx, 0, none⟩ (.pointer a')).setCell ⟨bx, 1, none⟩ (.slice A' S'.length S'.length)) B0 pb 3 3 keyF) := GapU.Buf.keep By.out (fun b h1 h2 => by
              rw [Below.heap_setCell _ _ _ _ (show b ≠ bx by omega), Below.heap_setCell _ _ _ _ (show b ≠ bx by omega)])
            clear Ty Ry By L4 hp1 hp2 hp3 xi hqx
            go_wp2_with fail
            go_roundw
            case rel => exact ⟨2, a', A', S', by omega, by go_num, L5, Tz, Rz, Bz⟩
            case measure => simp [intOf]
        · obtain ⟨x1, x2, x3, x4, xi, lx⟩ := L.out.get (.head _)
          have KM := Lib.hid (tl4 wr a A S xi)
          clear xi T8 K8
          go_wp2_with fail
          refine (KM.out).mono ?_
          rintro e w10 ⟨a10, A10, S10, rfl, q, hb⟩
          have L10 := Lib.hid ((L.out.below hb).cons q)
          have B10 := Lib.hid (GapU.Buf.below (GapU.Buf.below B8.out hb) (ixw_b w10 a10 A10 S10.length))
          have KB := Lib.hid (GapU.move_fr _ B0 pb 3 3 keyF B10.out 0 1 2 (by omega) (by omega) (by omega))
          have OK3 : LOk (szs tR3) := q.ok
          have OK := Lib.hid OK3
          have WB : Hid (w.heap.size ≤ bx) := (L.out.vs _ (.head _)).1
          obtain ⟨yq, eyq⟩ : ∃ b, b = w10.heap.size := ⟨_, rfl⟩
          have L10' : Hid (LX w (ixw w10 a10 A10 S10.length) [(yq, a10, A10, S10, tR3), (bx, a, A, S, tR2)] []) := by rw [eyq]; exact L10.out
          have EYQ := Lib.hid eyq
          clear hb q L B8 KM x1 x2 x3 x4 lx L10 OK3 eyq
          go_wp2_with fail
          rw [← EYQ.out]
          refine (KB.out).mono ?_
          rintro e w11 ⟨rfl, k1, gb, k2, k3, k4, ⟨f1, k5⟩, mm, f2, k6⟩
          have Y11 : Hid (YV w11 yq a10 A10 S10.length (szs tR3)) := by
            obtain ⟨_, v1, v2⟩ := L10'.out.vs _ (.head _)
            refine ⟨World.rowIs.of_block v1 (k2.block yq (World.rowIs.lt v1) (fun h => ?_)), rp_frS v2.rp k2 (fun b f hr h => ?_)⟩
            · rcases h with h | h
              · exact rows_ne v1 k5 (by decide) h
              · exact rows_ne v1 k6 (by decide) h
            · rcases h with h | h
              · exact rows_ne hr k5 (by decide) h
              · exact rows_ne hr k6 (by decide) h
          have BU11 := Lib.hid k1
          have D11 : Hid (Below w.heap.size w w11) := L10'.out.bl.trans (k2.below L10'.out.bl.size (fun b h => by have := WB.out; omega))
          clear k1 k2 k3 k4 k5 k6 KB L10' B10
          have KR := Lib.hid (moved_ok w11 3 0 1 2 (by omega) (by omega) (by omega))
          go_wp2_with fail
          refine (KR.out).mono ?_
          rintro e w12 ⟨A12, rfl, hs, hb⟩
          have Y12 := Lib.hid ((Y11.out.below hb).below ((Below.refl _ w12).alloc (Nat.le_refl _) (.cells #[.int .i64 3, .slice A12 3 3] 64)))
          have BU12 := Lib.hid (GapU.Buf.below (GapU.Buf.below BU11.out hb) ((Below.refl _ w12).alloc (Nat.le_refl _) (.cells #[.int .i64 3, .slice A12 3 3] 64)))
          have D12 : Hid (Below w.heap.size w (w12.alloc (.cells #[.int .i64 3, .slice A12 3 3] 64))) := (D11.out.trans (hb.mono D11.out.size)).alloc (by have := D11.out.size; have := hb.size; omega) _
          have SR12 : Hid (Sees (w12.alloc (.cells #[.int .i64 3, .slice A12 3 3] 64)) (w12.heap.size) A12 3 (i64s fun i => movF 0 1 2 i)) := hs.below ((Below.refl _ w12).alloc (Nat.le_refl _) _)
          have RR12 := Lib.hid (rm_new w12 3 A12 3)
          clear hb hs KR D11 BU11 Y11
          obtain ⟨rq, erq⟩ : ∃ b, b = w12.heap.size := ⟨_, rfl⟩
          have ERQ := Lib.hid erq
          obtain ⟨y1, y2, y3, y4, ly⟩ := Y12.out.cells
          go_wp2_with fail
          generalize w12.alloc (.cells #[.int .i64 3, .slice A12 3 3] 64) = w13 at Y12 BU12 D12 SR12 RR12 y1 y2 y3 y4 ly ⊢
          rw [← erq] at SR12 RR12 ⊢
          clear erq
          refine (iat_ok w13 a10 A10 S10.length tR3 Y12.out.rp OK.out 15 2 1 (by unfold Place; decide) (by decide) (by decide)).mono ?_
          rintro e w14 ⟨rfl, hb⟩
          have Y14 := Lib.hid (Y12.out.below hb)
          have BU14 := Lib.hid (GapU.Buf.below BU12.out hb)
          have D14 : Hid (Below w.heap.size w w14) := D12.out.trans (hb.mono D12.out.size)
          have RR14 := Lib.hid (RR12.out.of_block (hb.block _ RR12.out.lt))
          have SR14 := Lib.hid ((SR12.out.below (hb.mono (by have := RR12.out.lt; omega))))
          clear hb Y12 BU12 D12 SR12 RR12 y1 y2 y3 y4 ly
          obtain ⟨y1, y2, y3, y4, ly⟩ := Y14.out.cells
          go_wp2_with fail
          refine (rtotal_any w14 a10 (szs tR3) Y14.out.rp).mono ?_
          rintro e w15 ⟨rfl, hb⟩
          rw [show (szs tR3).sum = 17 by decide]
          have Y15 := Lib.hid (Y14.out.below hb)
          have BU15 := Lib.hid (GapU.Buf.below BU14.out hb)
          have D15 : Hid (Below w.heap.size w w15) := D14.out.trans (hb.mono D14.out.size)
          have RR15 := Lib.hid (RR14.out.of_block (hb.block _ RR14.out.lt))
          have SR15 := Lib.hid ((SR14.out.below (hb.mono (by have := RR14.out.lt; omega))))
          clear hb Y14 BU14 D14 RR14 SR14 y1 y2 y3 y4 ly
          obtain ⟨m1, m2, m3, _⟩ := rm_cells RR15.out
          obtain ⟨rb, ro, rfl, _, mr⟩ := SR15.out.at_ (k := 2) (by omega)
          have em : i64s (fun i => ((movF 0 1 2 i : Nat) : Int)) 2 = .int .i64 0 := by rw [i64s_at]; exact congrArg _ (by decide)
          rw [em] at mr
          have z1 := m3 0
          have z2 := m3 1
          clear m3 em RR15 SR15
          have KA := Lib.hid (GapU.at_ok w15 B0 pb 3 3 _ BU15.out 2 (by omega))
          have ek : (GapU.ins (GapU.rem keyF 0 1) 2 1 fun j => keyF (0 + j)) 2 = 7 := by decide
          rw [ek] at KA
          clear ek
          go_wp2_with fail
          refine (KA.out).mono ?_
          rintro e w16 ⟨rfl, hd⟩
          have D16 : Hid (Below w.heap.size w w16) := D15.out.trans ((hd.below _).mono (Nat.le_refl _))
          have Y16 := Lib.hid (Y15.out.below (hd.below _))
          clear hd KA m1 m2 mr z1 z2 D15 BU15 Y15 Y16
          go_wp2_with fail
          have LT := litT w16 [10, 4, 3]
          have D17 := Lib.hid (D16.out.alloc D16.out.size (.cells #[.int .i64 10, .int .i64 4, .int .i64 3] 2))
          refine (tm6 _ _ LT).mono ?_
          rintro e w17 ⟨g17, rfl, k1, hb⟩
          have T17 := Lib.hid k1
          have D18 : Hid (Below w.heap.size w w17) := D17.out.trans (hb.mono D17.out.size)
          clear k1 hb LT D16 D17
          go_wp2_with fail
          have LT := litT w17 [10, 4, 3]
          have D19 := Lib.hid (D18.out.alloc D18.out.size (.cells #[.int .i64 10, .int .i64 4, .int .i64 3] 2))
          have T18 := Lib.hid (T17.out.of_block (((Below.refl _ w17).alloc (Nat.le_refl _) (.cells #[.int .i64 10, .int .i64 4, .int .i64 3] 2)).block _ T17.out.lt))
          refine (tm7 _ _ LT).mono ?_
          rintro e w18 ⟨a18, rfl, k1, hb⟩
          have R18 := Lib.hid k1
          have D20 : Hid (Below w.heap.size w w18) := D19.out.trans (hb.mono D19.out.size)
          have T19 := Lib.hid (T18.out.of_block (hb.block _ T18.out.lt))
          clear k1 hb LT D18 D19 T17 T18
          go_wp2_with fail
          obtain ⟨sq, esq⟩ : ∃ b, b = w18.heap.size := ⟨_, rfl⟩
          have V18 : Hid (Var (w18.alloc (.cells #[.pointer a18] 27)) sq 27 (.pointer a18)) := by rw [esq]; exact Var.mk w18 _ _
          have BV : Below w18.heap.size w18 (w18.alloc (.cells #[.pointer a18] 27)) := (Below.refl _ w18).alloc (Nat.le_refl _) _
          have D20b := Lib.hid (D20.out.trans (BV.mono D20.out.size))
          have T19b := Lib.hid (T19.out.of_block (BV.block _ T19.out.lt))
          have R19b := Lib.hid (R18.out.below BV)
          have es : (w18.alloc (.cells #[.pointer a18] 27)).heap.size = sq + 1 := by rw [World.size_alloc, esq]
          rw [← esq]
          generalize w18.alloc (.cells #[.pointer a18] 27) = wB at V18 D20b T19b R19b es ⊢
          clear BV esq D20 T19 R18
          have LT := litT wB [10, 4, 3]
          rw [es] at LT
          clear es
          have BA : Hid (Below wB.heap.size wB (wB.alloc (.cells #[.int .i64 10, .int .i64 4, .int .i64 3] 2))) := (Below.refl _ wB).alloc (Nat.le_refl _) (.cells #[.int .i64 10, .int .i64 4, .int .i64 3] 2)
          have D21 := Lib.hid (D20b.out.trans (BA.out.mono D20b.out.size))
          have T20 := Lib.hid (T19b.out.of_block (BA.out.block _ T19b.out.lt))
          have R20 := Lib.hid (R19b.out.below BA.out)
          have V20 := Lib.hid (V18.out.below BA.out)
          refine (tm8 _ _ LT).mono ?_
          rintro e w19 ⟨p19, rfl, k1, hb⟩
          have F19 := Lib.hid k1
          have D22 : Hid (Below w.heap.size w w19) := D21.out.trans (hb.mono D21.out.size)
          have T21 := Lib.hid (T20.out.of_block (hb.block _ T20.out.lt))
          have R21 := Lib.hid (R20.out.below hb)
          have V21 := Lib.hid (V20.out.below hb)
          clear k1 hb LT BA D20b D21 T19b T20 R19b R20 V18 V20
          go_wp2_with fail
          have HT19 := HTab.out.below D22.out HPos.out
          have HP19 : (-1 : Int) < w19.heap.size := by have := D22.out.size; have := HPos.out; omega
          refine (tm9 w19 HT19 HP19).mono ?_
          rintro e w20 ⟨p20, rfl, k1, k2, hb⟩
          have PB20 : Hid (w.heap.size ≤ p20) := Nat.le_trans D22.out.size k2
          clear k2
          have L20 := Lib.hid k1
          have D23 : Hid (Below w.heap.size w w20) := D22.out.trans (hb.mono D22.out.size)
          have T22 := Lib.hid (T21.out.of_block (hb.block _ T21.out.lt))
          have R22 := Lib.hid (R21.out.below hb)
          have F22 := Lib.hid ((F19.out.below hb).less (Nat.zero_le _))
          have V22 := Lib.hid (V21.out.below hb)
          clear k1 hb HT19 HP19 D22 T21 R21 F19 V21
          go_wp2_with fail
          refine (tm17 w20).mono ?_
          rintro e w21 ⟨A21, rfl, k1, hb⟩
          have P21 := Lib.hid k1
          have D24 : Hid (Below w.heap.size w w21) := D23.out.trans (hb.mono D23.out.size)
          have T23 := Lib.hid (T22.out.of_block (hb.block _ T22.out.lt))
          have R23 := Lib.hid (R22.out.below hb)
          have F23 := Lib.hid (F22.out.below hb)
          have V23 := Lib.hid (V22.out.below hb)
          have L23 := Lib.hid (L20.out.below hb)
          clear k1 hb D23 T22 R22 F22 V22 L20
          go_wp2_with fail
          refine (tm18 w21).mono ?_
          rintro e w22 ⟨A22, c22, rfl, k1, hb⟩
          have M22 := Lib.hid k1
          have D25 : Hid (Below w.heap.size w w22) := D24.out.trans (hb.mono D24.out.size)
          have P24 := Lib.hid ((P21.out.below hb).more hb.size)
          have T24 := Lib.hid (T23.out.of_block (hb.block _ T23.out.lt))
          have R24 := Lib.hid (R23.out.below hb)
          have F24 := Lib.hid (F23.out.below hb)
          have V24 := Lib.hid (V23.out.below hb)
          have L24 := Lib.hid (L23.out.below hb)
          clear k1 hb D24 T23 R23 F23 V23 L23 P21
          have t3 := T24.out.cell (i := 3) (by omega)
          rw [show i64s (psum (lf tL3)) 3 = .int .i64 17 by rw [i64s_at]; exact congrArg _ (by decide)] at t3
          have v0 := V24.out.c
          have v1 := V24.out.f
          clear T24
          go_wp2_with fail
          refine (tm15 w22 a18 R24.out).mono ?_
          rintro e w23 ⟨rfl, hb⟩
          have M23 := Lib.hid ((M22.out.below hb).more hb.size)
          have D26 : Hid (Below w.heap.size w w23) := D25.out.trans (hb.mono D25.out.size)
          have P25 := Lib.hid ((P24.out.below hb).more hb.size)
          have F25 := Lib.hid (F24.out.below hb)
          have L25 := Lib.hid (L24.out.below hb)
          clear hb M22 D25 P24 F24 L24 R24 V24 t3 v0 v1
          go_wp2_with fail
          refine (tm16 w23 _ p19 F25.out).mono ?_
          rintro e w24 ⟨rfl, rfl⟩
          clear F25
          go_wp2_with fail
          refine (tm12 w23 p20 L25.out).mono ?_
          rintro e w25 ⟨rfl, k1, k2⟩
          have hq : w.heap.size ≤ p20 := PB20.out
          have M24 := Lib.hid (sees_past M23.out L25.out (Nat.le_refl _) k2 0 (by omega) 7 rfl (by decide) (by decide))
          have P26 : Hid (SeesP w25 w25.heap.size A21 [(1, 3)]) := sees_past P25.out L25.out (Nat.le_refl _) k2 0 (by decide) 1 rfl (by decide) (by decide)
          have D27 : Hid (Below w.heap.size w w25) := D26.out.trans (k2.below D26.out.size (fun b h => by omega))
          have L26 := Lib.hid k1
          clear hq k1 k2 M23 P25 D26 L25
          go_wp2_with fail
          refine (tm13 w25 p20 L26.out).mono ?_
          rintro e w26 ⟨rfl, rfl⟩
          clear L26
          go_wp2_with fail
          refine (tm14 w25 A21 P26.out).mono ?_
          rintro e w27 ⟨rfl, hb⟩
          have D28 : Hid (Below w.heap.size w w27) := D27.out.trans (hb.mono D27.out.size)
          have M25 := Lib.hid ((M24.out.below hb).more hb.size)
          clear hb M24 P26 D27
          obtain ⟨mb, mo, rfl, _, mc⟩ := M25.out.at_ (k := 0) (by omega)
          rw [show spf [(7, -1)] 0 = .int .i64 7 from rfl, Nat.add_zero] at mc
          clear M25
          go_wp2_with fail
          go_ret
          exact ⟨rfl, D28.out⟩
end Go.Proofs.YtfmfmeiaekknbaaGreat
end

section
/-
  Contracts of package fenwicks, fourth: the length in bits, Find.
-/
namespace Go.Proofs.YtfmfmeiaekknbaaGreat
open Go.RowKit
set_option linter.unusedVariables false

/-- Where the descent stands. -/
def At (l : Nat → Int) (x : Int) (n s c : Nat) : Prop := ∃ t a, s = 2 ^ t / 2 ∧ c = a * 2 ^ t ∧ psum l c ≤ x ∧ ∀ m, c + 2 ^ t ≤ m → m ≤ n → x < psum l m
theorem At.start {l : Nat → Int} {x : Int} {n T : Nat} (h0 : 0 ≤ x) (hT : n < 2 ^ T) : At l x n (2 ^ T) 0 :=
  ⟨T + 1, 0, by rw [Nat.pow_succ]; omega, by omega, h0, fun m h1 h2 => by rw [Nat.pow_succ] at h1; omega⟩
theorem At.stop {l : Nat → Int} {x : Int} {n c i : Nat} (h : At l x n 0 c) (ok : Sizes l n) (hc : c ≤ n) (hi : i < n) (h1 : psum l i ≤ x) (h2 : x < psum l (i + 1)) : c = i := by
  obtain ⟨t, a, e1, e2, e3, e4⟩ := h
  have ht : t = 0 := by
    rcases t with _ | t
    · rfl
    · rw [Nat.pow_succ] at e1; have := Nat.two_pow_pos t; omega
  subst ht
  rcases Nat.lt_trichotomy c i with h | h | h
  · have := e4 (c + 1) (by omega) (by omega)
    have := ok.mono (a := c + 1) (b := i) (by omega) (by omega)
    omega
  · exact h
  · have := ok.mono (a := i + 1) (b := c) (by omega) hc
    omega
theorem At.clr {l : Nat → Int} {x : Int} {n s c : Nat} (h : At l x n s c) (hs : 0 < s) : clr (c + s) = c := by
  obtain ⟨t, a, e1, e2, e3, e4⟩ := h
  rcases t with _ | t
  · simp at e1; omega
  · have : s = 2 ^ t := by rw [e1, Nat.pow_succ]; omega
    rw [this, e2]; exact clr_step t a
theorem At.left {l : Nat → Int} {x : Int} {n s c : Nat} (h : At l x n s c) (hs : 0 < s) (hk : ∀ m, c + s ≤ m → m ≤ n → x < psum l m) : At l x n (s / 2) c := by
  obtain ⟨t, a, e1, e2, e3, e4⟩ := h
  rcases t with _ | t
  · simp at e1; omega
  · have e : s = 2 ^ t := by rw [e1, Nat.pow_succ]; omega
    exact ⟨t, 2 * a, by rw [e], by rw [e2, Nat.pow_succ, Nat.mul_comm (2 ^ t) 2, ← Nat.mul_assoc, Nat.mul_comm a 2], e3, fun m h1 h2 => hk m (by omega) h2⟩
theorem At.right {l : Nat → Int} {x : Int} {n s c : Nat} (h : At l x n s c) (hs : 0 < s) (hk : psum l (c + s) ≤ x) : At l x n (s / 2) (c + s) := by
  obtain ⟨t, a, e1, e2, e3, e4⟩ := h
  rcases t with _ | t
  · simp at e1; omega
  · have e : s = 2 ^ t := by rw [e1, Nat.pow_succ]; omega
    refine ⟨t, 2 * a + 1, by rw [e], ?_, hk, fun m h1 h2 => e4 m (by rw [Nat.pow_succ]; omega) h2⟩
    rw [e, e2, Nat.pow_succ, Nat.add_mul, Nat.mul_comm (2 ^ t) 2, ← Nat.mul_assoc, Nat.mul_comm a 2, Nat.one_mul]

end Go.Proofs.YtfmfmeiaekknbaaGreat
end

section
/-
  R.Of of the law package: the sizes of R.
-/
namespace Go.Proofs.YtfmfmeiaekknbaaGreat
open Go.RowKit
set_option linter.unusedVariables false
set_option linter.unusedSimpArgs false

theorem infoOf : (Tryz.prog.info? 2).map (fun i => (i.zero, i.size, i.bytes)) = some (some (.int .i64 0), 1, 8) := by kernel_rfl
/-- append(own, v). -/
theorem push_i64 (w : World) (B : Nat) {n c : Nat} {A : Option Addr} {F : Nat → Int} (h : Own w B 2 1 n c A (i64s F)) (hB : B ≤ w.heap.size) (x : Int) (hm : n ≤ 100000) :
    ∃ A' c' w', (∀ ty, (Builtin.append_ #[34, 34] ty #[.slice A n c, .slice (some ⟨w.heap.size, 0, none⟩) 1 1]).run Tryz.prog (w.alloc (.cells #[.int .i64 x] 2)) = .ok (.slice A' (n + 1) c') w') ∧ Own w' B 2 1 (n + 1) c' A' (i64s fun j => if j < n then F j else x) ∧
      Fr (fun b => A.map (·.block) = some b) w w' ∧ (c ≤ maxLen → c' ≤ maxLen) := by
  obtain ⟨A', c', w', run, O, f, a, m⟩ := own_push (P := Tryz.prog) w B Tryz.underlying34 infoOf rfl h hB (.int .i64 x) rfl (by omega) (by omega)
  refine ⟨A', c', w', run, O.congr fun j _ => ?_, f, m⟩
  show (if j < n then _ else _) = Value.int .i64 (if j < n then F j else x)
  split <;> rfl

end Go.Proofs.YtfmfmeiaekknbaaGreat
end

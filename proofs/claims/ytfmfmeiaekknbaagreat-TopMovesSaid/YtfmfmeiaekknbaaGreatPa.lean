/-
  Contracts and plain laws that the walks of the top need, merged by a program out of one text a subject.
-/
import Derived.WalkKit
import Derived.WalkSpells
import Derived.WalkLawsBesides
import Derived.Lib.MinMax
import Derived.Lib.Hide
import Derived.Deep.OwnRows
import Derived.Deep.Draws
import Derived.Laws.Entries
import Derived.Laws.CopyOwn
import Derived.OwnWalk
import Derived.Deep.Upon
import Derived.Deep.QuietTactic
import Derived.Lib.AppendZeros
import Derived.Laws.Slices
import Derived.Test.YtfmfmeiaekknbaaGreatRows
import Derived.LoopTactic
import Derived.Outline
import Derived.BigQuiet
import Derived.IntWalk
import Derived.WalkMore
import Derived.Scope
import Derived.OrdersHeld
import Derived.StillTactics
section
/-
  Words for memory: a slice that came in and is seen as a function of the index; a row of the call's own ('World.rowIs'); sums of sizes. Plain lemmas, no Go text.
-/
namespace Go.Proofs.YtfmfmeiaekknbaaGreat
open Go.RowKit

theorem ret_int {k : IntKind} {a b : Int} (h : a = b) : Ending.returned (.int k a) = .returned (.int k b) := by rw [h]
theorem ret_bool {a b : Bool} (h : a = b) : Ending.returned (.bool a) = .returned (.bool b) := by rw [h]
/-- The slice value '.slice A n _' shows the n values f 0, f 1, .. in world w; its memory lies below block B. -/
def Sees (w : World) (B : Nat) (A : Option Addr) (n : Nat) (f : Nat → Value) : Prop :=
  0 < n → ∃ b o, A = some ⟨b, o, none⟩ ∧ b < B ∧ ∀ j, j < n → w.cell? ⟨b, o + j, none⟩ = some (f j)

theorem Sees.at_ {w : World} {B n : Nat} {A : Option Addr} {f : Nat → Value} (h : Sees w B A n f) {k : Nat} (hk : k < n) :
    ∃ b o, A = some ⟨b, o, none⟩ ∧ b < B ∧ w.cell? ⟨b, o + k, none⟩ = some (f k) := by
  obtain ⟨b, o, e, hb, hc⟩ := h (by omega)
  exact ⟨b, o, e, hb, hc k hk⟩
theorem Sees.below {w w' : World} {B n : Nat} {A : Option Addr} {f : Nat → Value} (h : Sees w B A n f) (hb : Below B w w') : Sees w' B A n f := by
  intro hn
  obtain ⟨b, o, e, hbB, hc⟩ := h hn
  exact ⟨b, o, e, hbB, fun j hj => (hb.cell (p := ⟨b, o + j, none⟩) hbB).trans (hc j hj)⟩
theorem Sees.more {w : World} {B B' n : Nat} {A : Option Addr} {f : Nat → Value} (h : Sees w B A n f) (hB : B ≤ B') : Sees w B' A n f := by
  intro hn
  obtain ⟨b, o, e, hbB, hc⟩ := h hn
  exact ⟨b, o, e, by omega, hc⟩
theorem Sees.congr {w : World} {B n : Nat} {A : Option Addr} {f g : Nat → Value} (h : Sees w B A n f) (e : ∀ j, j < n → f j = g j) : Sees w B A n g := by
  intro hn
  obtain ⟨b, o, ea, hbB, hc⟩ := h hn
  exact ⟨b, o, ea, hbB, fun j hj => by rw [hc j hj, e j hj]⟩
theorem Sees.nil {w : World} {B : Nat} {A : Option Addr} {f : Nat → Value} : Sees w B A 0 f := fun h => absurd h (by omega)
/-- A row of the call's own is seen, too. -/
theorem Sees.row {w : World} {g : Nat} {t : TypeId} {n m : Nat} {f : Nat → Value} (h : w.rowIs g t m f) (hn : n ≤ m) : Sees w w.heap.size (some ⟨g, 0, none⟩) n f := by
  intro _
  exact ⟨g, 0, rfl, h.lt, fun j hj => by rw [Nat.zero_add]; exact h.cell (by omega)⟩

/-- A literal is seen. -/
theorem Sees.lit (w : World) (cs : Array Value) (t : TypeId) (f : Nat → Value) (n : Nat) (hn : cs.size = n) (hc : ∀ j, j < n → cs[j]? = some (f j)) :
    Sees (w.alloc (.cells cs t)) (w.alloc (.cells cs t)).heap.size (some ⟨w.heap.size, 0, none⟩) n f := by
  subst hn
  exact Sees.row (World.rowIs_alloc w cs t f hc) (Nat.le_refl _)

theorem below_cells {W w1 : World} {B : Nat} (hb : Below B W w1) : (∀ b o, b < B → w1.cell? ⟨b, o, none⟩ = W.cell? ⟨b, o, none⟩) ∧ (∀ b o, b < B → w1.frozen? ⟨b, o, none⟩ = W.frozen? ⟨b, o, none⟩) :=
  ⟨fun b o h => hb.cell (p := ⟨b, o, none⟩) h, fun b o h => hb.frozen (p := ⟨b, o, none⟩) h⟩

/-- Only the count of answers drawn has moved. -/
def Drawn (w w' : World) : Prop := ∃ q, w' = w.drewN q
theorem Drawn.refl (w : World) : Drawn w w := ⟨0, rfl⟩
theorem Drawn.drewN {w w' : World} (h : Drawn w w') (n : Nat) : Drawn w (w'.drewN n) := by
  obtain ⟨q, rfl⟩ := h
  exact ⟨q + n, World.drewN_drewN ..⟩
theorem Drawn.below {w w' : World} (h : Drawn w w') (B : Nat) : Below B w w' := by
  obtain ⟨q, rfl⟩ := h
  exact Go.below_drewN (Below.refl _ _) q
theorem Drawn.size {w w' : World} (h : Drawn w w') : w'.heap.size = w.heap.size := by obtain ⟨q, rfl⟩ := h; rfl
theorem Drawn.cell {w w' : World} (h : Drawn w w') (a : Addr) : w'.cell? a = w.cell? a := by obtain ⟨q, rfl⟩ := h; rfl
theorem Sees.drawn {w w' : World} {B n : Nat} {A : Option Addr} {f : Nat → Value} (h : Sees w B A n f) (hd : Drawn w w') : Sees w' B A n f := by obtain ⟨q, rfl⟩ := hd; exact h
theorem run_store_complex' (P : Program) (w : World) (a : Addr) (m : Mode) (k : FloatKind) (x y : Nat) : (store a (.complex k x y) m).run P w = stored P w a (.complex k x y) m := run_store P w a _ m rfl

/-- Integers as values. -/
def i64s (l : Nat → Int) : Nat → Value := fun j => .int .i64 (l j)
theorem i64s_at (l : Nat → Int) (k : Nat) : i64s l k = .int .i64 (l k) := rfl

/-- A number that fits int64. -/
def Fits (x : Int) : Prop := -9223372036854775808 ≤ x ∧ x ≤ 9223372036854775807

/-- The sum of the first sizes. -/
def psum (l : Nat → Int) : Nat → Int
  | 0 => 0
  | k + 1 => psum l k + l k
theorem psum_succ (l : Nat → Int) (k : Nat) : psum l (k + 1) = psum l k + l k := rfl

/-- The error of the first k sizes: 0; 12: one is out of its range; 13: the sum is too great. -/
def chkTo (l : Nat → Int) : Nat → Int
  | 0 => 0
  | k + 1 => if chkTo l k = 0 then (if l k < 0 ∨ 2305843009213693952 < l k then 12 else if 4611686018427387904 - psum l k < l k then 13 else 0) else chkTo l k
/-- The error of n sizes. -/
def chk (l : Nat → Int) (n : Nat) : Int := if 4096 < n then 3 else chkTo l n

theorem chkTo_stays (l : Nat → Int) {k : Nat} (h : chkTo l k ≠ 0) : ∀ {m}, k ≤ m → chkTo l m = chkTo l k := by
  intro m hm
  induction m with
  | zero => rw [show k = 0 from by omega]
  | succ m ih =>
    by_cases e : k = m + 1
    · rw [e]
    · have := ih (by omega)
      rw [← this] at h ⊢
      show (if chkTo l m = 0 then _ else chkTo l m) = _
      rw [if_neg h]
theorem chkTo_zero (l : Nat → Int) {k m : Nat} (h : chkTo l m = 0) (hk : k ≤ m) : chkTo l k = 0 := by
  rcases Decidable.em (chkTo l k = 0) with e | e
  · exact e
  · rw [chkTo_stays l e hk] at h; exact absurd h e
/-- What a valid size is. -/
theorem chkTo_step (l : Nat → Int) {k : Nat} (h : chkTo l (k + 1) = 0) : chkTo l k = 0 ∧ 0 ≤ l k ∧ l k ≤ 2305843009213693952 ∧ psum l k + l k ≤ 4611686018427387904 := by
  have h0 := chkTo_zero l h (Nat.le_succ k)
  unfold chkTo at h
  rw [if_pos h0] at h
  by_cases a : l k < 0 ∨ 2305843009213693952 < l k
  · rw [if_pos a] at h; exact absurd h (by decide)
  · rw [if_neg a] at h
    by_cases b : 4611686018427387904 - psum l k < l k
    · rw [if_pos b] at h; exact absurd h (by decide)
    · exact ⟨h0, by omega, by omega, by omega⟩
theorem psum_bd (l : Nat → Int) {k : Nat} (h : chkTo l k = 0) : 0 ≤ psum l k ∧ psum l k ≤ 4611686018427387904 := by
  induction k with
  | zero => exact ⟨Int.le_refl _, by show (0 : Int) ≤ _; omega⟩
  | succ k ih =>
    obtain ⟨h0, h1, h2, h3⟩ := chkTo_step l h
    have := ih h0
    rw [psum_succ]
    omega
theorem chkTo_12 (l : Nat → Int) {k : Nat} (h : chkTo l k = 0) (hb : l k < 0 ∨ 2305843009213693952 < l k) : chkTo l (k + 1) = 12 := by
  unfold chkTo; rw [if_pos h, if_pos hb]
theorem chkTo_13 (l : Nat → Int) {k : Nat} (h : chkTo l k = 0) (h1 : 0 ≤ l k) (h2 : l k ≤ 2305843009213693952) (hb : 4611686018427387904 - psum l k < l k) : chkTo l (k + 1) = 13 := by
  unfold chkTo; rw [if_pos h, if_neg (by omega), if_pos hb]
theorem chkTo_0 (l : Nat → Int) {k : Nat} (h : chkTo l k = 0) (h1 : 0 ≤ l k) (h2 : l k ≤ 2305843009213693952) (hb : l k ≤ 4611686018427387904 - psum l k) : chkTo l (k + 1) = 0 := by
  unfold chkTo; rw [if_pos h, if_neg (by omega), if_neg (by omega)]
end Go.Proofs.YtfmfmeiaekknbaaGreat
end

section
/-
  Spans, plain: lists of pairs in their normal form; the places in them; two of them with the same places are equal. No Go text.
-/
namespace Go.Proofs.YtfmfmeiaekknbaaGreat
set_option linter.unusedVariables false

abbrev Sp := List (Int × Int)
/-- The normal form, behind a number. -/
def NFfrom : Int → Sp → Prop
  | _, [] => True
  | lo, s :: r => lo < s.1 ∧ s.1 < s.2 ∧ s.2 ≤ 1073741824 ∧ NFfrom s.2 r
def NF (L : Sp) : Prop := NFfrom (-1) L
/-- The end of the last span. -/
def endS : Int → Sp → Int
  | lo, [] => lo
  | _, s :: r => endS s.2 r
/-- A place is in one of the spans. -/
def memS (L : Sp) (i : Int) : Prop := ∃ s ∈ L, s.1 ≤ i ∧ i < s.2
theorem memS_nil (i : Int) : ¬ memS [] i := fun ⟨s, h, _⟩ => nomatch h
theorem memS_cons (s : Int × Int) (r : Sp) (i : Int) : memS (s :: r) i ↔ (s.1 ≤ i ∧ i < s.2) ∨ memS r i := by
  constructor
  · rintro ⟨x, hx, h⟩
    rcases List.mem_cons.1 hx with rfl | hx
    · exact .inl h
    · exact .inr ⟨x, hx, h⟩
  · rintro (h | ⟨x, hx, h⟩)
    · exact ⟨s, List.mem_cons_self, h⟩
    · exact ⟨x, List.mem_cons_of_mem _ hx, h⟩
theorem memS_append (A B : Sp) (i : Int) : memS (A ++ B) i ↔ memS A i ∨ memS B i := by
  induction A with
  | nil => simp [memS_nil]
  | cons s r ih => rw [List.cons_append, memS_cons, memS_cons, ih, or_assoc]
theorem NFfrom.append {lo : Int} {A B : Sp} : NFfrom lo (A ++ B) ↔ NFfrom lo A ∧ NFfrom (endS lo A) B := by
  induction A generalizing lo with
  | nil => simp [NFfrom, endS]
  | cons s r ih =>
    show (_ ∧ _ ∧ _ ∧ NFfrom s.2 (r ++ B)) ↔ (_ ∧ _ ∧ _ ∧ NFfrom s.2 r) ∧ NFfrom (endS s.2 r) B
    rw [ih]
    constructor
    · rintro ⟨h1, h2, h3, h4, h5⟩; exact ⟨⟨h1, h2, h3, h4⟩, h5⟩
    · rintro ⟨⟨h1, h2, h3, h4⟩, h5⟩; exact ⟨h1, h2, h3, h4, h5⟩
theorem endS_append (lo : Int) (A B : Sp) : endS lo (A ++ B) = endS (endS lo A) B := by
  induction A generalizing lo with
  | nil => rfl
  | cons s r ih => exact ih s.2
theorem NFfrom.mono {lo lo' : Int} {L : Sp} (h : NFfrom lo L) (hl : lo' ≤ lo) : NFfrom lo' L := by
  cases L with
  | nil => trivial
  | cons s r => obtain ⟨h1, h2, h3, h4⟩ := h; exact ⟨by omega, h2, h3, h4⟩
theorem NFfrom.le_end {lo : Int} {L : Sp} (h : NFfrom lo L) : lo + 2 * L.length ≤ endS lo L := by
  induction L generalizing lo with
  | nil => show lo + 2 * ((0 : Nat) : Int) ≤ lo; omega
  | cons s r ih =>
    obtain ⟨h1, h2, h3, h4⟩ := h
    have := ih h4
    show _ ≤ endS s.2 r
    rw [List.length_cons]
    omega
theorem NFfrom.end_le {lo : Int} {L : Sp} (h : NFfrom lo L) (hl : lo ≤ 1073741824) : endS lo L ≤ 1073741824 := by
  induction L generalizing lo with
  | nil => exact hl
  | cons s r ih => obtain ⟨h1, h2, h3, h4⟩ := h; exact ih h4 h3
theorem NF.len {L : Sp} (h : NF L) : L.length ≤ 536870912 := by
  have h1 := NFfrom.le_end h
  have h2 := NFfrom.end_le h (by omega)
  omega
theorem NFfrom.mem {lo : Int} {L : Sp} (h : NFfrom lo L) : ∀ s ∈ L, lo < s.1 ∧ s.1 < s.2 ∧ s.2 ≤ endS lo L ∧ s.2 ≤ 1073741824 := by
  induction L generalizing lo with
  | nil => intro s hs; cases hs
  | cons x r ih =>
    obtain ⟨h1, h2, h3, h4⟩ := h
    intro s hs
    have he := h4.le_end
    rcases List.mem_cons.1 hs with rfl | hs
    · exact ⟨h1, h2, by show s.2 ≤ endS s.2 r; omega, h3⟩
    · obtain ⟨q1, q2, q3, q4⟩ := ih h4 s hs
      exact ⟨by omega, q2, q3, q4⟩
theorem NFfrom.mem_gt {lo : Int} {L : Sp} (h : NFfrom lo L) {i : Int} (hi : memS L i) : lo < i ∧ i < endS lo L := by
  obtain ⟨s, hs, h1, h2⟩ := hi
  obtain ⟨q1, q2, q3, q4⟩ := h.mem s hs
  omega
/-- Two normal forms with the same places are equal. -/
theorem NFfrom.unique : ∀ {L M : Sp} {lo lo' : Int}, NFfrom lo L → NFfrom lo' M → (∀ i, memS L i ↔ memS M i) → L = M
  | [], [], _, _, _, _, _ => rfl
  | [], m :: M, _, _, _, hM, h => absurd ((h m.1).2 ((memS_cons m M m.1).2 (.inl ⟨Int.le_refl _, hM.2.1⟩))) (memS_nil _)
  | s :: L, [], _, _, hL, _, h => absurd ((h s.1).1 ((memS_cons s L s.1).2 (.inl ⟨Int.le_refl _, hL.2.1⟩))) (memS_nil _)
  | s :: L, m :: M, lo, lo', hL, hM, h => by
    obtain ⟨a1, a2, a3, a4⟩ := hL
    obtain ⟨b1, b2, b3, b4⟩ := hM
    have gl : ∀ i, memS L i → s.2 < i := fun i hi => (a4.mem_gt hi).1
    have gm : ∀ i, memS M i → m.2 < i := fun i hi => (b4.mem_gt hi).1
    have e1 : s.1 = m.1 := by
      have h1 := (h s.1).1 ((memS_cons _ _ _).2 (.inl ⟨Int.le_refl _, a2⟩))
      have h2 := (h m.1).2 ((memS_cons _ _ _).2 (.inl ⟨Int.le_refl _, b2⟩))
      have k1 : m.1 ≤ s.1 := by
        rcases (memS_cons _ _ _).1 h1 with q | q
        · exact q.1
        · have := gm _ q; omega
      have k2 : s.1 ≤ m.1 := by
        rcases (memS_cons _ _ _).1 h2 with q | q
        · exact q.1
        · have := gl _ q; omega
      omega
    have e2 : s.2 = m.2 := by
      rcases Int.lt_trichotomy s.2 m.2 with c | c | c
      · have := (h s.2).2 ((memS_cons _ _ _).2 (.inl ⟨by omega, c⟩))
        rcases (memS_cons _ _ _).1 this with q | q
        · omega
        · have := gl _ q; omega
      · exact c
      · have := (h m.2).1 ((memS_cons _ _ _).2 (.inl ⟨by omega, c⟩))
        rcases (memS_cons _ _ _).1 this with q | q
        · omega
        · have := gm _ q; omega
    have e : s = m := Prod.ext e1 e2
    subst e
    have : L = M := a4.unique b4 fun i => by
      constructor
      · intro hi
        rcases (memS_cons _ _ _).1 ((h i).1 ((memS_cons _ _ _).2 (.inr hi))) with q | q
        · have := gl _ hi; omega
        · exact q
      · intro hi
        rcases (memS_cons _ _ _).1 ((h i).2 ((memS_cons _ _ _).2 (.inr hi))) with q | q
        · have := gm _ hi; omega
        · exact q
    rw [this]

/-- The error of a set. -/
def ckFrom : Int → Sp → Int
  | _, [] => 0
  | lo, s :: r => if s.1 < 0 ∨ s.2 ≤ s.1 ∨ 1073741824 < s.2 then 1 else if s.1 ≤ lo then 16 else ckFrom s.2 r
def chkS (L : Sp) : Int := if 4096 < L.length then 3 else ckFrom (-1) L
theorem ckFrom_zero {lo : Int} {L : Sp} (hl : -1 ≤ lo) : ckFrom lo L = 0 ↔ NFfrom lo L := by
  induction L generalizing lo with
  | nil => simp [ckFrom, NFfrom]
  | cons s r ih =>
    show (if s.1 < 0 ∨ s.2 ≤ s.1 ∨ 1073741824 < s.2 then (1 : Int) else if s.1 ≤ lo then 16 else ckFrom s.2 r) = 0 ↔ (lo < s.1 ∧ s.1 < s.2 ∧ s.2 ≤ 1073741824 ∧ NFfrom s.2 r)
    by_cases c1 : s.1 < 0 ∨ s.2 ≤ s.1 ∨ 1073741824 < s.2
    · rw [if_pos c1]
      constructor
      · intro h; exact absurd h (by decide)
      · rintro ⟨h1, h2, h3, _⟩; omega
    · rw [if_neg c1]
      by_cases c2 : s.1 ≤ lo
      · rw [if_pos c2]
        constructor
        · intro h; exact absurd h (by decide)
        · rintro ⟨h1, _⟩; omega
      · rw [if_neg c2, ih (by omega)]
        constructor
        · intro h; exact ⟨by omega, by omega, by omega, h⟩
        · rintro ⟨_, _, _, h⟩; exact h
theorem chkS_zero {L : Sp} : chkS L = 0 ↔ NF L ∧ L.length ≤ 4096 := by
  unfold chkS
  by_cases c : 4096 < L.length
  · rw [if_pos c]
    constructor
    · intro h; exact absurd h (by decide)
    · rintro ⟨_, h⟩; omega
  · rw [if_neg c, ckFrom_zero (by omega)]
    exact ⟨fun h => ⟨h, by omega⟩, fun h => h.1⟩

/-- Places added behind others. -/
def addS (L : Sp) (f t : Int) : Sp :=
  if t ≤ f then L else match L.getLast? with
    | some s => if f ≤ s.2 then L.dropLast ++ [(s.1, max s.2 t)] else L ++ [(f, t)]
    | none => [(f, t)]
theorem addS_none {L : Sp} {f t : Int} (h : t ≤ f) : addS L f t = L := if_pos h
theorem addS_nil {f t : Int} (h : f < t) : addS [] f t = [(f, t)] := by unfold addS; rw [if_neg (by omega)]; rfl
theorem addS_snoc {P : Sp} {s : Int × Int} {f t : Int} (h : f < t) : addS (P ++ [s]) f t = if f ≤ s.2 then P ++ [(s.1, max s.2 t)] else P ++ [s] ++ [(f, t)] := by
  unfold addS
  rw [if_neg (by omega), List.getLast?_concat, List.dropLast_concat]
/-- What it gives behind a set whose spans end at f or ahead of it. -/
theorem addS_spec {L : Sp} {f t : Int} (hL : NF L) (he : endS (-1) L ≤ f) (h0 : 0 ≤ f) (hft : f < t) (ht : t ≤ 1073741824) :
    NF (addS L f t) ∧ endS (-1) (addS L f t) = t ∧ ∀ i, memS (addS L f t) i ↔ memS L i ∨ (f ≤ i ∧ i < t) := by
  rcases List.eq_nil_or_concat L with rfl | ⟨P, s, rfl⟩
  · rw [addS_nil hft]
    refine ⟨⟨by show -1 < f; omega, hft, ht, trivial⟩, rfl, fun i => ?_⟩
    rw [memS_cons]
    simp [memS_nil]
  · rw [List.concat_eq_append] at *
    rw [addS_snoc hft]
    have hN := NFfrom.append.1 hL
    obtain ⟨h1, h2, h3, _⟩ := hN.2
    rw [endS_append] at he
    have he : s.2 ≤ f := he
    by_cases c : f ≤ s.2
    · have e : s.2 = f := by omega
      rw [if_pos c, Int.max_eq_right (by omega)]
      refine ⟨NFfrom.append.2 ⟨hN.1, h1, by show s.1 < t; omega, ht, trivial⟩, by rw [endS_append]; rfl, fun i => ?_⟩
      rw [memS_append, memS_append, memS_cons, memS_cons]
      constructor
      · rintro (h | ⟨q1, q2⟩ | h)
        · exact .inl (.inl h)
        · by_cases d : i < s.2
          · exact .inl (.inr (.inl ⟨q1, d⟩))
          · exact .inr ⟨by omega, q2⟩
        · exact absurd h (memS_nil _)
      · rintro ((h | ⟨q1, q2⟩ | h) | ⟨q1, q2⟩)
        · exact .inl h
        · exact .inr (.inl ⟨q1, by show i < t; omega⟩)
        · exact absurd h (memS_nil _)
        · exact .inr (.inl ⟨by show s.1 ≤ i; omega, q2⟩)
    · rw [if_neg c]
      refine ⟨NFfrom.append.2 ⟨hL, by rw [endS_append]; show s.2 < f; omega, hft, ht, trivial⟩, by rw [endS_append]; rfl, fun i => ?_⟩
      rw [memS_append, memS_cons]
      simp [memS_nil]
end Go.Proofs.YtfmfmeiaekknbaaGreat
end

section
/-
  The built-ins copy and clear on rows that are known as functions of the index: what they leave, as one equation each. Over any program.
-/
namespace Go.Proofs.YtfmfmeiaekknbaaGreat
open Go.RowKit
set_option linter.unusedVariables false

/-- Nothing but block g (and new blocks) has turned. -/
abbrev Only (w w' : World) (g : Nat) : Prop := w.grownBy w' (some g)

theorem Only.refl (w : World) (g : Nat) : Only w w g := ⟨rfl, rfl, rfl, Nat.le_refl _, fun _ _ _ => rfl⟩
theorem Only.below {w w' : World} {g : Nat} (h : Only w w' g) {B : Nat} (hB : B ≤ g) (hs : B ≤ w.heap.size) : Below B w w' :=
  (Below.refl _ _).grown h hs (fun k hk => by injection hk with hk; omega)
theorem Only.row {w w' : World} {g g' : Nat} {t : TypeId} {n : Nat} {f : Nat → Value} (h : Only w w' g) (hr : w.rowIs g' t n f) (hne : g' ≠ g) : w'.rowIs g' t n f :=
  hr.of_block (h.block g' hr.lt (fun e => hne (by injection e)))
theorem Only.sees {w w' : World} {g B n : Nat} {A : Option Addr} {f : Nat → Value} (h : Only w w' g) (hs : Sees w B A n f) (hB : B ≤ g) (hsz : B ≤ w.heap.size) : Sees w' B A n f :=
  hs.below (h.below hB hsz)
theorem Only.cell {w w' : World} {g : Nat} (h : Only w w' g) {b : Nat} (hb : b < w.heap.size) (hne : b ≠ g) (o : Nat) : w'.cell? ⟨b, o, none⟩ = w.cell? ⟨b, o, none⟩ :=
  World.cell?_of_block (w := w) (h.block b hb (fun e => hne (by injection e)))
theorem Only.frozen {w w' : World} {g : Nat} (h : Only w w' g) {b : Nat} (hb : b < w.heap.size) (hne : b ≠ g) (o : Nat) : w'.frozen? ⟨b, o, none⟩ = w.frozen? ⟨b, o, none⟩ :=
  World.frozen?_of_block (w := w) (h.block b hb (fun e => hne (by injection e)))

theorem add_none (g o j : Nat) : (⟨g, o, none⟩ : Addr).add j = ⟨g, o + j, none⟩ := by
  unfold Addr.add
  by_cases h : j = 0
  · subst h; simp
  · simp [h]

theorem only_setRow (w : World) (g : Nat) (cs : Array Value) : Only w (w.setRow g cs) g :=
  ⟨rfl, rfl, rfl, by simp, fun b hb hne => setRow_other w g b cs (fun e => hne (by rw [e]))⟩

section
variable {P : Program}

/-- What a row holds behind a copy of k values to place off. -/
def spliced (f : Nat → Value) (off k : Nat) (cs : Nat → Value) : Nat → Value := fun j => if off ≤ j ∧ j < off + k then cs (j - off) else f j

/-- copy(row[off:], src), the source seen. -/
theorem copy_row (w : World) {dT sT elem : TypeId} (hu : P.underlying dT = some (.slice elem)) (hs : (P.info? elem).map (·.size) = some 1) {g t m : Nat} {f : Nat → Value} (hrow : w.rowIs g t m f)
    (off dLen dCap : Nat) {B : Nat} {A : Option Addr} {sLen sCap : Nat} {cs : Nat → Value} (hA : Sees w B A sLen cs) (h1 : ∀ j, (cs j).oneCell' = true) (k : Nat) (hk : k = Nat.min sLen dLen) (hfit : off + k ≤ m) :
    ∃ w', (∀ ty, (Builtin.copy_ #[dT, sT] ty #[.slice (some ⟨g, off, none⟩) dLen dCap, .slice A sLen sCap]).run P w = .ok (goInt k) w') ∧ w'.rowIs g t m (spliced f off k cs) ∧ Only w w' g := by
  by_cases h0 : k = 0
  · subst h0
    refine ⟨w, fun ty => ?_, hrow.congr (fun j _ => by unfold spliced; rw [if_neg (by omega)]), Only.refl _ _⟩
    exact run_copy_none (P := P) w dT sT ty elem _ A dLen dCap sLen sCap hu hs (by omega)
  · have hkl : k ≤ sLen := by rw [hk]; exact Nat.min_le_left _ _
    obtain ⟨b, o, rfl, hb, hc⟩ := hA (by omega)
    obtain ⟨cur, hg, hsz, hcur⟩ := hrow
    have hl : ((List.range k).map cs).length = k := by simp
    have hrun := fun ty => run_copy_row (P := P) w dT sT ty elem g off dLen dCap ⟨b, o, none⟩ sLen sCap cur t ((List.range k).map cs) hu hs hg (by rw [hl]; exact hk)
      (fun j v hv => by
        have hj : j < k := by
          rcases Nat.lt_or_ge j k with h | h
          · exact h
          · rw [List.getElem?_eq_none (by simpa using h)] at hv; cases hv
        rw [List.getElem?_map, List.getElem?_range hj] at hv
        simp only [Option.map_some, Option.some.injEq] at hv
        subst hv
        rw [add_none]
        exact hc j (by omega)) (by rw [hl, hsz]; exact hfit) (fun v hv => by
        obtain ⟨j, _, rfl⟩ := List.mem_map.1 hv
        exact h1 j)
    rw [hl] at hrun
    refine ⟨_, hrun, ⟨_, setRow_heap w g cur _ t (0, 0) hg, ?_, fun j hj => ?_⟩, only_setRow _ _ _⟩
    · simp [hsz]; omega
    · unfold spliced
      rw [List.getElem?_toArray]
      by_cases hj1 : j < off
      · rw [if_neg (by omega), List.append_assoc, List.getElem?_append_left (by simp [hsz]; omega), List.getElem?_take_of_lt hj1]
        simpa using hcur j hj
      · by_cases hj2 : j < off + k
        · rw [if_pos (by omega), List.append_assoc, List.getElem?_append_right (by simp [hsz]; omega)]
          have e : j - (List.take off cur.toList).length = j - off := by simp [hsz]; omega
          rw [e, List.getElem?_append_left (by simp; omega), List.getElem?_map, List.getElem?_range (by omega)]
          rfl
        · rw [if_neg (by omega), List.getElem?_append_right (by simp [hsz]; omega)]
          have e : j - (List.take off cur.toList ++ List.map cs (List.range k)).length = j - (off + k) := by simp [hsz]; omega
          rw [e, List.getElem?_drop, show off + k + (j - (off + k)) = j from by omega]
          simpa using hcur j hj

/-- copy that copies nothing. -/
theorem copy_nothing (w : World) {dT sT elem : TypeId} (hu : P.underlying dT = some (.slice elem)) (hs : (P.info? elem).map (·.size) = some 1) (dp sp : Option Addr) (dLen dCap sLen sCap : Nat) (hn : sLen = 0 ∨ dLen = 0) :
    ∀ ty, (Builtin.copy_ #[dT, sT] ty #[.slice dp dLen dCap, .slice sp sLen sCap]).run P w = .ok (goInt 0) w :=
  fun ty => run_copy_none (P := P) w dT sT ty elem dp sp dLen dCap sLen sCap hu hs (by rcases hn with h | h <;> subst h <;> simp)

/-- clear(row[off:off+k]). -/
theorem clear_row (w : World) {t' elem : TypeId} {z : Value} (hu : P.underlying t' = some (.slice elem)) (hz : ∀ W : World, (zeroValue elem).run P W = .ok z W) (hz1 : z.cells = #[z]) (hz2 : z.oneCell' = true) {g t m : Nat} {f : Nat → Value} (hrow : w.rowIs g t m f)
    (A : Option Addr) (off k c : Nat) (hA : 0 < k → A = some ⟨g, off, none⟩) (hfit : off + k ≤ m) :
    ∃ w', (∀ ty, (Builtin.clear_ #[t'] ty #[.slice A k c]).run P w = .ok (.tuple #[]) w') ∧ w'.rowIs g t m (spliced f off k fun _ => z) ∧ Only w w' g := by
  by_cases h0 : k = 0
  · subst h0
    refine ⟨w, fun ty => ?_, hrow.congr (fun j _ => by unfold spliced; rw [if_neg (by omega)]), Only.refl _ _⟩
    rcases A with _ | a <;> simp [Builtin.clear_, run_underlying hu]
  · rw [hA (by omega)]
    obtain ⟨cur, hg, hsz, hcur⟩ := hrow
    have hzc : (Builtin.zeroCells z.cells k).toList = List.replicate k z := by
      rw [hz1]
      simp [Builtin.zeroCells, Nat.mod_one]
      exact List.eq_replicate_iff.2 ⟨by simp, fun b hb => by simp at hb; exact hb.2.symm⟩
    have hst := run_storeCells_at P g off t (List.replicate k z) 0 cur w hg (by simp; omega) (fun v hv => by rw [List.eq_of_mem_replicate hv]; exact hz2)
    refine ⟨w.setRow g (cur.toList.take off ++ List.replicate k z ++ cur.toList.drop (off + k)).toArray, fun ty => ?_, ⟨_, setRow_heap w g cur _ t (0, 0) hg, ?_, fun j hj => ?_⟩, only_setRow _ _ _⟩
    · obtain ⟨k', rfl⟩ : ∃ k', k = k' + 1 := ⟨k - 1, by omega⟩
      simp only [Builtin.clear_]
      simp [run_underlying hu, hz, hzc, hst]
    · simp [hsz]; omega
    · unfold spliced
      rw [List.getElem?_toArray]
      by_cases hj1 : j < off
      · rw [if_neg (by omega), List.append_assoc, List.getElem?_append_left (by simp [hsz]; omega), List.getElem?_take_of_lt hj1]
        simpa using hcur j hj
      · by_cases hj2 : j < off + k
        · rw [if_pos (by omega), List.append_assoc, List.getElem?_append_right (by simp [hsz]; omega)]
          have e : j - (List.take off cur.toList).length = j - off := by simp [hsz]; omega
          rw [e, List.getElem?_append_left (by simp; omega), List.getElem?_replicate, if_pos (by omega)]
        · rw [if_neg (by omega), List.getElem?_append_right (by simp [hsz]; omega)]
          have e : j - (List.take off cur.toList ++ List.replicate k z).length = j - (off + k) := by simp [hsz]; omega
          rw [e, List.getElem?_drop, show off + k + (j - (off + k)) = j from by omega]
          simpa using hcur j hj
end
end Go.Proofs.YtfmfmeiaekknbaaGreat
end

section
/-
  The built-in append on slices of the call's own: elements of any size, the content a function of the cell's index. Over any program.
-/
namespace Go.Proofs.YtfmfmeiaekknbaaGreat
open Go.RowKit
set_option linter.unusedVariables false

/-- A slice of the call's own: n elements of sz cells each, its blocks from B on, its cells F. -/
def Own (w : World) (B : Nat) (e : TypeId) (sz n c : Nat) (A : Option Addr) (F : Nat → Value) : Prop :=
  (A = none ∧ n = 0 ∧ c = 0) ∨ (n ≤ c ∧ ∃ g F', A = some ⟨g, 0, none⟩ ∧ B ≤ g ∧ w.rowIs g e (c * sz) F' ∧ ∀ j, j < n * sz → F' j = F j)

theorem Own.nil (w : World) (B : Nat) (e : TypeId) (sz : Nat) (F : Nat → Value) : Own w B e sz 0 0 none F := .inl ⟨rfl, rfl, rfl⟩
theorem Own.le {w : World} {B : Nat} {e : TypeId} {sz n c : Nat} {A : Option Addr} {F : Nat → Value} (h : Own w B e sz n c A F) : n ≤ c := by
  rcases h with ⟨_, rfl, rfl⟩ | ⟨h, _⟩
  · exact Nat.le_refl _
  · exact h
theorem Own.keep {w w' : World} {B : Nat} {e : TypeId} {sz n c : Nat} {A : Option Addr} {F : Nat → Value} (h : Own w B e sz n c A F) (k : ∀ b, B ≤ b → b < w.heap.size → w'.heap[b]? = w.heap[b]?) : Own w' B e sz n c A F := by
  rcases h with h | ⟨h, g, F', hA, hg, hr, hF⟩
  · exact .inl h
  · exact .inr ⟨h, g, F', hA, hg, hr.of_block (k g hg hr.lt), hF⟩
theorem Own.below {w w' : World} {B : Nat} {e : TypeId} {sz n c : Nat} {A : Option Addr} {F : Nat → Value} (h : Own w B e sz n c A F) (k : Below w.heap.size w w') : Own w' B e sz n c A F := h.keep fun b _ hb => k.block b hb
theorem Own.less {w : World} {B B' : Nat} {e : TypeId} {sz n c : Nat} {A : Option Addr} {F : Nat → Value} (h : Own w B e sz n c A F) (k : B' ≤ B) : Own w B' e sz n c A F := by
  rcases h with h | ⟨h, g, F', hA, hg, hr, hF⟩
  · exact .inl h
  · exact .inr ⟨h, g, F', hA, by omega, hr, hF⟩
theorem Own.congr {w : World} {B : Nat} {e : TypeId} {sz n c : Nat} {A : Option Addr} {F G : Nat → Value} (h : Own w B e sz n c A F) (k : ∀ j, j < n * sz → F j = G j) : Own w B e sz n c A G := by
  rcases h with h | ⟨h, g, F', hA, hg, hr, hF⟩
  · exact .inl h
  · exact .inr ⟨h, g, F', hA, hg, hr, fun j hj => (hF j hj).trans (k j hj)⟩
/-- It is seen. -/
theorem Own.sees {w : World} {B : Nat} {e : TypeId} {sz n c : Nat} {A : Option Addr} {F : Nat → Value} (h : Own w B e sz n c A F) : Sees w w.heap.size A (n * sz) F := by
  intro hn
  rcases h with ⟨_, rfl, _⟩ | ⟨h, g, F', hA, hg, hr, hF⟩
  · omega
  · exact ⟨g, 0, hA, hr.lt, fun j hj => by rw [Nat.zero_add, hr.cell (Nat.lt_of_lt_of_le hj (Nat.mul_le_mul_right _ h)), hF j hj]⟩
/-- Where it lies, if it has an element. -/
theorem Own.at_ {w : World} {B : Nat} {e : TypeId} {sz n c : Nat} {A : Option Addr} {F : Nat → Value} (h : Own w B e sz n c A F) (hn : 0 < n) :
    ∃ g, A = some ⟨g, 0, none⟩ ∧ B ≤ g ∧ g < w.heap.size ∧ (∀ j, j < n * sz → w.cell? ⟨g, j, none⟩ = some (F j)) ∧ ∀ j, w.frozen? ⟨g, j, none⟩ = false := by
  rcases h with ⟨_, rfl, _⟩ | ⟨h, g, F', hA, hg, hr, hF⟩
  · omega
  · exact ⟨g, hA, hg, hr.lt, fun j hj => by rw [hr.cell (Nat.lt_of_lt_of_le hj (Nat.mul_le_mul_right _ h)), hF j hj], fun j => hr.frozen j⟩
/-- A literal of no elements. -/
theorem Own.lit0 (w : World) (e : TypeId) (sz : Nat) (F : Nat → Value) : Own (w.alloc (.cells #[] e)) w.heap.size e sz 0 0 (some ⟨w.heap.size, 0, none⟩) F :=
  .inr ⟨Nat.le_refl _, _, F, rfl, Nat.le_refl _, by rw [Nat.zero_mul]; exact World.rowIs_alloc w #[] e F (fun i hi => absurd hi (by simp)), fun j hj => by omega⟩
/-- A row. -/
theorem Own.row {w : World} {B g : Nat} {e : TypeId} {sz n m : Nat} {F : Nat → Value} (h : w.rowIs g e m F) (hm : m = n * sz) (hg : B ≤ g) : Own w B e sz n n (some ⟨g, 0, none⟩) F := by
  subst hm; exact .inr ⟨Nat.le_refl _, g, F, rfl, hg, h, fun _ _ => rfl⟩
/-- A store into it. -/
theorem Own.set {w : World} {B : Nat} {e : TypeId} {sz n c g : Nat} {F : Nat → Value} (h : Own w B e sz n c (some ⟨g, 0, none⟩) F) (i : Nat) (v : Value) :
    Own (w.setCell ⟨g, i, none⟩ v) B e sz n c (some ⟨g, 0, none⟩) fun j => if j = i then v else F j := by
  rcases h with ⟨h, _⟩ | ⟨h, g', F', hA, hg, hr, hF⟩
  · cases h
  · injection hA with hA; injection hA with hA
    subst hA
    refine .inr ⟨h, g, _, rfl, hg, hr.set i v, fun j hj => ?_⟩
    by_cases c : j = i
    · show (if j = i then v else F' j) = if j = i then v else F j; rw [if_pos c, if_pos c]
    · show (if j = i then v else F' j) = if j = i then v else F j; rw [if_neg c, if_neg c]; exact hF j hj

theorem rowIs_setCells {g : Nat} {t : TypeId} {m : Nat} : ∀ (vs : List Value) (o : Nat) (w : World) (f : Nat → Value), w.rowIs g t m f →
    (w.setCells g o vs).rowIs g t m (fun j => if o ≤ j then (vs[j - o]?).getD (f j) else f j)
  | [], o, w, f, h => h.congr fun j _ => by simp
  | v :: r, o, w, f, h => by
    show ((w.setCell ⟨g, o, none⟩ v).setCells g (o + 1) r).rowIs _ _ _ _
    refine (rowIs_setCells r (o + 1) _ _ (h.set o v)).congr fun j _ => ?_
    show (if o + 1 ≤ j then (r[j - (o + 1)]?).getD (if j = o then v else f j) else (if j = o then v else f j)) = if o ≤ j then ((v :: r)[j - o]?).getD (f j) else f j
    by_cases c : j = o
    · subst c; simp only [if_pos, if_neg (show ¬ j + 1 ≤ j from by omega), Nat.le_refl, Nat.sub_self]; rfl
    · rw [if_neg c]
      by_cases d : o + 1 ≤ j
      · rw [if_pos d, if_pos (show o ≤ j from by omega), show j - o = (j - (o + 1)) + 1 from by omega, List.getElem?_cons_succ]
      · rw [if_neg d, if_neg (show ¬ o ≤ j from by omega)]
section
variable {P : Program}
/-- A slice that is seen, as the source of an append. -/
theorem src_of (w : World) {sz : Nat} {tx e' : TypeId} (hk : P.underlying tx = some (.slice e')) (A : Option Addr) (k c B : Nat) (f : Nat → Value) (hs : Sees w B A (k * sz) f) (h1 : ∀ j, (f j).oneCell' = true) (hz : 0 < sz) :
    Src P sz tx (.slice A k c) k ((List.range (k * sz)).map f) w := by
  by_cases k0 : k = 0
  · subst k0
    rw [Nat.zero_mul]
    rcases A with _ | a
    · exact Src.ofNil w hk c
    · exact Src.ofSlice w hk a 0 c [] (by simp) (fun j u h => by simp at h) (fun u h => by cases h)
  · obtain ⟨b, o, rfl, _, hc⟩ := hs (Nat.mul_pos (by omega) hz)
    refine Src.ofSlice w hk ⟨b, o, none⟩ k c _ (by simp) (fun j u h => ?_) (fun u h => ?_)
    · have hj : j < k * sz := by
        rcases Nat.lt_or_ge j (k * sz) with h' | h'
        · exact h'
        · rw [List.getElem?_eq_none (by simpa using h')] at h; cases h
      rw [List.getElem?_map, List.getElem?_range hj] at h
      simp only [Option.map_some, Option.some.injEq] at h
      subst h
      rw [add_none]
      exact hc j hj
    · obtain ⟨j, _, rfl⟩ := List.mem_map.1 h
      exact h1 j

end
end Go.Proofs.YtfmfmeiaekknbaaGreat
end

section
/-
  More words for memory: calls that leave the world alone inside a region that draws its order.
-/
namespace Go.Proofs.YtfmfmeiaekknbaaGreat
open Go.RowKit

theorem Drawn.trans {a b c : World} (h : Drawn a b) (k : Drawn b c) : Drawn a c := by
  obtain ⟨q, rfl⟩ := h
  obtain ⟨q', rfl⟩ := k
  exact ⟨q + q', World.drewN_drewN ..⟩
/-- A callee that leaves the world alone, inside a region that draws. -/
theorem quiet_left' {P : Program} {f : FuncId} {args : Array Value} {w : World} {n : Nat} {v : Value} (h : Calls P f args (w.drewN n) fun e w' => e = .returned v ∧ w.drewN n = w') :
    Calls P f args (w.drewN n) fun e w'' => e = .returned v ∧ ∃ m, w'' = w.drewN m := h.mono fun _ _ ⟨he, hw⟩ => ⟨he, n, hw.symm⟩
end Go.Proofs.YtfmfmeiaekknbaaGreat
end

section
/-
  Frames: which blocks a call may turn. Over any program.
-/
namespace Go.Proofs.YtfmfmeiaekknbaaGreat
open Go.RowKit
set_option linter.unusedVariables false

/-- Only blocks of S (and new ones) have turned. -/
structure Fr (S : Nat → Prop) (w w' : World) : Prop where
  os : w'.os = w.os
  tape : w'.tape = w.tape
  output : w'.output = w.output
  size : w.heap.size ≤ w'.heap.size
  block : ∀ k, k < w.heap.size → ¬ S k → w'.heap[k]? = w.heap[k]?

theorem Fr.refl (S : Nat → Prop) (w : World) : Fr S w w := ⟨rfl, rfl, rfl, Nat.le_refl _, fun _ _ _ => rfl⟩
theorem Fr.trans {S : Nat → Prop} {a b c : World} (h : Fr S a b) (k : Fr S b c) : Fr S a c :=
  ⟨k.os.trans h.os, k.tape.trans h.tape, k.output.trans h.output, Nat.le_trans h.size k.size, fun i hi hn => (k.block i (Nat.lt_of_lt_of_le hi h.size) hn).trans (h.block i hi hn)⟩
theorem Fr.drawn {S : Nat → Prop} {a w w' : World} (h : Fr S a w) (d : Drawn w w') : Fr S a w' := by obtain ⟨q, rfl⟩ := d; exact ⟨h.os, h.tape, h.output, h.size, h.block⟩
theorem Fr.alloc {S : Nat → Prop} {a w : World} (h : Fr S a w) (o : Obj) : Fr S a (w.alloc o) :=
  h.trans ⟨rfl, rfl, rfl, by simp, fun k hk _ => Below.heap_alloc _ _ _ hk⟩
theorem Fr.setCell {S : Nat → Prop} {a w : World} (h : Fr S a w) {p : Addr} (hp : S p.block) (u : Value) : Fr S a (w.setCell p u) :=
  h.trans ⟨rfl, rfl, rfl, by simp [World.setCell], fun k hk hn => Below.heap_setCell _ _ _ _ (fun e => hn (e ▸ hp))⟩
theorem Fr.of_below {S : Nat → Prop} {w w' : World} (h : Below w.heap.size w w') : Fr S w w' := ⟨h.os, h.tape, h.output, h.size, fun k hk _ => h.block k hk⟩
theorem Fr.below {S : Nat → Prop} {w w' : World} (h : Fr S w w') {B : Nat} (hB : B ≤ w.heap.size) (hS : ∀ b, S b → B ≤ b) : Below B w w' :=
  ⟨h.os, h.tape, h.output, h.size, fun k hk => h.block k (by omega) (fun s => by have := hS k s; omega)⟩
theorem Fr.mono {S T : Nat → Prop} {w w' : World} (h : Fr S w w') (hS : ∀ b, S b → T b) : Fr T w w' := ⟨h.os, h.tape, h.output, h.size, fun k hk hn => h.block k hk (fun s => hn (hS k s))⟩

theorem fr_cells {q : Nat} {w w' : World} (h : Fr (fun b => b = q) w w') : ∀ b o, b < w.heap.size → ¬ b = q → w'.cell? ⟨b, o, none⟩ = w.cell? ⟨b, o, none⟩ := fun b o h1 h2 => World.cell?_of_block (w := w) (h.block b h1 h2)
/-- A slice that is seen, none of its memory in S. -/
def SeesO (S : Nat → Prop) (w : World) (A : Option Addr) (n : Nat) (f : Nat → Value) : Prop :=
  0 < n → ∃ b o, A = some ⟨b, o, none⟩ ∧ b < w.heap.size ∧ ¬ S b ∧ ∀ j, j < n → w.cell? ⟨b, o + j, none⟩ = some (f j)
theorem SeesO.sees {S : Nat → Prop} {w : World} {A : Option Addr} {n : Nat} {f : Nat → Value} (h : SeesO S w A n f) : Sees w w.heap.size A n f := by
  intro hn
  obtain ⟨b, o, h1, h2, _, h3⟩ := h hn
  exact ⟨b, o, h1, h2, h3⟩
theorem SeesO.of {S : Nat → Prop} {w : World} {A : Option Addr} {n B : Nat} {f : Nat → Value} (h : Sees w B A n f) (hB : B ≤ w.heap.size) (hS : ∀ b, S b → B ≤ b) : SeesO S w A n f := by
  intro hn
  obtain ⟨b, o, h1, h2, h3⟩ := h hn
  exact ⟨b, o, h1, by omega, fun s => by have := hS b s; omega, h3⟩
theorem SeesO.fr {S : Nat → Prop} {w w' : World} {A : Option Addr} {n : Nat} {f : Nat → Value} (h : SeesO S w A n f) (k : Fr S w w') : SeesO S w' A n f := by
  intro hn
  obtain ⟨b, o, h1, h2, h3, h4⟩ := h hn
  exact ⟨b, o, h1, Nat.lt_of_lt_of_le h2 k.size, h3, fun j hj => (World.cell?_of_block (w := w) (k.block b h2 h3)).trans (h4 j hj)⟩
theorem SeesO.congr {S : Nat → Prop} {w : World} {A : Option Addr} {n : Nat} {f g : Nat → Value} (h : SeesO S w A n f) (e : ∀ j, j < n → f j = g j) : SeesO S w A n g := by
  intro hn
  obtain ⟨b, o, h1, h2, h3, h4⟩ := h hn
  exact ⟨b, o, h1, h2, h3, fun j hj => by rw [h4 j hj, e j hj]⟩
theorem SeesO.less {S T : Nat → Prop} {w : World} {A : Option Addr} {n : Nat} {f : Nat → Value} (h : SeesO S w A n f) (e : ∀ b, b < w.heap.size → T b → S b) : SeesO T w A n f := by
  intro hn
  obtain ⟨b, o, h1, h2, h3, h4⟩ := h hn
  exact ⟨b, o, h1, h2, fun t => h3 (e b h2 t), h4⟩
end Go.Proofs.YtfmfmeiaekknbaaGreat
end

section
/-
  The built-in append on slices of the call's own, with the one block that it may turn. Over any program.
-/
namespace Go.Proofs.YtfmfmeiaekknbaaGreat
open Go.RowKit
set_option linter.unusedVariables false

theorem fr_setCells (w : World) (g o : Nat) (vs : List Value) : Fr (fun b => (some (⟨g, 0, none⟩ : Addr)).map (·.block) = some b) w (w.setCells g o vs) := by
  induction vs generalizing o w with
  | nil => exact Fr.refl _ _
  | cons v r ih => exact Fr.trans (S := fun b => (some (⟨g, 0, none⟩ : Addr)).map (·.block) = some b) (Fr.setCell (S := fun b => (some (⟨g, 0, none⟩ : Addr)).map (·.block) = some b) (Fr.refl _ w) (p := ⟨g, o, none⟩) rfl v) (ih (w.setCell ⟨g, o, none⟩ v) (o + 1))
theorem Own.fr {w w' : World} {B : Nat} {e : TypeId} {sz n c : Nat} {A : Option Addr} {F : Nat → Value} {S : Nat → Prop} (h : Own w B e sz n c A F) (k : Fr S w w') (hS : ∀ b, A.map (·.block) = some b → ¬ S b) : Own w' B e sz n c A F := by
  rcases h with h | ⟨h, g, F', hA, hg, hr, hF⟩
  · exact .inl h
  · exact .inr ⟨h, g, F', hA, hg, hr.of_block (k.block g hr.lt (hS g (by rw [hA]; rfl))), hF⟩
theorem Own.blk {w : World} {B n c : Nat} {e : TypeId} {sz : Nat} {A : Option Addr} {F : Nat → Value} (h : Own w B e sz n c A F) : ∀ k, A.map (·.block) = some k → B ≤ k ∧ k < w.heap.size := by
  intro k hk
  rcases h with ⟨rfl, _⟩ | ⟨h, g, F', rfl, hg, hr, hF⟩
  · cases hk
  · injection hk with hk
    have : g = k := hk
    subst this
    exact ⟨hg, hr.lt⟩

section
variable {P : Program}
/-- append(own, src...). -/
theorem own_append2 (w : World) (B : Nat) {t tx e e' : TypeId} {i : TypeInfo} {z : Value} {sz by_ : Nat} (ht : P.underlying t = some (.slice e)) (hi : P.info? e = some i) (hz : i.zero = some z) (hsz : i.size = sz) (hby : i.bytes = by_) (hzs : z.cells.size = sz) (h0 : 0 < sz)
    (hk : P.underlying tx = some (.slice e')) {n c : Nat} {A : Option Addr} {F : Nat → Value} (h : Own w B e sz n c A F) (hB : B ≤ w.heap.size)
    {A2 : Option Addr} {k c2 B2 : Nat} {f : Nat → Value} (hs : Sees w B2 A2 (k * sz) f) (h1 : ∀ j, (f j).oneCell' = true) (hm : n + k ≤ 1000000000) (hbb : by_ ≤ 1024) :
    ∃ A' c' w', (∀ ty, (Builtin.append_ #[t, tx] ty #[.slice A n c, .slice A2 k c2]).run P w = .ok (.slice A' (n + k) c') w') ∧ Own w' B e sz (n + k) c' A' (fun j => if j < n * sz then F j else f (j - n * sz)) ∧ Fr (fun b => A.map (·.block) = some b) w w' ∧ (A' = A ∨ ∃ g, A' = some ⟨g, 0, none⟩ ∧ w.heap.size ≤ g) ∧ (c ≤ maxLen → c' ≤ maxLen) := by
  subst hsz hby
  have hsrc := src_of w hk A2 k c2 B2 f hs h1 h0
  have hl : ((List.range (k * i.size)).map f).length = k * i.size := by simp
  by_cases k0 : k = 0
  · subst k0
    refine ⟨A, c, w, fun ty => ?_, h.congr (fun j hj => (if_pos hj).symm), Fr.refl _ _, .inl rfl, fun h => h⟩
    refine run_append_nothing w t tx ty e i ht hi A n c h.le _ ?_
    simpa using hsrc
  by_cases hroom : n + k ≤ c
  · rcases h with ⟨rfl, rfl, rfl⟩ | ⟨hn, g, F', rfl, hg, hr, hF⟩
    · omega
    have hle : (n + k) * i.size ≤ c * i.size := Nat.mul_le_mul_right _ hroom
    rw [Nat.add_mul] at hle
    refine ⟨_, c, _, fun ty => run_append_room_src w t tx ty e i ht hi g 0 n c _ k _ hsrc hroom (fun j hj => ?_) (fun j hj => hr.frozen _), .inr ⟨hroom, g, _, rfl, hg, rowIs_setCells _ _ _ _ hr, fun j hj => ?_⟩, fr_setCells _ _ _ _, .inl rfl, fun h => h⟩
    · rw [hl] at hj
      rw [hr.cell (by omega)]; rfl
    · rw [Nat.zero_add]
      rw [Nat.add_mul] at hj
      show (if n * i.size ≤ j then (((List.range (k * i.size)).map f)[j - n * i.size]?).getD (F' j) else F' j) = if j < n * i.size then F j else f (j - n * i.size)
      by_cases d : j < n * i.size
      · rw [if_neg (by omega), if_pos d]; exact hF j d
      · rw [if_pos (by omega), if_neg d, List.getElem?_map, List.getElem?_range (by omega)]; rfl
  · have hold : (Builtin.firstCells i.size n (.slice A n c)).run P w.drew = .ok ((List.range (n * i.size)).map F).toArray w.drew := by
      rcases h with ⟨rfl, rfl, rfl⟩ | ⟨hn, g, F', rfl, hg, hr, hF⟩
      · rw [run_firstCells_none]; simp
      · refine run_firstCells_some w.drew i.size n ⟨g, 0, none⟩ n c _ (by simp) fun j u hu => ?_
        have hj : j < n * i.size := by
          rcases Nat.lt_or_ge j (n * i.size) with h' | h'
          · exact h'
          · rw [List.getElem?_eq_none (by simpa using h')] at hu; cases hu
        rw [List.getElem?_map, List.getElem?_range hj] at hu
        simp only [Option.map_some, Option.some.injEq] at hu
        subst hu
        rw [add_none, Nat.zero_add]
        exact (hr.cell (Nat.lt_of_lt_of_le hj (Nat.mul_le_mul_right _ hn))).trans (by rw [hF j hj])
    have hle : (n + k) * i.bytes ≤ 1000000000 * 1024 := Nat.mul_le_mul hm hbb
    have hrun := fun ty => run_append_grow_src (P := P) w t tx ty e i z ht hi hz A n c _ hold _ k _ hsrc (by omega) (by omega) (growslice_fits (by omega) (by omega))
    have hge := grownCap_ge w (n + k) c e
    have hcm := grownCap_le_maxLen w (n + k) c e (by simp only [maxLen]; omega)
    refine ⟨_, _, _, hrun, .inr ⟨hge, w.heap.size, fun j => ((((List.range (n * i.size)).map F ++ (List.range (k * i.size)).map f).toArray ++ Builtin.zeroCells z.cells (grownCap w (n + k) c e - (n + k)))[j]?).getD (.bool false), rfl, hB, ?_, fun j hj => ?_⟩, ?_, .inr ⟨_, rfl, Nat.le_refl _⟩, fun _ => hcm⟩
    · have hrow := World.rowIs_alloc w.drew (((List.range (n * i.size)).map F ++ (List.range (k * i.size)).map f).toArray ++ Builtin.zeroCells z.cells (grownCap w (n + k) c e - (n + k))) e
        (fun j => ((((List.range (n * i.size)).map F ++ (List.range (k * i.size)).map f).toArray ++ Builtin.zeroCells z.cells (grownCap w (n + k) c e - (n + k)))[j]?).getD (.bool false)) (fun j hj => by
          rw [Array.getElem?_eq_getElem hj]; rfl)
      have hsize : (((List.range (n * i.size)).map F ++ (List.range (k * i.size)).map f).toArray ++ Builtin.zeroCells z.cells (grownCap w (n + k) c e - (n + k))).size = grownCap w (n + k) c e * i.size := by
        rw [Array.size_append, List.size_toArray, List.length_append, size_zeroCells, hzs]
        simp only [List.length_map, List.length_range]
        rw [← Nat.add_mul, ← Nat.add_mul]
        congr 1
        omega
      rw [hsize] at hrow
      exact hrow
    · show ((_ ++ _ : Array Value)[j]?).getD _ = _
      rw [Nat.add_mul] at hj
      rw [Array.getElem?_append_left (by simp; omega), List.getElem?_toArray]
      show _ = if j < n * i.size then F j else f (j - n * i.size)
      by_cases d : j < n * i.size
      · rw [if_pos d, List.getElem?_append_left (by simpa using d), List.getElem?_map, List.getElem?_range d]; rfl
      · rw [if_neg d, List.getElem?_append_right (by simp; omega), List.getElem?_map, List.getElem?_range (by simp; omega)]
        simp
    · exact ((Fr.refl _ w).drawn ⟨1, rfl⟩).alloc _
theorem own_append2' (w : World) (B : Nat) {t tx e e' : TypeId} {z : Value} {sz by_ : Nat} (ht : P.underlying t = some (.slice e)) (hi : (P.info? e).map (fun i => (i.zero, i.size, i.bytes)) = some (some z, sz, by_)) (hzs : z.cells.size = sz) (h0 : 0 < sz)
    (hk : P.underlying tx = some (.slice e')) {n c : Nat} {A : Option Addr} {F : Nat → Value} (h : Own w B e sz n c A F) (hB : B ≤ w.heap.size)
    {A2 : Option Addr} {k c2 B2 : Nat} {f : Nat → Value} (hs : Sees w B2 A2 (k * sz) f) (h1 : ∀ j, (f j).oneCell' = true) (hm : n + k ≤ 1000000000) (hbb : by_ ≤ 1024) :
    ∃ A' c' w', (∀ ty, (Builtin.append_ #[t, tx] ty #[.slice A n c, .slice A2 k c2]).run P w = .ok (.slice A' (n + k) c') w') ∧ Own w' B e sz (n + k) c' A' (fun j => if j < n * sz then F j else f (j - n * sz)) ∧ Fr (fun b => A.map (·.block) = some b) w w' ∧ (A' = A ∨ ∃ g, A' = some ⟨g, 0, none⟩ ∧ w.heap.size ≤ g) ∧ (c ≤ maxLen → c' ≤ maxLen) := by
  obtain ⟨i, hi', he⟩ := Option.map_eq_some_iff.1 hi
  injection he with e1 e2
  injection e2 with e2 e3
  exact own_append2 w B ht hi' e1 e2 e3 hzs h0 hk h hB hs h1 hm hbb

/-- append(own, v): one element of one cell; the world that the walk has made lies a block further. -/
theorem own_push (w : World) (B : Nat) {t e : TypeId} {z : Value} {by_ : Nat} (ht : P.underlying t = some (.slice e)) (hi : (P.info? e).map (fun i => (i.zero, i.size, i.bytes)) = some (some z, 1, by_)) (hzs : z.cells.size = 1) {n c : Nat} {A : Option Addr} {F : Nat → Value} (h : Own w B e 1 n c A F) (hB : B ≤ w.heap.size)
    (v : Value) (h1 : v.oneCell' = true) (hm : n + 1 ≤ 1000000000) (hbb : by_ ≤ 1024) :
    ∃ A' c' w', (∀ ty, (Builtin.append_ #[t, t] ty #[.slice A n c, .slice (some ⟨w.heap.size, 0, none⟩) 1 1]).run P (w.alloc (.cells #[v] e)) = .ok (.slice A' (n + 1) c') w') ∧ Own w' B e 1 (n + 1) c' A' (fun j => if j < n then F j else v) ∧
      Fr (fun b => A.map (·.block) = some b) w w' ∧ (A' = A ∨ ∃ g, A' = some ⟨g, 0, none⟩ ∧ w.heap.size ≤ g) ∧ (c ≤ maxLen → c' ≤ maxLen) := by
  have L0 : Below w.heap.size w (w.alloc (.cells #[v] e)) := (Below.refl _ w).alloc (Nat.le_refl _) _
  have hs : Sees (w.alloc (.cells #[v] e)) (w.heap.size + 1) (some ⟨w.heap.size, 0, none⟩) 1 (fun _ => v) := by
    have := Sees.lit w #[v] e (fun _ => v) 1 rfl (fun j hj => by have h0 : j = 0 := Nat.lt_one_iff.1 hj; subst h0; rfl)
    simpa using this
  obtain ⟨A', c', w', run, O, f, a, m⟩ := own_append2' (P := P) (w.alloc (.cells #[v] e)) B ht hi hzs (by omega) ht (h.below L0) (by simp; omega) (c2 := 1) (f := fun _ => v) (by simpa using hs) (fun _ => h1) hm hbb
  refine ⟨A', c', w', run, O.congr fun j hj => ?_, (Fr.of_below L0).trans f, ?_, m⟩
  · rw [Nat.mul_one]
  · rcases a with a | ⟨g, a1, a2⟩
    · exact .inl a
    · exact .inr ⟨g, a1, by simp at a2; omega⟩
end
end Go.Proofs.YtfmfmeiaekknbaaGreat
end

section
/-
  Slice expressions as equations, laid ahead of a walk: no parting into ways. Over any program.
-/
namespace Go.Proofs.YtfmfmeiaekknbaaGreat
open Go.RowKit
set_option linter.unusedVariables false
set_option linter.unusedSimpArgs false

/-- The address of a part of a slice. -/
def subA (A : Option Addr) (c lo sz : Nat) : Option Addr := if c = lo then A else A.map (·.add (lo * sz))
theorem sees_sub {w : World} {B n c lo hi sz : Nat} {A : Option Addr} {F : Nat → Value} (h : Sees w B A (n * sz) F) (hnc : n ≤ c) (h1 : lo ≤ hi) (h2 : hi ≤ n) : Sees w B (subA A c lo sz) ((hi - lo) * sz) (fun j => F (lo * sz + j)) := by
  intro hp
  have h0 : 0 < hi - lo := Nat.pos_of_ne_zero (fun e => by rw [e, Nat.zero_mul] at hp; omega)
  have hz : 0 < sz := Nat.pos_of_ne_zero (fun e => by rw [e, Nat.mul_zero] at hp; omega)
  have hle : hi * sz ≤ n * sz := Nat.mul_le_mul_right _ h2
  have e2 : (hi - lo) * sz = hi * sz - lo * sz := Nat.sub_mul _ _ _
  have h3 : lo * sz ≤ hi * sz := Nat.mul_le_mul_right _ h1
  obtain ⟨b, o, rfl, hb, hc⟩ := h (by omega)
  refine ⟨b, o + lo * sz, ?_, hb, fun j hj => ?_⟩
  · unfold subA
    rw [if_neg (by omega)]
    show some (Addr.add _ _) = _
    unfold Addr.add
    by_cases h : lo * sz = 0
    · rw [if_pos h, h]; rfl
    · rw [if_neg h]
  · rw [Nat.add_assoc]; exact hc _ (by omega)

section
variable {P : Program} {t e : TypeId} {sz : Nat}
theorem subA_zero (A : Option Addr) (c sz : Nat) : subA A c 0 sz = A := by
  unfold subA
  split
  · rfl
  · rw [Nat.zero_mul]
    cases A with
    | none => rfl
    | some a => rfl
theorem slice_bounds_lh (lo hi c n : Nat) (h1 : lo ≤ hi) (h2 : hi ≤ c) (wx : World) :
    (Instr.sliceBounds true n c (some (.int .i64 lo)) (some (.int .i64 hi)) none).run P wx = .ok (lo, hi, c) wx := by
  simp [Instr.sliceBounds, run_sliceBound, h2, h1]
theorem slice_bounds_h (hi c n : Nat) (h2 : hi ≤ c) (wx : World) :
    (Instr.sliceBounds true n c none (some (.int .i64 hi)) none).run P wx = .ok (0, hi, c) wx := by
  simp [Instr.sliceBounds, run_sliceBound, h2]
theorem slice_bounds_l (lo c n : Nat) (h2 : lo ≤ n) (wx : World) :
    (Instr.sliceBounds true n c (some (.int .i64 lo)) none none).run P wx = .ok (lo, n, c) wx := by
  simp [Instr.sliceBounds, run_sliceBound, h2]
theorem sizeOf_eq (hi : (P.info? e).map (·.size) = some sz) (wx : World) : (sizeOf e).run P wx = .ok sz wx := by
  obtain ⟨i, h1, h2⟩ := Option.map_eq_some_iff.1 hi
  simp [sizeOf, typeInfo, h1, h2]
theorem slice_of_bounds (ht : P.underlying t = some (.slice e)) (hi : (P.info? e).map (·.size) = some sz) (A : Option Addr) (n c : Nat) (lo hi' mx : Option Value) {l h m : Nat} (hb : ∀ wx, (Instr.sliceBounds true n c lo hi' mx).run P wx = .ok (l, h, m) wx) (wx : World) :
    (Instr.sliceAt t (.slice A n c) lo hi' mx).run P wx = .ok (.slice (subA A m l sz) (h - l) (m - l)) wx := by
  have he : P.elem t = e := by simp [Program.elem, ht]
  rw [run_sliceAt_slice (P := P) wx t _ lo hi' mx (by rw [he]; exact ht), run_slice_any (P := P) wx t A n c (by rw [he]; exact ht) lo hi' mx, hb wx, he]
  simp only [Result.andThen, sizeOf_eq hi]
  rfl
theorem slice_lh (ht : P.underlying t = some (.slice e)) (hi : (P.info? e).map (·.size) = some sz) (A : Option Addr) (n c lo hi' : Nat) (h1 : lo ≤ hi') (h2 : hi' ≤ c) (wx : World) :
    (Instr.sliceAt t (.slice A n c) (some (.int .i64 lo)) (some (.int .i64 hi')) none).run P wx = .ok (.slice (subA A c lo sz) (hi' - lo) (c - lo)) wx :=
  slice_of_bounds ht hi A n c _ _ _ (slice_bounds_lh lo hi' c n h1 h2) wx
theorem slice_h (ht : P.underlying t = some (.slice e)) (hi : (P.info? e).map (·.size) = some sz) (A : Option Addr) (n c hi' : Nat) (h2 : hi' ≤ c) (wx : World) :
    (Instr.sliceAt t (.slice A n c) none (some (.int .i64 hi')) none).run P wx = .ok (.slice A hi' c) wx := by
  have := slice_of_bounds ht hi A n c _ _ _ (slice_bounds_h hi' c n h2) wx
  rwa [subA_zero] at this
theorem slice_l (ht : P.underlying t = some (.slice e)) (hi : (P.info? e).map (·.size) = some sz) (A : Option Addr) (n c lo : Nat) (h2 : lo ≤ n) (wx : World) :
    (Instr.sliceAt t (.slice A n c) (some (.int .i64 lo)) none none).run P wx = .ok (.slice (subA A c lo sz) (n - lo) (c - lo)) wx :=
  slice_of_bounds ht hi A n c _ _ _ (slice_bounds_l lo c n h2) wx
end
end Go.Proofs.YtfmfmeiaekknbaaGreat
end

section
/-
  Contracts of package spans, first: spans in memory; Check, add, done.
-/
namespace Go.Proofs.YtfmfmeiaekknbaaGreat
open Go.RowKit
set_option linter.unusedVariables false
set_option linter.unusedSimpArgs false

def sg (L : Sp) (k : Nat) : Int × Int := L.getD k (0, 0)
/-- The cells of a list of spans. -/
def spf (L : Sp) : Nat → Value := fun j => .int .i64 (if j % 2 = 0 then (sg L (j / 2)).1 else (sg L (j / 2)).2)
theorem spf_0 (L : Sp) (k : Nat) : spf L (k * 2) = .int .i64 (sg L k).1 := by
  unfold spf
  rw [if_pos (by omega), show k * 2 / 2 = k from by omega]
theorem spf_1 (L : Sp) (k : Nat) : spf L (k * 2 + 1) = .int .i64 (sg L k).2 := by
  unfold spf
  rw [if_neg (by omega), show (k * 2 + 1) / 2 = k from by omega]
theorem sg_get (L : Sp) {k : Nat} (h : k < L.length) : sg L k = L[k] := by simp [sg, List.getD_eq_getElem?_getD, List.getElem?_eq_getElem h]
theorem sg_mem (L : Sp) {k : Nat} (h : k < L.length) : sg L k ∈ L := by rw [sg_get L h]; exact List.getElem_mem h
theorem sg_app (L M : Sp) (k : Nat) : sg (L ++ M) k = if k < L.length then sg L k else sg M (k - L.length) := by
  unfold sg
  rw [List.getD_eq_getElem?_getD, List.getD_eq_getElem?_getD, List.getD_eq_getElem?_getD]
  by_cases c : k < L.length
  · rw [if_pos c, List.getElem?_append_left c]
  · rw [if_neg c, List.getElem?_append_right (by omega)]
/-- A list of spans that is seen. -/
abbrev SeesP (w : World) (B : Nat) (A : Option Addr) (L : Sp) : Prop := Sees w B A (L.length * 2) (spf L)
abbrev OwnP (w : World) (B : Nat) (A : Option Addr) (c : Nat) (L : Sp) : Prop := Own w B 168 2 L.length c A (spf L)
def FitsS (L : Sp) : Prop := ∀ s ∈ L, Fits s.1 ∧ Fits s.2
theorem NF.fits {L : Sp} (h : NF L) : FitsS L := fun s hs => by
  obtain ⟨h1, h2, h3, h4⟩ := NFfrom.mem h s hs
  exact ⟨⟨by omega, by omega⟩, ⟨by omega, by omega⟩⟩
theorem SeesP.cells {w : World} {B : Nat} {A : Option Addr} {L : Sp} (h : SeesP w B A L) {k : Nat} (hk : k < L.length) :
    ∃ b o, A = some ⟨b, o, none⟩ ∧ b < B ∧ w.cell? ⟨b, o + k * 2, none⟩ = some (.int .i64 (sg L k).1) ∧ w.cell? ⟨b, o + k * 2 + 1, none⟩ = some (.int .i64 (sg L k).2) := by
  obtain ⟨b, o, h1, h2, h3⟩ := h (by omega)
  refine ⟨b, o, h1, h2, ?_, ?_⟩
  · have := h3 (k * 2) (by omega); rwa [spf_0] at this
  · have := h3 (k * 2 + 1) (by omega); rw [spf_1] at this; rw [← this, Nat.add_assoc]

set_option maxRecDepth 100000 in
set_option maxHeartbeats 1600000 in
theorem check_any (w : World) (B : Nat) (A : Option Addr) (c : Nat) (L : Sp) (h : SeesP w B A L) (hB : B ≤ w.heap.size) (hf : FitsS L) (hn : L.length ≤ 1000000000000000) :
    Calls Tryz.prog 131 #[.slice A L.length c] w fun e w' => e = .returned (.int .i64 (chkS L)) ∧ Below w.heap.size w w' := by
  have HS := Lib.hid h
  have HF := Lib.hid hf
  obtain ⟨n, en⟩ : ∃ n, n = L.length := ⟨_, rfl⟩
  have EN := Lib.hid en
  by_cases hbig : 4096 < n
  · have hx : chkS L = 3 := by unfold chkS; rw [if_pos (by omega)]
    rw [← en] at hn ⊢
    rw [hx]
    clear h hf hx en
    go_enter Tryz.func131, Tryz.ntmps131
    go_wp2_with fail
    go_ret
    exact ⟨rfl, Below.refl _ _⟩
  · have hx : chkS L = ckFrom (-1) L := by unfold chkS; rw [if_neg (by omega)]
    rw [hx]
    obtain ⟨res, er⟩ : ∃ r, r = ckFrom (-1) L := ⟨_, rfl⟩
    have ER : Hid (ckFrom (-1) (L.drop 0) = res) := by rw [er]; rfl
    rw [← en] at hn ⊢
    rw [← er]
    clear h hf hx en er
    go_enter Tryz.func131, Tryz.ntmps131
    go_wp2_with fail
    go_loopw [3, 11] (fun a i wr => ∃ (k : Nat) (last : Int), k ≤ n ∧ i = .int .i64 k ∧ a = .int .i64 last ∧ Hid (ckFrom last (L.drop k) = res) ∧ Fits last ∧ Hid (Below w.heap.size w wr)) (fun _ i _ => n - (intOf i).toNat)
    case atStart => exact ⟨0, -1, Nat.zero_le _, rfl, rfl, ER, ⟨by omega, by omega⟩, Below.refl _ _⟩
    case round =>
      obtain ⟨k, last, hk, rfl, rfl, hC, ⟨fl1, fl2⟩, hD⟩ := hrel
      by_cases hlt : k < n
      · obtain ⟨b, o, rfl, hb, c0, c1⟩ := SeesP.cells ((HS.out.more hB).below hD.out) (k := k) (by rw [← EN.out]; exact hlt)
        have hkL : k < L.length := by rw [← EN.out]; exact hlt
        have hm := HF.out _ (sg_mem L hkL)
        have hd : L.drop k = sg L k :: L.drop (k + 1) := by rw [sg_get L hkL]; exact List.drop_eq_getElem_cons hkL
        have hC' := hC.out
        rw [hd] at hC'
        have HC : Hid ((if (sg L k).1 < 0 ∨ (sg L k).2 ≤ (sg L k).1 ∨ 1073741824 < (sg L k).2 then (1 : Int) else if (sg L k).1 ≤ last then 16 else ckFrom (sg L k).2 (L.drop (k + 1))) = res) := hC'
        obtain ⟨x, hx⟩ : ∃ x, x = (sg L k).1 := ⟨_, rfl⟩
        obtain ⟨y, hy⟩ : ∃ y, y = (sg L k).2 := ⟨_, rfl⟩
        rw [← hx] at c0 HC hm
        rw [← hy] at c1 HC hm
        obtain ⟨⟨fx1, fx2⟩, fy1, fy2⟩ := hm
        clear hx hy hd hC hC' hkL
        have D1 : Hid (Below w.heap.size w (wr.alloc (.cells #[.int .i64 x, .int .i64 y] 168))) := hD.out.alloc hD.out.size _
        by_cases t1 : x < 0
        · have e : res = 1 := by rw [← HC.out, if_pos (by omega)]
          clear HC
          subst e
          go_wp2_with fail
          go_ret
          exact ⟨rfl, D1.out⟩
        by_cases t2 : y ≤ x
        · have e : res = 1 := by rw [← HC.out, if_pos (by omega)]
          clear HC
          subst e
          go_wp2_with fail
          go_ret
          exact ⟨rfl, D1.out⟩
        by_cases t3 : 1073741824 < y
        · have e : res = 1 := by rw [← HC.out, if_pos (by omega)]
          clear HC
          subst e
          go_wp2_with fail
          go_ret
          exact ⟨rfl, D1.out⟩
        by_cases t4 : x ≤ last
        · have e : res = 16 := by rw [← HC.out, if_neg (by omega), if_pos t4]
          clear HC
          subst e
          go_wp2_with fail
          go_ret
          exact ⟨rfl, D1.out⟩
        · have HC2 : Hid (ckFrom y (L.drop (k + 1)) = res) := by have := HC.out; rwa [if_neg (by omega), if_neg t4] at this
          clear HC
          go_wp2_with fail
          go_roundw
          case rel => exact ⟨k + 1, y, by omega, by go_num, rfl, HC2, ⟨fy1, fy2⟩, D1⟩
          case measure => simp [intOf]; omega
      · obtain rfl : k = n := by omega
        have e : res = 0 := by
          rw [← hC.out, List.drop_of_length_le (by rw [← EN.out]; omega)]; rfl
        subst e
        go_wp2_with fail
        go_ret
        exact ⟨rfl, hD.out⟩

theorem infoSp : (Tryz.prog.info? 168).map (fun i => (i.zero, i.size, i.bytes)) = some (some (.agg #[.int .i64 0, .int .i64 0]), 2, 16) := by kernel_rfl
/-- append(own, Span). -/
theorem push_P (w : World) (B : Nat) {c : Nat} {A : Option Addr} {L : Sp} (h : OwnP w B A c L) (hB : B ≤ w.heap.size) (f t : Int) (hm : L.length ≤ 900000000) :
    ∃ A' c' w', (∀ ty, (Builtin.append_ #[30, 30] ty #[.slice A L.length c, .slice (some ⟨w.heap.size, 0, none⟩) 1 1]).run Tryz.prog (w.alloc (.cells #[.int .i64 f, .int .i64 t] 168)) = .ok (.slice A' (L.length + 1) c') w') ∧ OwnP w' B A' c' (L ++ [(f, t)]) ∧ Below B w w' ∧ (c ≤ maxLen → c' ≤ maxLen) ∧ Fr (fun b => A.map (·.block) = some b) w w' := by
  have L0 : Below w.heap.size w (w.alloc (.cells #[.int .i64 f, .int .i64 t] 168)) := (Below.refl _ w).alloc (Nat.le_refl _) _
  have hs : Sees (w.alloc (.cells #[.int .i64 f, .int .i64 t] 168)) (w.heap.size + 1) (some ⟨w.heap.size, 0, none⟩) (1 * 2) (spf [(f, t)]) := by
    have := Sees.lit w #[.int .i64 f, .int .i64 t] 168 (spf [(f, t)]) 2 rfl (fun j hj => by
      have : j = 0 ∨ j = 1 := by omega
      rcases this with rfl | rfl <;> rfl)
    simpa using this
  obtain ⟨A', c', w', run, O, fr, a, m⟩ := own_append2' (P := Tryz.prog) (w.alloc (.cells #[.int .i64 f, .int .i64 t] 168)) B Tryz.underlying30 infoSp rfl (by omega) Tryz.underlying30 (h.below L0) (by rw [World.size_alloc]; omega) (c2 := 1) hs (fun _ => rfl) (by omega) (by omega)
  refine ⟨A', c', w', run, ?_, (L0.mono hB).trans (fr.below (by rw [World.size_alloc]; omega) fun b hb => (h.blk b hb).1), m, (Fr.of_below L0).trans fr⟩
  unfold OwnP
  rw [List.length_append, List.length_singleton]
  refine O.congr fun j hj => ?_
  unfold spf
  rw [sg_app]
  by_cases d : j < L.length * 2
  · rw [if_pos d, if_pos (show j / 2 < L.length by omega)]
  · rw [if_neg d, if_neg (show ¬ j / 2 < L.length by omega), show (j - L.length * 2) % 2 = j % 2 from by omega, show (j - L.length * 2) / 2 = j / 2 - L.length from by omega]

def AddPost (w : World) (B c : Nat) (A : Option Addr) (R : Sp) (e : Ending) (w' : World) : Prop := ∃ A' c', e = .returned (.slice A' R.length c') ∧ OwnP w' B A' c' R ∧ Below B w w' ∧ (c ≤ maxLen → c' ≤ maxLen) ∧ Fr (fun b => A.map (·.block) = some b) w w'
set_option maxRecDepth 100000 in
set_option maxHeartbeats 1600000 in
theorem sadd_any (w : World) (B : Nat) (A : Option Addr) (c : Nat) (L : Sp) (f t : Int) (O : OwnP w B A c L) (hB : B ≤ w.heap.size) (hl : L.length ≤ 900000000) (ff : Fits f) (ft : Fits t) (hf : FitsS L) :
    Calls Tryz.prog 129 #[.slice A L.length c, .int .i64 f, .int .i64 t] w (AddPost w B c A (addS L f t)) := by
  obtain ⟨ff1, ff2⟩ := ff
  obtain ⟨ft1, ft2⟩ := ft
  by_cases h0 : t ≤ f
  · rw [addS_none h0]
    have H : Hid (AddPost w B c A L (.returned (.slice A L.length c)) w) := ⟨A, c, rfl, O, Below.refl _ _, (fun h => h), Fr.refl _ _⟩
    obtain ⟨n, en⟩ : ∃ n, n = L.length := ⟨_, rfl⟩
    rw [← en] at H hl ⊢
    clear O hf en
    go_enter Tryz.func129, Tryz.ntmps129
    go_wp2_with fail
    go_ret
    exact H.out
  · have hft : f < t := by omega
    rcases List.eq_nil_or_concat L with rfl | ⟨P, s, rfl⟩
    · rw [addS_nil hft]
      obtain ⟨A', c', w', run, O2, hb, hm, hfr⟩ := push_P w B O hB f t (by simp)
      have H : Hid (AddPost w B c A [(f, t)] (.returned (.slice A' 1 c')) w') := ⟨A', c', rfl, O2, hb, hm, hfr⟩
      have R := Lib.hid run
      clear O hf run O2 hb hm hl hfr
      show Calls Tryz.prog _ #[.slice A 0 c, _, _] _ _
      go_enter Tryz.func129, Tryz.ntmps129
      go_wp2_with (at_builtin; refine Hid.out ?_)
      refine Lib.hid (Lib.wpList_append_run _ rfl _ _ _ _ rfl _ _ rfl rfl _ _ (R.out _) ?_)
      go_wp2_with fail
      go_ret
      exact H.out
    · rw [List.concat_eq_append] at *
      rw [addS_snoc hft]
      have hlen : (P ++ [s]).length = P.length + 1 := by simp
      obtain ⟨g, hA, hg1, hg2, hcells, hfz⟩ := O.at_ (by omega)
      have hle := O.le
      have c1 := hcells (P.length * 2 + 1) (by omega)
      rw [spf_1, show sg (P ++ [s]) P.length = s from by rw [sg_app, if_neg (by omega), Nat.sub_self]; rfl] at c1
      have z1 := hfz (P.length * 2 + 1)
      obtain ⟨fs1, fs2⟩ := (hf s (by simp)).2
      subst hA
      by_cases cm : f ≤ s.2
      · rw [if_pos cm]
        have O2 := O.set (P.length * 2 + 1) (.int .i64 (max s.2 t))
        have H : Hid (AddPost w B c (some ⟨g, 0, none⟩) (P ++ [(s.1, max s.2 t)]) (.returned (.slice (some ⟨g, 0, none⟩) (P.length + 1) c)) (w.setCell ⟨g, P.length * 2 + 1, none⟩ (.int .i64 (max s.2 t)))) := by
          refine ⟨some ⟨g, 0, none⟩, c, by simp, ?_, (Below.refl B w).setCell (p := ⟨g, P.length * 2 + 1, none⟩) hg1 _, (fun h => h), Fr.setCell (Fr.refl _ w) (p := ⟨g, P.length * 2 + 1, none⟩) (by rfl) _⟩
          unfold OwnP
          rw [show (P ++ [(s.1, max s.2 t)]).length = P.length + 1 from by simp]
          rw [hlen] at O2
          refine O2.congr fun j hj => ?_
          show (if j = P.length * 2 + 1 then _ else spf (P ++ [s]) j) = spf (P ++ [(s.1, max s.2 t)]) j
          by_cases d : j = P.length * 2 + 1
          · rw [if_pos d, d, spf_1, sg_app, if_neg (by omega), Nat.sub_self]; rfl
          · rw [if_neg d]
            unfold spf
            rw [sg_app, sg_app]
            by_cases d2 : j / 2 < P.length
            · rw [if_pos d2, if_pos d2]
            · rw [if_neg d2, if_neg d2, show j / 2 - P.length = 0 from by omega, if_pos (show j % 2 = 0 by omega), if_pos (show j % 2 = 0 by omega)]; rfl
        obtain ⟨m, em⟩ : ∃ m, m = P.length := ⟨_, rfl⟩
        obtain ⟨y, ey⟩ : ∃ y, y = s.2 := ⟨_, rfl⟩
        rw [← em, ← ey] at c1 H
        rw [← ey] at cm fs1 fs2
        rw [← em] at z1
        rw [hlen, ← em] at hl hle ⊢
        clear O hf hcells hfz O2 hlen
        rw [← ey]
        clear em ey
        go_enter Tryz.func129, Tryz.ntmps129
        go_wp2_with fail
        go_ret
        exact H.out
      · rw [if_neg cm]
        obtain ⟨A', c', w', run, O2, hb, hm, hfr⟩ := push_P w B O hB f t hl
        rw [hlen] at run
        have H : Hid (AddPost w B c (some ⟨g, 0, none⟩) (P ++ [s] ++ [(f, t)]) (.returned (.slice A' (P.length + 1 + 1) c')) w') := ⟨A', c', by simp, O2, hb, hm, hfr⟩
        have R := Lib.hid run
        obtain ⟨m, em⟩ : ∃ m, m = P.length := ⟨_, rfl⟩
        obtain ⟨y, ey⟩ : ∃ y, y = s.2 := ⟨_, rfl⟩
        rw [← em] at c1 H z1 R
        rw [← ey] at c1 cm fs1 fs2
        rw [hlen, ← em] at hl hle ⊢
        clear O hf hcells hfz O2 hlen em ey run hb hm hfr
        go_enter Tryz.func129, Tryz.ntmps129
        go_wp2_with (at_builtin; refine Hid.out ?_)
        refine Lib.hid (Lib.wpList_append_run _ rfl _ _ _ _ rfl _ _ rfl rfl _ _ (R.out _) ?_)
        go_wp2_with fail
        go_ret
        exact H.out
end Go.Proofs.YtfmfmeiaekknbaaGreat
end

section
/-
  Contracts of package spans, second: done, Has, Count, both, edge.
-/
namespace Go.Proofs.YtfmfmeiaekknbaaGreat
open Go.RowKit
set_option linter.unusedVariables false
set_option linter.unusedSimpArgs false

/-- What returns a set and an error. -/
def SPost (w : World) (R : Sp) (err : Int) (e : Ending) (w' : World) : Prop := ∃ A, e = .returned (.tuple #[.slice A R.length R.length, .int .i64 err]) ∧ SeesP w' w'.heap.size A R ∧ Below w.heap.size w w'
theorem seesP_nil (w : World) (B : Nat) : SeesP w B none [] := fun h => absurd h (by decide)
theorem SPost.none {w0 w : World} (hb : Below w0.heap.size w0 w) (x : Int) : SPost w0 [] x (.returned (.tuple #[.slice none 0 0, .int .i64 x])) w := ⟨Option.none, rfl, seesP_nil _ _, hb⟩
def dS (R : Sp) : Sp := if 4096 < R.length then [] else R
def dE (R : Sp) : Int := if 4096 < R.length then 3 else 0

theorem infoSp1 : (Tryz.prog.info? 168).map (·.size) = some 2 := by kernel_rfl
theorem clip_eq (A : Option Addr) (n c : Nat) (h : n ≤ c) : ∀ wx, (Instr.sliceAt 30 (.slice A n c) none (some (.int .i64 n)) (some (.int .i64 n))).run Tryz.prog wx = .ok (.slice A n n) wx := fun wx => by
  have := slice_of_bounds (P := Tryz.prog) Tryz.underlying30 infoSp1 A n c none (some (.int .i64 n)) (some (.int .i64 n)) (l := 0) (h := n) (m := n) (fun wx => by simp [Instr.sliceBounds, run_sliceBound, h]) wx
  rwa [subA_zero] at this
theorem clip_any (w : World) (A : Option Addr) (n c : Nat) (h : n ≤ c) : Calls Tryz.prog 155 #[.slice A n c] w fun e w' => e = .returned (.slice A n n) ∧ w = w' := by
  have hc := clip_eq A n c h
  go_enter Tryz.func155, Tryz.ntmps155
  go_wp2_with fail
  go_ret
  exact ⟨rfl, rfl⟩
theorem done_any (w0 w : World) (A : Option Addr) (c : Nat) (R : Sp) (hs : SeesP w w.heap.size A R) (hc : R.length ≤ c) (hl : R.length ≤ 1000000000) (hb : Below w0.heap.size w0 w) :
    Calls Tryz.prog 130 #[.slice A R.length c] w (SPost w0 (dS R) (dE R)) := by
  unfold dS dE
  by_cases h : 4096 < R.length
  · rw [if_pos h, if_pos h]
    have H := Lib.hid (SPost.none hb 3)
    obtain ⟨n, en⟩ : ∃ n, n = R.length := ⟨_, rfl⟩
    rw [← en] at h hl ⊢
    clear hs en hc
    go_enter Tryz.func130, Tryz.ntmps130
    go_wp2_with fail
    go_ret2
    exact H.out
  · rw [if_neg h, if_neg h]
    have H : Hid (SPost w0 R 0 (.returned (.tuple #[.slice A R.length R.length, .int .i64 0])) w) := ⟨A, rfl, hs, hb⟩
    obtain ⟨n, en⟩ : ∃ n, n = R.length := ⟨_, rfl⟩
    rw [← en] at h hl hc H ⊢
    have KC := Lib.hid (clip_any w A n c hc)
    clear hs en
    go_enter Tryz.func130, Tryz.ntmps130
    go_wp2_with fail
    refine (KC.out).mono ?_
    rintro e w' ⟨rfl, rfl⟩
    go_wp2_with fail
    go_ret2
    exact H.out

/-- A place is in one of the spans, told. -/
def anyS (L : Sp) (i : Int) : Bool := L.any fun s => decide (s.1 ≤ i) && decide (i < s.2)
theorem anyS_iff (L : Sp) (i : Int) : anyS L i = true ↔ memS L i := by
  unfold anyS memS
  rw [List.any_eq_true]
  simp
theorem anyS_nil (i : Int) : anyS [] i = false := rfl
theorem anyS_cons (s : Int × Int) (r : Sp) (i : Int) : anyS (s :: r) i = ((decide (s.1 ≤ i) && decide (i < s.2)) || anyS r i) := rfl

theorem pred_any (w : World) (p : Nat) (i x y : Int) (hp : w.cell? ⟨p, 0, none⟩ = some (.int .i64 i)) (hl : p < w.heap.size) :
    Calls Tryz.prog 138 #[.agg #[.int .i64 x, .int .i64 y], .pointer (some ⟨p, 0, none⟩)] w fun e w' => e = .returned (.bool (decide (x ≤ i) && decide (i < y))) ∧ Below w.heap.size w w' := by
  have HB : Hid (Below w.heap.size w (w.alloc (.cells #[.int .i64 x, .int .i64 y] 168))) := (Below.refl _ w).alloc (Nat.le_refl _) _
  by_cases h1 : x ≤ i
  · by_cases h2 : i < y
    · go_enter Tryz.func138, Tryz.ntmps138
      go_wp2_with fail
      go_ret
      exact ⟨by simp [h1, h2], HB.out⟩
    · go_enter Tryz.func138, Tryz.ntmps138
      go_wp2_with fail
      go_ret
      exact ⟨by simp [h1, h2], HB.out⟩
  · go_enter Tryz.func138, Tryz.ntmps138
    go_wp2_with fail
    go_ret
    exact ⟨by rw [decide_eq_false (show ¬ x ≤ i by omega)]; rfl, HB.out⟩
set_option maxRecDepth 100000 in
set_option maxHeartbeats 1600000 in
theorem index_any (w : World) (A : Option Addr) (c : Nat) (L : Sp) (p : Nat) (i : Int) (h : SeesP w w.heap.size A L) (hn : L.length ≤ 1000000000000000) (hp : w.cell? ⟨p, 0, none⟩ = some (.int .i64 i)) (hl : p < w.heap.size) :
    Calls Tryz.prog 159 #[.slice A L.length c, .func (.func 138) #[] #[.pointer (some ⟨p, 0, none⟩)]] w fun e w' => (∃ x : Int, e = .returned (.int .i64 x) ∧ (0 ≤ x ↔ anyS L i = true)) ∧ Below w.heap.size w w' := by
  have HS := Lib.hid h
  have HP := Lib.hid hp
  obtain ⟨n, en⟩ : ∃ n, n = L.length := ⟨_, rfl⟩
  have EN := Lib.hid en
  rw [← en] at hn ⊢
  clear h en hp
  go_enter Tryz.func159, Tryz.ntmps159
  go_wp2_with fail
  go_loopw [8] (fun a wr => ∃ k : Nat, k ≤ n ∧ a = .int .i64 k ∧ Hid (anyS (L.take k) i = false) ∧ Hid (Below w.heap.size w wr)) (fun a _ => n - (intOf a).toNat)
  case atStart => exact ⟨0, Nat.zero_le _, rfl, rfl, Below.refl _ _⟩
  case round =>
    obtain ⟨k, hk, rfl, hF, hD⟩ := hrel
    by_cases hlt : k < n
    · obtain ⟨b, o, rfl, hb, c0, c1⟩ := SeesP.cells (HS.out.below hD.out) (k := k) (by rw [← EN.out]; exact hlt)
      have hkL : k < L.length := by rw [← EN.out]; exact hlt
      have KP := Lib.hid (pred_any wr p i (sg L k).1 (sg L k).2 ((hD.out.cell (p := ⟨p, 0, none⟩) hl).trans HP.out) (Nat.lt_of_lt_of_le hl hD.out.size))
      have hT : L.take (k + 1) = L.take k ++ [sg L k] := by rw [sg_get L hkL, List.take_succ_eq_append_getElem hkL]
      have HT : Hid (anyS (L.take (k + 1)) i = (decide ((sg L k).1 ≤ i) && decide (i < (sg L k).2))) := by
        show anyS _ _ = _
        rw [hT]
        unfold anyS at *
        rw [List.any_append, hF.out]
        simp
      have HA : Hid ((decide ((sg L k).1 ≤ i) && decide (i < (sg L k).2)) = true → anyS L i = true) := fun h => by
        rw [← HT.out, anyS_iff] at h
        rw [anyS_iff]
        obtain ⟨s, hs, h1⟩ := h
        exact ⟨s, List.mem_of_mem_take hs, h1⟩
      obtain ⟨v, hv⟩ : ∃ v, v = (decide ((sg L k).1 ≤ i) && decide (i < (sg L k).2)) := ⟨_, rfl⟩
      rw [← hv] at KP HT HA
      clear hv hT hkL hF
      go_wp2_with fail
      refine (KP.out).mono ?_
      rintro e w1 ⟨rfl, hb1⟩
      have D1 := Lib.hid (hD.out.trans (hb1.mono hD.out.size))
      clear hb1 KP
      cases v with
      | true =>
        go_wp2_with fail
        go_ret
        exact ⟨⟨(k : Int), rfl, fun _ => HA.out (by first | rfl | trivial), fun _ => Int.natCast_nonneg k⟩, D1.out⟩
      | false =>
        go_wp2_with fail
        go_roundw
        case rel => exact ⟨k + 1, by omega, by go_num, HT, D1⟩
        case measure => simp [intOf]; omega
    · obtain rfl : k = n := by omega
      have e : anyS L i = false := by have := hF.out; rwa [List.take_of_length_le (by rw [← EN.out]; exact Nat.le_refl _)] at this
      go_wp2_with fail
      go_ret
      exact ⟨⟨-1, rfl, fun h => absurd h (by decide), fun h => by rw [e] at h; cases h⟩, hD.out⟩
theorem contains_any (w : World) (A : Option Addr) (c : Nat) (L : Sp) (p : Nat) (i : Int) (h : SeesP w w.heap.size A L) (hn : L.length ≤ 1000000000000000) (hp : w.cell? ⟨p, 0, none⟩ = some (.int .i64 i)) (hl : p < w.heap.size) :
    Calls Tryz.prog 137 #[.slice A L.length c, .func (.func 138) #[] #[.pointer (some ⟨p, 0, none⟩)]] w fun e w' => e = .returned (.bool (anyS L i)) ∧ Below w.heap.size w w' := by
  have K2 := Lib.hid (index_any w A c L p i h hn hp hl)
  obtain ⟨n, en⟩ : ∃ n, n = L.length := ⟨_, rfl⟩
  obtain ⟨v, ev⟩ : ∃ v, v = anyS L i := ⟨_, rfl⟩
  rw [← en, ← ev] at K2
  rw [← en, ← ev]
  clear h hn hp hl en ev
  go_enter Tryz.func137, Tryz.ntmps137
  go_wp2_with fail
  refine (K2.out).mono ?_
  rintro e w2 ⟨⟨y, rfl, hy⟩, hb⟩
  have B2 := Lib.hid hb
  clear hb K2
  have hv : v = decide (0 ≤ y) := by
    cases v with
    | false => exact (decide_eq_false fun h => by have := hy.1 h; cases this).symm
    | true => exact (decide_eq_true (hy.2 rfl)).symm
  subst hv
  clear hy
  go_wp2_with fail
  go_ret
  exact ⟨rfl, B2.out⟩
/-- The answer of Has. -/
def hasS (L : Sp) (i : Int) : Bool := decide (chkS L = 0) && anyS L i
set_option maxRecDepth 100000 in
set_option maxHeartbeats 1600000 in
theorem has_any (w : World) (B : Nat) (A : Option Addr) (c : Nat) (L : Sp) (i : Int) (h : SeesP w B A L) (hB : B ≤ w.heap.size) (hf : FitsS L) (hn : L.length ≤ 1000000000000000) :
    Calls Tryz.prog 88 #[.slice A L.length c, .int .i64 i] w fun e w' => e = .returned (.bool (hasS L i)) ∧ Below w.heap.size w w' := by
  have B0 : Hid (Below w.heap.size w (w.alloc (.cells #[.int .i64 i] 3))) := (Below.refl _ w).alloc (Nat.le_refl _) _
  have P0 : Hid ((w.alloc (.cells #[.int .i64 i] 3)).cell? ⟨w.heap.size, 0, none⟩ = some (.int .i64 i)) := (World.rowIs_alloc w #[.int .i64 i] _ (fun _ => .int .i64 i) (fun j hj => by
    have h0 : j = 0 := Nat.lt_one_iff.1 hj
    subst h0; rfl)).cell (i := 0) (by simp)
  have HS := Lib.hid (((h.more hB).below B0.out).more B0.out.size)
  have KC := Lib.hid (check_any _ _ A c L HS.out (Nat.le_refl _) hf hn)
  have KI : Hid (∀ W, Below (w.alloc (.cells #[.int .i64 i] 3)).heap.size (w.alloc (.cells #[.int .i64 i] 3)) W → _) := fun W (hW : Below (w.alloc (.cells #[.int .i64 i] 3)).heap.size (w.alloc (.cells #[.int .i64 i] 3)) W) =>
    contains_any W A c L w.heap.size i ((HS.out.below hW).more hW.size) hn ((hW.cell (p := ⟨w.heap.size, 0, none⟩) (by rw [World.size_alloc]; exact Nat.lt_succ_self _)).trans P0.out) (by have := hW.size; rw [World.size_alloc] at this; omega)
  have hh : hasS L i = (decide (chkS L = 0) && anyS L i) := rfl
  rw [hh]
  obtain ⟨n, en⟩ : ∃ n, n = L.length := ⟨_, rfl⟩
  obtain ⟨x, ex⟩ : ∃ x, x = chkS L := ⟨_, rfl⟩
  obtain ⟨v, ev⟩ : ∃ v, v = anyS L i := ⟨_, rfl⟩
  rw [← en] at KC KI hn ⊢
  rw [← ex] at KC ⊢
  rw [← ev] at KI ⊢
  clear h hf en ex ev hh
  by_cases x0 : x = 0
  · subst x0
    go_enter Tryz.func88, Tryz.ntmps88
    go_wp2_with fail
    refine (KC.out).mono ?_
    rintro e w1 ⟨rfl, hb⟩
    have K2 := Lib.hid (KI.out w1 hb)
    have B1 := Lib.hid (B0.out.trans (hb.mono B0.out.size))
    clear hb KI
    go_wp2_with fail
    refine (K2.out).mono ?_
    rintro e w2 ⟨rfl, hb⟩
    have B2 := Lib.hid (B1.out.trans (hb.mono B1.out.size))
    clear hb K2
    go_wp2_with fail
    go_ret
    exact ⟨by simp, B2.out⟩
  · have xb : (x == 0) = false := by rw [beq_eq_false_iff_ne]; exact x0
    have B1x : Hid (∀ w1, Below (w.alloc (.cells #[.int .i64 i] 3)).heap.size (w.alloc (.cells #[.int .i64 i] 3)) w1 → Below w.heap.size w w1) := fun w1 hb => B0.out.trans (hb.mono B0.out.size)
    clear KI
    go_enter Tryz.func88, Tryz.ntmps88
    go_wp2_with fail
    refine (KC.out).mono ?_
    rintro e w1 ⟨rfl, hb⟩
    have B1 := Lib.hid (B1x.out w1 hb)
    clear hb
    go_wp2_with fail
    go_ret
    exact ⟨by simp [x0], B1.out⟩

/-- How many places there are. -/
def cntS : Sp → Int
  | [] => 0
  | s :: r => s.2 - s.1 + cntS r
theorem NFfrom.cnt {lo : Int} {L : Sp} (h : NFfrom lo L) : 0 ≤ cntS L ∧ cntS L + lo ≤ endS lo L := by
  induction L generalizing lo with
  | nil => exact ⟨Int.le_refl _, by show 0 + lo ≤ lo; omega⟩
  | cons s r ih =>
    obtain ⟨h1, h2, h3, h4⟩ := h
    obtain ⟨q1, q2⟩ := ih h4
    show 0 ≤ s.2 - s.1 + cntS r ∧ s.2 - s.1 + cntS r + lo ≤ endS s.2 r
    omega
theorem NFfrom.drop {lo : Int} {L : Sp} (h : NFfrom lo L) (k : Nat) : ∃ lo', NFfrom lo' (L.drop k) := by
  have := h
  rw [← List.take_append_drop k L] at this
  exact ⟨_, (NFfrom.append.1 this).2⟩
def countS (L : Sp) : Int := if chkS L = 0 then cntS L else 0
set_option maxRecDepth 100000 in
set_option maxHeartbeats 1600000 in
theorem scount_any (w : World) (B : Nat) (A : Option Addr) (c : Nat) (L : Sp) (h : SeesP w B A L) (hB : B ≤ w.heap.size) (hf : FitsS L) (hn : L.length ≤ 1000000000000000) :
    Calls Tryz.prog 69 #[.slice A L.length c] w fun e w' => e = .returned (.int .i64 (countS L)) ∧ Below w.heap.size w w' := by
  have KC := Lib.hid (check_any w B A c L h hB hf hn)
  have HS := Lib.hid (h.more hB)
  unfold countS
  have hz := @chkS_zero L
  obtain ⟨n, en⟩ : ∃ n, n = L.length := ⟨_, rfl⟩
  have EN := Lib.hid en
  obtain ⟨x, ex⟩ : ∃ x, x = chkS L := ⟨_, rfl⟩
  rw [← ex] at hz KC ⊢
  rw [← en] at KC hn ⊢
  by_cases x0 : x = 0
  · rw [if_pos x0]
    have hN := (hz.1 x0).1
    have HN := Lib.hid hN
    obtain ⟨t, et⟩ : ∃ t, t = cntS L := ⟨_, rfl⟩
    have ht1 : t ≤ 1073741824 + 1 := by
      have h1 := (NFfrom.cnt hN).2
      have h2 := NFfrom.end_le hN (by omega)
      omega
    have ET : Hid (0 + cntS (L.drop 0) = t) := by rw [et]; show 0 + cntS L = cntS L; omega
    rw [← et]
    subst x0
    clear h hf hz en ex hN et
    go_enter Tryz.func69, Tryz.ntmps69
    go_wp2_with fail
    refine (KC.out).mono ?_
    rintro e w1 ⟨rfl, hb⟩
    have D1 := Lib.hid hb
    clear hb KC
    go_wp2_with fail
    go_loopw [3, 11] (fun a i wr => ∃ (k : Nat) (m : Int), k ≤ n ∧ i = .int .i64 k ∧ a = .int .i64 m ∧ Hid (m + cntS (L.drop k) = t) ∧ 0 ≤ m ∧ Hid (Below w.heap.size w wr)) (fun _ i _ => n - (intOf i).toNat)
    case atStart => exact ⟨0, 0, Nat.zero_le _, rfl, rfl, ET, Int.le_refl _, D1⟩
    case round =>
      obtain ⟨k, m, hk, rfl, rfl, hC, hm0, hD⟩ := hrel
      clear D1
      by_cases hlt : k < n
      · obtain ⟨b, o, rfl, hb, c0, c1⟩ := SeesP.cells (HS.out.below hD.out) (k := k) (by rw [← EN.out]; exact hlt)
        have hkL : k < L.length := by rw [← EN.out]; exact hlt
        obtain ⟨m1, m2, m3, m4⟩ := NFfrom.mem HN.out _ (sg_mem L hkL)
        have hd : L.drop k = sg L k :: L.drop (k + 1) := by rw [sg_get L hkL]; exact List.drop_eq_getElem_cons hkL
        have hC' := hC.out
        rw [hd] at hC'
        obtain ⟨lo', hdn⟩ := NFfrom.drop HN.out (k + 1)
        have hpos := hdn.cnt.1
        have HC : Hid (m + ((sg L k).2 - (sg L k).1 + cntS (L.drop (k + 1))) = t) := hC'
        obtain ⟨x, hx⟩ : ∃ x, x = (sg L k).1 := ⟨_, rfl⟩
        obtain ⟨y, hy⟩ : ∃ y, y = (sg L k).2 := ⟨_, rfl⟩
        rw [← hx] at c0 HC m1 m2
        rw [← hy] at c1 HC m2 m4
        have hsum : m + (y - x) ≤ 1073741825 := by have := HC.out; omega
        have D2 : Hid (Below w.heap.size w (wr.alloc (.cells #[.int .i64 x, .int .i64 y] 168))) := hD.out.alloc hD.out.size _
        clear hx hy hd hC hC' hkL m3 hdn hpos hb
        go_wp2_with fail
        go_roundw
        case rel => exact ⟨k + 1, m + (y - x), by omega, by go_num, rfl, by show _ = _; have := HC.out; omega, by omega, D2⟩
        case measure => simp [intOf]; omega
      · obtain rfl : k = n := by omega
        have e : m = t := by
          have := hC.out
          rw [List.drop_of_length_le (by rw [← EN.out]; exact Nat.le_refl _)] at this
          rw [← this]; show m = m + 0; omega
        subst e
        go_wp2_with fail
        go_ret
        exact ⟨rfl, hD.out⟩
  · rw [if_neg x0]
    have xb : (x == 0) = false := by rw [beq_eq_false_iff_ne]; exact x0
    clear h hf hz en ex
    go_enter Tryz.func69, Tryz.ntmps69
    go_wp2_with fail
    refine (KC.out).mono ?_
    rintro e w1 ⟨rfl, hb⟩
    have D1 := Lib.hid hb
    clear hb KC
    go_wp2_with fail
    go_ret
    exact ⟨rfl, D1.out⟩
end Go.Proofs.YtfmfmeiaekknbaaGreat
end

section
/-
  Contracts of package spans, third: both, edge, the three questions, merged.
-/
namespace Go.Proofs.YtfmfmeiaekknbaaGreat
open Go.RowKit
set_option linter.unusedVariables false
set_option linter.unusedSimpArgs false

theorem both_any (w : World) (A A2 : Option Addr) (c c2 B B2 : Nat) (L M : Sp) (h : SeesP w B A L) (h2 : SeesP w B2 A2 M) (hB : B ≤ w.heap.size) (hB2 : B2 ≤ w.heap.size) (hf : FitsS L) (hf2 : FitsS M) (hn : L.length ≤ 1000000000000000) (hn2 : M.length ≤ 1000000000000000) :
    Calls Tryz.prog 174 #[.slice A L.length c, .slice A2 M.length c2] w fun e w' => e = .returned (.int .i64 (if chkS L = 0 then chkS M else chkS L)) ∧ Below w.heap.size w w' := by
  have K1 := Lib.hid (check_any w B A c L h hB hf hn)
  have K2 : Hid (∀ W, Below w.heap.size w W → _) := fun W (hW : Below w.heap.size w W) => check_any W B2 A2 c2 M (h2.below (hW.mono hB2)) (by have := hW.size; omega) hf2 hn2
  obtain ⟨n, en⟩ : ∃ n, n = L.length := ⟨_, rfl⟩
  obtain ⟨m, em⟩ : ∃ n, n = M.length := ⟨_, rfl⟩
  obtain ⟨x, ex⟩ : ∃ n, n = chkS L := ⟨_, rfl⟩
  obtain ⟨y, ey⟩ : ∃ n, n = chkS M := ⟨_, rfl⟩
  rw [← en, ← ex] at K1
  rw [← em, ← ey] at K2
  rw [← en, ← em, ← ex, ← ey]
  clear h h2 hf hf2 en em ex ey hn hn2
  by_cases x0 : x = 0
  · rw [if_pos x0]
    subst x0
    go_enter Tryz.func174, Tryz.ntmps174
    go_wp2_with fail
    refine (K1.out).mono ?_
    rintro e w1 ⟨rfl, hb⟩
    have K3 := Lib.hid (K2.out w1 hb)
    have B1 := Lib.hid hb
    clear hb K1 K2
    go_wp2_with fail
    refine (K3.out).mono ?_
    rintro e w2 ⟨rfl, hb⟩
    have B2 := Lib.hid (B1.out.trans (hb.mono B1.out.size))
    clear hb
    go_wp2_with fail
    go_ret
    exact ⟨rfl, B2.out⟩
  · rw [if_neg x0]
    have xb : (x != 0) = true := by rw [bne_iff_ne]; exact x0
    clear K2
    go_enter Tryz.func174, Tryz.ntmps174
    go_wp2_with fail
    refine (K1.out).mono ?_
    rintro e w1 ⟨rfl, hb⟩
    have B1 := Lib.hid hb
    clear hb K1
    go_wp2_with fail
    go_ret
    exact ⟨rfl, B1.out⟩
/-- The next edge of a span. -/
def edgeS (x y at_ : Int) : Int := if at_ < x then x else y
theorem edge_any (w : World) (x y a : Int) : Calls Tryz.prog 175 #[.agg #[.int .i64 x, .int .i64 y], .int .i64 a] w fun e w' => e = .returned (.int .i64 (edgeS x y a)) ∧ Below w.heap.size w w' := by
  have HB : Hid (Below w.heap.size w (w.alloc (.cells #[.int .i64 x, .int .i64 y] 168))) := (Below.refl _ w).alloc (Nat.le_refl _) _
  by_cases h1 : a < x
  · go_enter Tryz.func175, Tryz.ntmps175
    go_wp2_with fail
    go_ret
    exact ⟨by unfold edgeS; rw [if_pos h1]; rfl, HB.out⟩
  · go_enter Tryz.func175, Tryz.ntmps175
    go_wp2_with fail
    go_ret
    exact ⟨by unfold edgeS; rw [if_neg (by omega)]; rfl, HB.out⟩

theorem or_any (w : World) (x y : Bool) : Calls Tryz.prog 163 #[.bool x, .bool y] w fun e w' => e = .returned (.bool (x || y)) ∧ w = w' := by
  cases x <;> cases y <;> (
    go_enter Tryz.func163, Tryz.ntmps163
    go_wp2_with fail
    go_ret
    exact ⟨rfl, rfl⟩)
theorem not_any (w : World) (x y : Bool) : Calls Tryz.prog 162 #[.bool x, .bool y] w fun e w' => e = .returned (.bool (x && !y)) ∧ w = w' := by
  cases x <;> cases y <;> (
    go_enter Tryz.func162, Tryz.ntmps162
    go_wp2_with fail
    go_ret
    exact ⟨rfl, rfl⟩)

/-! ### Plain -/
theorem anyS_append (A B : Sp) (i : Int) : anyS (A ++ B) i = (anyS A i || anyS B i) := by unfold anyS; exact List.any_append
theorem anyS_past {L : Sp} {a j : Int} (h : ∀ s ∈ L, s.2 ≤ a) (hj : a ≤ j) : anyS L j = false := by
  cases e : anyS L j with
  | false => rfl
  | true =>
    obtain ⟨s, hs, h1, h2⟩ := (anyS_iff L j).1 e
    have := h s hs; omega
/-- What lies ahead: a set whose first k spans are past, at a place a that the next one is not past. -/
theorem anyS_next {L : Sp} (hN : NF L) {k : Nat} (hk : k < L.length) {a j : Int} (hp : ∀ s ∈ L.take k, s.2 ≤ a) (hx : a < (sg L k).2) (h1 : a ≤ j) (h2 : j < edgeS (sg L k).1 (sg L k).2 a) : anyS L j = decide ((sg L k).1 ≤ a) := by
  have e : L = L.take k ++ (sg L k :: L.drop (k + 1)) := by rw [sg_get L hk, ← List.drop_eq_getElem_cons hk, List.take_append_drop]
  have hN' := hN
  unfold NF at hN'
  rw [e] at hN'
  have q := (NFfrom.append.1 hN').2
  obtain ⟨q1, q2, q3, q4⟩ := q
  rw [e, anyS_append, anyS_past hp h1, anyS_cons, Bool.false_or]
  have ht : anyS (L.drop (k + 1)) j = false := by
    cases e : anyS (L.drop (k + 1)) j with
    | false => rfl
    | true =>
      have := (q4.mem_gt ((anyS_iff _ _).1 e)).1
      unfold edgeS at h2
      split at h2 <;> omega
  rw [ht, Bool.or_false]
  rw [← e]
  unfold edgeS at h2
  by_cases c : a < (sg L k).1
  · rw [if_pos c] at h2
    rw [decide_eq_false (show ¬ (sg L k).1 ≤ j by omega), decide_eq_false (show ¬ (sg L k).1 ≤ a by omega)]; rfl
  · rw [if_neg c] at h2
    rw [decide_eq_true (show (sg L k).1 ≤ j by omega), decide_eq_true (show (sg L k).1 ≤ a by omega), decide_eq_true (show j < (sg L k).2 by omega)]; rfl
theorem edgeS_gt {x y a : Int} (h : a < y) : a < edgeS x y a := by unfold edgeS; split <;> omega
theorem edgeS_le {x y a : Int} (h : x < y) (hy : y ≤ 1073741824) : edgeS x y a ≤ 1073741824 := by unfold edgeS; split <;> omega
theorem take_past {L : Sp} {k : Nat} (hk : k < L.length) {a : Int} (hp : ∀ s ∈ L.take k, s.2 ≤ a) (h : (sg L k).2 ≤ a) : ∀ s ∈ L.take (k + 1), s.2 ≤ a := by
  intro s hs
  rw [List.take_succ_eq_append_getElem hk] at hs
  rcases List.mem_append.1 hs with h1 | h1
  · exact hp s h1
  · rw [← sg_get L hk] at h1
    rcases List.mem_cons.1 h1 with rfl | h1
    · exact h
    · cases h1
/-- What has been merged up to a place. -/
structure Mg (kp : Bool → Bool → Bool) (L M : Sp) (O : Sp) (a : Int) : Prop where
  nf : NF O
  en : endS (-1) O ≤ a
  a0 : 0 ≤ a
  a1 : a ≤ 1073741824
  me : ∀ i, memS O i ↔ i < a ∧ kp (anyS L i) (anyS M i) = true
theorem Mg.skip {kp : Bool → Bool → Bool} {L M O : Sp} {a b : Int} (h : Mg kp L M O a) (hab : a ≤ b) (hb : b ≤ 1073741824) (hk : ∀ j, a ≤ j → j < b → kp (anyS L j) (anyS M j) = false) : Mg kp L M O b :=
  ⟨h.nf, by have := h.en; omega, by have := h.a0; omega, hb, fun i => by
    rw [h.me]
    constructor
    · rintro ⟨h1, h2⟩; exact ⟨by omega, h2⟩
    · rintro ⟨h1, h2⟩
      refine ⟨?_, h2⟩
      rcases (show i < a ∨ a ≤ i by omega) with c | c
      · exact c
      · rw [hk i c h1] at h2; cases h2⟩
theorem Mg.take {kp : Bool → Bool → Bool} {L M O : Sp} {a b : Int} (h : Mg kp L M O a) (hab : a < b) (hb : b ≤ 1073741824) (hk : ∀ j, a ≤ j → j < b → kp (anyS L j) (anyS M j) = true) : Mg kp L M (addS O a b) b := by
  obtain ⟨h1, h2, h3⟩ := addS_spec h.nf h.en h.a0 hab hb
  refine ⟨h1, by rw [h2]; exact Int.le_refl _, by have := h.a0; omega, hb, fun i => ?_⟩
  rw [h3, h.me]
  constructor
  · rintro (⟨q1, q2⟩ | ⟨q1, q2⟩)
    · exact ⟨by omega, q2⟩
    · exact ⟨q2, hk i q1 q2⟩
  · rintro ⟨q1, q2⟩
    rcases (show i < a ∨ a ≤ i by omega) with c | c
    · exact .inl ⟨c, q2⟩
    · exact .inr ⟨c, q1⟩
theorem Mg.len {kp : Bool → Bool → Bool} {L M O : Sp} {a : Int} (h : Mg kp L M O a) : O.length ≤ 536870912 := NF.len h.nf
theorem anyS_neg {L : Sp} (h : NF L) {i : Int} (hi : i < 0) : anyS L i = false := by
  cases e : anyS L i with
  | false => rfl
  | true => have := (NFfrom.mem_gt h ((anyS_iff _ _).1 e)).1; omega
theorem Mg.start {kp : Bool → Bool → Bool} {L M : Sp} (hL : NF L) (hM : NF M) (h0 : kp false false = false) : Mg kp L M [] 0 :=
  ⟨trivial, by decide, Int.le_refl _, by decide, fun i => by
    constructor
    · intro h; exact absurd h (memS_nil i)
    · rintro ⟨h1, h2⟩
      rw [anyS_neg hL h1, anyS_neg hM h1, h0] at h2; cases h2⟩
/-- The set that is merged. -/
structure Merged (kp : Bool → Bool → Bool) (L M : Sp) (R : Sp) : Prop where
  nf : NF R
  me : ∀ i, memS R i ↔ kp (anyS L i) (anyS M i) = true
theorem Mg.stop {kp : Bool → Bool → Bool} {L M O : Sp} {a : Int} (h : Mg kp L M O a) (hL : ∀ s ∈ L, s.2 ≤ a) (hM : ∀ s ∈ M, s.2 ≤ a) (h0 : kp false false = false) : Merged kp L M O :=
  ⟨h.nf, fun i => by
    rw [h.me]
    constructor
    · exact fun h => h.2
    · intro h2
      refine ⟨?_, h2⟩
      rcases (show i < a ∨ a ≤ i by omega) with c | c
      · exact c
      · rw [anyS_past hL c, anyS_past hM c, h0] at h2; cases h2⟩
end Go.Proofs.YtfmfmeiaekknbaaGreat
end

section
/-
  Contracts of package spans, fourth: merged.
-/
namespace Go.Proofs.YtfmfmeiaekknbaaGreat
open Go.RowKit
set_option linter.unusedVariables false
set_option linter.unusedSimpArgs false

theorem merged_bad (w : World) (A A2 : Option Addr) (c c2 B B2 : Nat) (L M : Sp) (f : Nat) (h : SeesP w B A L) (h2 : SeesP w B2 A2 M) (hB : B ≤ w.heap.size) (hB2 : B2 ≤ w.heap.size) (hf : FitsS L) (hf2 : FitsS M) (hn : L.length ≤ 1000000000000000) (hn2 : M.length ≤ 1000000000000000) (x : Int) (hx : x = if chkS L = 0 then chkS M else chkS L) (hx0 : x ≠ 0) :
    Calls Tryz.prog 161 #[.slice A L.length c, .slice A2 M.length c2, .func (.func f) #[] #[]] w (SPost w [] x) := by
  have K1 := Lib.hid (both_any w A A2 c c2 B B2 L M h h2 hB hB2 hf hf2 hn hn2)
  rw [← hx] at K1
  have xb : (x != 0) = true := by rw [bne_iff_ne]; exact hx0
  obtain ⟨n, en⟩ : ∃ n, n = L.length := ⟨_, rfl⟩
  obtain ⟨m, em⟩ : ∃ n, n = M.length := ⟨_, rfl⟩
  rw [← en, ← em] at K1
  rw [← en, ← em]
  clear h h2 hf hf2 en em hx hn hn2
  go_enter Tryz.func161, Tryz.ntmps161
  go_wp2_with fail
  go_step3
  go_wp2_with fail
  refine (K1.out).mono ?_
  rintro e w1 ⟨rfl, hb⟩
  have H := Lib.hid (SPost.none hb x)
  clear hb K1
  go_wp2_with fail
  rw [Exit.noGoto_ret]
  go_ret2
  exact H.out


set_option maxRecDepth 100000 in
set_option maxHeartbeats 12800000 in
theorem union_ok (w : World) (A A2 : Option Addr) (c c2 B B2 : Nat) (L M : Sp) (h : SeesP w B A L) (h2 : SeesP w B2 A2 M) (hB : B ≤ w.heap.size) (hB2 : B2 ≤ w.heap.size) (hL : chkS L = 0) (hM : chkS M = 0) :
    Calls Tryz.prog 161 #[.slice A L.length c, .slice A2 M.length c2, .func (.func 163) #[] #[]] w fun e w' => ∃ R, Merged (fun x y => x || y) L M R ∧ SPost w (dS R) (dE R) e w' := by
  have hk0 : (fun x y => x || y) false false = false := rfl
  obtain ⟨kp, ekp⟩ : ∃ kp : Bool → Bool → Bool, kp = (fun x y => x || y) := ⟨_, rfl⟩
  have K0 : ∀ W x y, Calls Tryz.prog 163 #[.bool x, .bool y] W fun e w' => e = .returned (.bool (kp x y)) ∧ W = w' := by rw [ekp]; exact or_any
  rw [← ekp] at hk0 ⊢
  clear ekp
  have K := Lib.hid K0
  have HK0 := Lib.hid hk0
  obtain ⟨nfL, lL⟩ := chkS_zero.1 hL
  obtain ⟨nfM, lM⟩ := chkS_zero.1 hM
  have K1 := Lib.hid (both_any w A A2 c c2 B B2 L M h h2 hB hB2 (NF.fits nfL) (NF.fits nfM) (by omega) (by omega))
  rw [if_pos hL, hM] at K1
  have HS := Lib.hid (h.more hB)
  have HS2 := Lib.hid (h2.more hB2)
  have NL := Lib.hid nfL
  have NM := Lib.hid nfM
  have G0 : Hid (Mg kp L M [] 0) := Mg.start nfL nfM hk0
  obtain ⟨n, en⟩ : ∃ n, n = L.length := ⟨_, rfl⟩
  obtain ⟨m, em⟩ : ∃ n, n = M.length := ⟨_, rfl⟩
  have EN := Lib.hid en
  have EM := Lib.hid em
  rw [← en] at K1 lL
  rw [← em] at K1 lM
  rw [← en, ← em]
  clear h h2 hL hM nfL nfM K0 en em hk0
  go_enter Tryz.func161, Tryz.ntmps161
  go_wp2_with fail
  go_step3
  go_wp2_with fail
  refine (K1.out).mono ?_
  rintro e w1 ⟨rfl, hb⟩
  have D1 := Lib.hid hb
  clear hb K1
  go_wp2_with fail
  go_step3
  go_wp2_with fail
  go_loopw [9, 10, 11, 12] (fun o a i j wr => ∃ (I J : Nat) (O : Sp) (at_ : Int) (Ao : Option Addr) (co : Nat), I ≤ n ∧ J ≤ m ∧ o = .slice Ao O.length co ∧ a = .int .i64 at_ ∧ i = .int .i64 I ∧ j = .int .i64 J ∧ Hid (OwnP wr w.heap.size Ao co O) ∧ Hid (Mg kp L M O at_) ∧ Hid (∀ s ∈ L.take I, s.2 ≤ at_) ∧ Hid (∀ s ∈ M.take J, s.2 ≤ at_) ∧ Hid (Below w.heap.size w wr)) (fun _ a _ _ _ => (1073741824 - (intOf a)).toNat)
  case atStart => exact ⟨0, 0, [], 0, none, 0, Nat.zero_le _, Nat.zero_le _, rfl, rfl, rfl, rfl, Own.nil _ _ _ _ _, G0, (fun s hs => absurd hs (by simp)), (fun s hs => absurd hs (by simp)), D1⟩
  case round =>
    obtain ⟨I, J, O, at_, Ao, co, hI, hJ, rfl, rfl, rfl, rfl, hO, hG, hp0, hq0, hD⟩ := hrel
    clear D1 G0
    have b0 := hG.out.a0
    have b1 := hG.out.a1
    obtain ⟨nO, enO⟩ : ∃ nO, nO = O.length := ⟨_, rfl⟩
    have ENO := Lib.hid enO
    rw [← enO]
    clear enO
    go_wp2_with fail
    go_loopw [11] (fun i wr => ∃ I2 : Nat, I2 ≤ n ∧ i = .int .i64 I2 ∧ Hid (∀ s ∈ L.take I2, s.2 ≤ at_) ∧ Hid (OwnP wr w.heap.size Ao co O) ∧ Hid (Below w.heap.size w wr)) (fun i _ => n - (intOf i).toNat)
    case atStart => exact ⟨I, hI, rfl, hp0, hO, hD⟩
    case round =>
      obtain ⟨I2, hI2, rfl, hp, hO2, hD2⟩ := hrel
      clear hO hD hp0
      by_cases hlt : I2 < n
      · obtain ⟨b, o, rfl, hb0, c0, c1⟩ := SeesP.cells (HS.out.below hD2.out) (k := I2) (by rw [← EN.out]; exact hlt)
        obtain ⟨_, nf1, _, nf2⟩ := NFfrom.mem NL.out _ (sg_mem L (show I2 < L.length by rw [← EN.out]; exact hlt))
        by_cases hle : (sg L I2).2 ≤ at_
        · have hp' := Lib.hid (take_past (show I2 < L.length by rw [← EN.out]; exact hlt) hp.out hle)
          obtain ⟨y, hy⟩ : ∃ y, y = (sg L I2).2 := ⟨_, rfl⟩
          rw [← hy] at c1 hle
          clear c0 nf1 nf2 hy
          go_wp2_with fail
          go_roundw
          case rel => exact ⟨I2 + 1, by omega, by go_num, hp', hO2, hD2⟩
          case measure => simp [intOf]; omega
        · have HA : Hid (∀ j, at_ ≤ j → j < edgeS (sg L I2).1 (sg L I2).2 at_ → anyS L j = decide ((sg L I2).1 ≤ at_)) := fun j h1 h2 => anyS_next NL.out (show I2 < L.length by rw [← EN.out]; exact hlt) hp.out (by omega) h1 h2
          obtain ⟨x, hx⟩ : ∃ x, x = (sg L I2).1 := ⟨_, rfl⟩
          obtain ⟨y, hy⟩ : ∃ y, y = (sg L I2).2 := ⟨_, rfl⟩
          rw [← hx, ← hy] at HA
          rw [← hx] at c0
          rw [← hy] at c1 hle
          rw [← hx, ← hy] at nf1
          rw [← hy] at nf2
          have HX := Lib.hid hx
          have HY := Lib.hid hy
          clear hx hy
          go_wp2_with fail
          clear c0 c1
          go_loopw [12] (fun i wr => ∃ J2 : Nat, J2 ≤ m ∧ i = .int .i64 J2 ∧ Hid (∀ s ∈ M.take J2, s.2 ≤ at_) ∧ Hid (OwnP wr w.heap.size Ao co O) ∧ Hid (Below w.heap.size w wr)) (fun i _ => m - (intOf i).toNat)
          case atStart => exact ⟨J, hJ, rfl, hq0, hO2, hD2⟩
          case round =>
            obtain ⟨J2, hJ2, rfl, hq, hO3, hD3⟩ := hrel
            clear hO2 hD2 hq0
            by_cases hlt2 : J2 < m
            · obtain ⟨b', o', rfl, hb1, e0, e1⟩ := SeesP.cells (HS2.out.below hD3.out) (k := J2) (by rw [← EM.out]; exact hlt2)
              obtain ⟨_, mf1, _, mf2⟩ := NFfrom.mem NM.out _ (sg_mem M (show J2 < M.length by rw [← EM.out]; exact hlt2))
              by_cases hle2 : (sg M J2).2 ≤ at_
              · have hq' := Lib.hid (take_past (show J2 < M.length by rw [← EM.out]; exact hlt2) hq.out hle2)
                obtain ⟨y2, hy2⟩ : ∃ y, y = (sg M J2).2 := ⟨_, rfl⟩
                rw [← hy2] at e1 hle2
                clear e0 mf1 mf2 hy2
                go_wp2_with fail
                go_roundw
                case rel => exact ⟨J2 + 1, by omega, by go_num, hq', hO3, hD3⟩
                case measure => simp [intOf]; omega
              · have HB2 : Hid (∀ j, at_ ≤ j → j < edgeS (sg M J2).1 (sg M J2).2 at_ → anyS M j = decide ((sg M J2).1 ≤ at_)) := fun j h1 h2 => anyS_next NM.out (show J2 < M.length by rw [← EM.out]; exact hlt2) hq.out (by omega) h1 h2
                obtain ⟨x2, hx2⟩ : ∃ x, x = (sg M J2).1 := ⟨_, rfl⟩
                obtain ⟨y2, hy2⟩ : ∃ y, y = (sg M J2).2 := ⟨_, rfl⟩
                rw [← hx2, ← hy2] at HB2
                rw [← hx2] at e0
                rw [← hy2] at e1 hle2 mf2
                rw [← hx2, ← hy2] at mf1
                have HX2 := Lib.hid hx2
                have HY2 := Lib.hid hy2
                clear hx2 hy2
                have jb : ((J2 : Int) == (m : Int)) = false := by rw [beq_eq_false_iff_ne]; omega
                obtain ⟨b3, o3, h3, _, c0, c1⟩ := SeesP.cells (HS.out.below hD3.out) (k := I2) (by rw [← EN.out]; exact hlt)
                cases h3
                rw [← HX.out] at c0
                rw [← HY.out] at c1
                go_wp2_with fail
                obtain ⟨v1, hv1⟩ : ∃ v, v = edgeS x y at_ := ⟨_, rfl⟩
                have g1 : at_ < v1 := by rw [hv1]; exact edgeS_gt (by omega)
                have g2 : v1 ≤ 1073741824 := by rw [hv1]; exact edgeS_le nf1 nf2
                have KE := Lib.hid (edge_any wr x y at_)
                rw [← hv1] at KE HA
                clear hv1
                refine (KE.out).mono ?_
                rintro e wa ⟨rfl, hb⟩
                have hDa := Lib.hid (hD3.out.trans (hb.mono hD3.out.size))
                have hOa := Lib.hid (hO3.out.below hb)
                clear hb KE
                obtain ⟨b4, o4, h4, _, e0, e1⟩ := SeesP.cells (HS2.out.below hDa.out) (k := J2) (by rw [← EM.out]; exact hlt2)
                cases h4
                rw [← HX2.out] at e0
                rw [← HY2.out] at e1
                go_wp2_with fail
                obtain ⟨v2, hv2⟩ : ∃ v, v = edgeS x2 y2 at_ := ⟨_, rfl⟩
                have g3 : at_ < v2 := by rw [hv2]; exact edgeS_gt (by omega)
                have g4 : v2 ≤ 1073741824 := by rw [hv2]; exact edgeS_le mf1 mf2
                have KE := Lib.hid (edge_any wa x2 y2 at_)
                rw [← hv2] at KE HB2
                clear hv2
                refine (KE.out).mono ?_
                rintro e wz ⟨rfl, hb⟩
                have hDz := Lib.hid (hDa.out.trans (hb.mono hDa.out.size))
                have hOz := Lib.hid (hOa.out.below hb)
                have hcon : Hid (∀ j, at_ ≤ j → j < min 1073741824 (min v1 v2) → kp (anyS L j) (anyS M j) = kp (decide (x ≤ at_)) (decide (x2 ≤ at_))) := fun j h1 h2 => by rw [HA.out j h1 (by omega), HB2.out j h1 (by omega)]
                have ib0 : ((I2 : Int) == (n : Int)) = false := by rw [beq_eq_false_iff_ne]; omega
                clear hb KE hOa hDa
                go_wp2_with fail
                have KK := Lib.hid (K.out wz (decide (x ≤ at_)) (decide (x2 ≤ at_)))
                have KA := Lib.hid (sadd_any wz w.heap.size Ao co O at_ (min 1073741824 (min v1 v2)) hOz.out hDz.out.size (by have := hG.out.len; omega) ⟨by omega, by omega⟩ ⟨by omega, by omega⟩ (NF.fits hG.out.nf))
                by_cases hv : kp (decide (x ≤ at_)) (decide (x2 ≤ at_)) = true
                · have G2 := Lib.hid (hG.out.take (b := min 1073741824 (min v1 v2)) (by omega) (by omega) (fun j h1 h2 => by rw [hcon.out j h1 h2]; exact hv))
                  rw [hv] at KK
                  obtain ⟨O2, eO2⟩ : ∃ O2, O2 = addS O at_ (min 1073741824 (min v1 v2)) := ⟨_, rfl⟩
                  rw [← eO2] at G2 KA
                  rw [← ENO.out] at KA
                  clear eO2 hG hv hcon
                  refine (KK.out).mono ?_
                  rintro e w' ⟨rfl, rfl⟩
                  go_wp2_with fail
                  refine (KA.out).mono ?_
                  rintro e w5 ⟨A5, c5, rfl, O5, hb, _⟩
                  have D5 := Lib.hid (hDz.out.trans hb)
                  have P5 := Lib.hid O5
                  clear hb O5 KA KK
                  go_wp2_with fail
                  go_roundw
                  case rel => exact ⟨I2, J2, O2, min 1073741824 (min v1 v2), A5, c5, hI2, hJ2, rfl, rfl, rfl, rfl, P5, G2, (fun s hs => by have := hp.out s hs; omega), (fun s hs => by have := hq.out s hs; omega), D5⟩
                  case measure => simp [intOf]; omega
                · have hv' : kp (decide (x ≤ at_)) (decide (x2 ≤ at_)) = false := (by cases e : kp (decide (x ≤ at_)) (decide (x2 ≤ at_)) with | true => exact absurd e hv | false => rfl)
                  have G2 := Lib.hid (hG.out.skip (b := min 1073741824 (min v1 v2)) (by omega) (by omega) (fun j h1 h2 => by rw [hcon.out j h1 h2]; exact hv'))
                  rw [hv'] at KK
                  clear hG hv hv' hcon KA
                  refine (KK.out).mono ?_
                  rintro e w' ⟨rfl, rfl⟩
                  go_wp2_with fail
                  go_roundw
                  case rel => exact ⟨I2, J2, O, min 1073741824 (min v1 v2), Ao, co, hI2, hJ2, by rw [ENO.out], rfl, rfl, rfl, hOz, G2, (fun s hs => by have := hp.out s hs; omega), (fun s hs => by have := hq.out s hs; omega), hDz⟩
                  case measure => simp [intOf]; omega
            · obtain rfl : J2 = m := by omega
              obtain ⟨b3, o3, h3, _, c0, c1⟩ := SeesP.cells (HS.out.below hD3.out) (k := I2) (by rw [← EN.out]; exact hlt)
              cases h3
              rw [← HX.out] at c0
              rw [← HY.out] at c1
              go_wp2_with fail
              obtain ⟨v1, hv1⟩ : ∃ v, v = edgeS x y at_ := ⟨_, rfl⟩
              have g1 : at_ < v1 := by rw [hv1]; exact edgeS_gt (by omega)
              have g2 : v1 ≤ 1073741824 := by rw [hv1]; exact edgeS_le nf1 nf2
              have KE := Lib.hid (edge_any wr x y at_)
              rw [← hv1] at KE HA
              clear hv1
              refine (KE.out).mono ?_
              rintro e wa ⟨rfl, hb⟩
              have hDa := Lib.hid (hD3.out.trans (hb.mono hD3.out.size))
              have hOa := Lib.hid (hO3.out.below hb)
              clear hb KE
              have ib0 : ((I2 : Int) == (n : Int)) = false := by rw [beq_eq_false_iff_ne]; omega
              have HM0 : Hid (∀ j, at_ ≤ j → anyS M j = false) := fun j h1 => anyS_past (fun s hs => hq.out s (by rw [List.take_of_length_le (by rw [← EM.out]; exact Nat.le_refl _)]; exact hs)) h1
              have hcon : Hid (∀ j, at_ ≤ j → j < min 1073741824 v1 → kp (anyS L j) (anyS M j) = kp (decide (x ≤ at_)) false) := fun j h1 h2 => by rw [HA.out j h1 (by omega), HM0.out j h1]
              obtain ⟨wz, ewz⟩ : ∃ wz, wz = wa := ⟨_, rfl⟩
              have hDz : Hid (Below w.heap.size w wz) := by rw [ewz]; exact hDa.out
              have hOz : Hid (OwnP wz w.heap.size Ao co O) := by rw [ewz]; exact hOa.out
              clear hDa hOa
              subst ewz
              go_wp2_with fail
              have KK := Lib.hid (K.out wz (decide (x ≤ at_)) (false))
              have KA := Lib.hid (sadd_any wz w.heap.size Ao co O at_ (min 1073741824 v1) hOz.out hDz.out.size (by have := hG.out.len; omega) ⟨by omega, by omega⟩ ⟨by omega, by omega⟩ (NF.fits hG.out.nf))
              by_cases hv : kp (decide (x ≤ at_)) (false) = true
              · have G2 := Lib.hid (hG.out.take (b := min 1073741824 v1) (by omega) (by omega) (fun j h1 h2 => by rw [hcon.out j h1 h2]; exact hv))
                rw [hv] at KK
                obtain ⟨O2, eO2⟩ : ∃ O2, O2 = addS O at_ (min 1073741824 v1) := ⟨_, rfl⟩
                rw [← eO2] at G2 KA
                rw [← ENO.out] at KA
                clear eO2 hG hv hcon
                refine (KK.out).mono ?_
                rintro e w' ⟨rfl, rfl⟩
                go_wp2_with fail
                refine (KA.out).mono ?_
                rintro e w5 ⟨A5, c5, rfl, O5, hb, _⟩
                have D5 := Lib.hid (hDz.out.trans hb)
                have P5 := Lib.hid O5
                clear hb O5 KA KK
                go_wp2_with fail
                go_roundw
                case rel => exact ⟨I2, J2, O2, min 1073741824 v1, A5, c5, hI2, hJ2, rfl, rfl, rfl, rfl, P5, G2, (fun s hs => by have := hp.out s hs; omega), (fun s hs => by have := hq.out s hs; omega), D5⟩
                case measure => simp [intOf]; omega
              · have hv' : kp (decide (x ≤ at_)) (false) = false := (by cases e : kp (decide (x ≤ at_)) (false) with | true => exact absurd e hv | false => rfl)
                have G2 := Lib.hid (hG.out.skip (b := min 1073741824 v1) (by omega) (by omega) (fun j h1 h2 => by rw [hcon.out j h1 h2]; exact hv'))
                rw [hv'] at KK
                clear hG hv hv' hcon KA
                refine (KK.out).mono ?_
                rintro e w' ⟨rfl, rfl⟩
                go_wp2_with fail
                go_roundw
                case rel => exact ⟨I2, J2, O, min 1073741824 v1, Ao, co, hI2, hJ2, by rw [ENO.out], rfl, rfl, rfl, hOz, G2, (fun s hs => by have := hp.out s hs; omega), (fun s hs => by have := hq.out s hs; omega), hDz⟩
                case measure => simp [intOf]; omega
      · obtain rfl : I2 = n := by omega
        go_wp2_with fail
        go_loopw [12] (fun i wr => ∃ J2 : Nat, J2 ≤ m ∧ i = .int .i64 J2 ∧ Hid (∀ s ∈ M.take J2, s.2 ≤ at_) ∧ Hid (OwnP wr w.heap.size Ao co O) ∧ Hid (Below w.heap.size w wr)) (fun i _ => m - (intOf i).toNat)
        case atStart => exact ⟨J, hJ, rfl, hq0, hO2, hD2⟩
        case round =>
          obtain ⟨J2, hJ2, rfl, hq, hO3, hD3⟩ := hrel
          clear hO2 hD2 hq0
          by_cases hlt2 : J2 < m
          · obtain ⟨b', o', rfl, hb1, e0, e1⟩ := SeesP.cells (HS2.out.below hD3.out) (k := J2) (by rw [← EM.out]; exact hlt2)
            obtain ⟨_, mf1, _, mf2⟩ := NFfrom.mem NM.out _ (sg_mem M (show J2 < M.length by rw [← EM.out]; exact hlt2))
            by_cases hle2 : (sg M J2).2 ≤ at_
            · have hq' := Lib.hid (take_past (show J2 < M.length by rw [← EM.out]; exact hlt2) hq.out hle2)
              obtain ⟨y2, hy2⟩ : ∃ y, y = (sg M J2).2 := ⟨_, rfl⟩
              rw [← hy2] at e1 hle2
              clear e0 mf1 mf2 hy2
              go_wp2_with fail
              go_roundw
              case rel => exact ⟨J2 + 1, by omega, by go_num, hq', hO3, hD3⟩
              case measure => simp [intOf]; omega
            · have HB2 : Hid (∀ j, at_ ≤ j → j < edgeS (sg M J2).1 (sg M J2).2 at_ → anyS M j = decide ((sg M J2).1 ≤ at_)) := fun j h1 h2 => anyS_next NM.out (show J2 < M.length by rw [← EM.out]; exact hlt2) hq.out (by omega) h1 h2
              obtain ⟨x2, hx2⟩ : ∃ x, x = (sg M J2).1 := ⟨_, rfl⟩
              obtain ⟨y2, hy2⟩ : ∃ y, y = (sg M J2).2 := ⟨_, rfl⟩
              rw [← hx2, ← hy2] at HB2
              rw [← hx2] at e0
              rw [← hy2] at e1 hle2 mf2
              rw [← hx2, ← hy2] at mf1
              have HX2 := Lib.hid hx2
              have HY2 := Lib.hid hy2
              clear hx2 hy2
              have jb : ((J2 : Int) == (m : Int)) = false := by rw [beq_eq_false_iff_ne]; omega
              skip
              go_wp2_with fail
              obtain ⟨v2, hv2⟩ : ∃ v, v = edgeS x2 y2 at_ := ⟨_, rfl⟩
              have g3 : at_ < v2 := by rw [hv2]; exact edgeS_gt (by omega)
              have g4 : v2 ≤ 1073741824 := by rw [hv2]; exact edgeS_le mf1 mf2
              have KE := Lib.hid (edge_any wr x2 y2 at_)
              rw [← hv2] at KE HB2
              clear hv2
              refine (KE.out).mono ?_
              rintro e wz ⟨rfl, hb⟩
              have hDz := Lib.hid (hD3.out.trans (hb.mono hD3.out.size))
              have hOz := Lib.hid (hO3.out.below hb)
              have HL0 : Hid (∀ j, at_ ≤ j → anyS L j = false) := fun j h1 => anyS_past (fun s hs => hp.out s (by rw [List.take_of_length_le (by rw [← EN.out]; exact Nat.le_refl _)]; exact hs)) h1
              have hcon : Hid (∀ j, at_ ≤ j → j < min 1073741824 v2 → kp (anyS L j) (anyS M j) = kp false (decide (x2 ≤ at_))) := fun j h1 h2 => by rw [HL0.out j h1, HB2.out j h1 (by omega)]
              clear hb KE hO3 hD3
              go_wp2_with fail
              have KK := Lib.hid (K.out wz (false) (decide (x2 ≤ at_)))
              have KA := Lib.hid (sadd_any wz w.heap.size Ao co O at_ (min 1073741824 v2) hOz.out hDz.out.size (by have := hG.out.len; omega) ⟨by omega, by omega⟩ ⟨by omega, by omega⟩ (NF.fits hG.out.nf))
              by_cases hv : kp (false) (decide (x2 ≤ at_)) = true
              · have G2 := Lib.hid (hG.out.take (b := min 1073741824 v2) (by omega) (by omega) (fun j h1 h2 => by rw [hcon.out j h1 h2]; exact hv))
                rw [hv] at KK
                obtain ⟨O2, eO2⟩ : ∃ O2, O2 = addS O at_ (min 1073741824 v2) := ⟨_, rfl⟩
                rw [← eO2] at G2 KA
                rw [← ENO.out] at KA
                clear eO2 hG hv hcon
                refine (KK.out).mono ?_
                rintro e w' ⟨rfl, rfl⟩
                go_wp2_with fail
                refine (KA.out).mono ?_
                rintro e w5 ⟨A5, c5, rfl, O5, hb, _⟩
                have D5 := Lib.hid (hDz.out.trans hb)
                have P5 := Lib.hid O5
                clear hb O5 KA KK
                go_wp2_with fail
                go_roundw
                case rel => exact ⟨I2, J2, O2, min 1073741824 v2, A5, c5, hI2, hJ2, rfl, rfl, rfl, rfl, P5, G2, (fun s hs => by have := hp.out s hs; omega), (fun s hs => by have := hq.out s hs; omega), D5⟩
                case measure => simp [intOf]; omega
              · have hv' : kp (false) (decide (x2 ≤ at_)) = false := (by cases e : kp (false) (decide (x2 ≤ at_)) with | true => exact absurd e hv | false => rfl)
                have G2 := Lib.hid (hG.out.skip (b := min 1073741824 v2) (by omega) (by omega) (fun j h1 h2 => by rw [hcon.out j h1 h2]; exact hv'))
                rw [hv'] at KK
                clear hG hv hv' hcon KA
                refine (KK.out).mono ?_
                rintro e w' ⟨rfl, rfl⟩
                go_wp2_with fail
                go_roundw
                case rel => exact ⟨I2, J2, O, min 1073741824 v2, Ao, co, hI2, hJ2, by rw [ENO.out], rfl, rfl, rfl, hOz, G2, (fun s hs => by have := hp.out s hs; omega), (fun s hs => by have := hq.out s hs; omega), hDz⟩
                case measure => simp [intOf]; omega
          · obtain rfl : J2 = m := by omega
            skip
            have hst := Lib.hid (hG.out.stop (fun s hs => hp.out s (by rw [List.take_of_length_le (by rw [← EN.out]; exact Nat.le_refl _)]; exact hs)) (fun s hs => hq.out s (by rw [List.take_of_length_le (by rw [← EM.out]; exact Nat.le_refl _)]; exact hs)) HK0.out)
            have KD := Lib.hid (done_any w wr Ao co O (hO3.out.sees) hO3.out.le (by have := hG.out.len; omega) hD3.out)
            rw [← ENO.out] at KD
            go_wp2_with fail
            refine (KD.out).mono ?_
            rintro e w5 ⟨A5, rfl, q1, hb⟩
            have H : Hid (∃ R, Merged kp L M R ∧ SPost w (dS R) (dE R) (.returned (.tuple #[.slice A5 (dS O).length (dS O).length, .int .i64 (dE O)])) w5) := ⟨O, hst.out, A5, rfl, q1, hb⟩
            clear q1 hb KD
            go_wp2_with fail
            rw [Exit.noGoto_ret]
            go_ret2
            exact H.out
set_option maxRecDepth 100000 in
set_option maxHeartbeats 12800000 in
theorem without_ok (w : World) (A A2 : Option Addr) (c c2 B B2 : Nat) (L M : Sp) (h : SeesP w B A L) (h2 : SeesP w B2 A2 M) (hB : B ≤ w.heap.size) (hB2 : B2 ≤ w.heap.size) (hL : chkS L = 0) (hM : chkS M = 0) :
    Calls Tryz.prog 161 #[.slice A L.length c, .slice A2 M.length c2, .func (.func 162) #[] #[]] w fun e w' => ∃ R, Merged (fun x y => x && !y) L M R ∧ SPost w (dS R) (dE R) e w' := by
  have hk0 : (fun x y => x && !y) false false = false := rfl
  obtain ⟨kp, ekp⟩ : ∃ kp : Bool → Bool → Bool, kp = (fun x y => x && !y) := ⟨_, rfl⟩
  have K0 : ∀ W x y, Calls Tryz.prog 162 #[.bool x, .bool y] W fun e w' => e = .returned (.bool (kp x y)) ∧ W = w' := by rw [ekp]; exact not_any
  rw [← ekp] at hk0 ⊢
  clear ekp
  have K := Lib.hid K0
  have HK0 := Lib.hid hk0
  obtain ⟨nfL, lL⟩ := chkS_zero.1 hL
  obtain ⟨nfM, lM⟩ := chkS_zero.1 hM
  have K1 := Lib.hid (both_any w A A2 c c2 B B2 L M h h2 hB hB2 (NF.fits nfL) (NF.fits nfM) (by omega) (by omega))
  rw [if_pos hL, hM] at K1
  have HS := Lib.hid (h.more hB)
  have HS2 := Lib.hid (h2.more hB2)
  have NL := Lib.hid nfL
  have NM := Lib.hid nfM
  have G0 : Hid (Mg kp L M [] 0) := Mg.start nfL nfM hk0
  obtain ⟨n, en⟩ : ∃ n, n = L.length := ⟨_, rfl⟩
  obtain ⟨m, em⟩ : ∃ n, n = M.length := ⟨_, rfl⟩
  have EN := Lib.hid en
  have EM := Lib.hid em
  rw [← en] at K1 lL
  rw [← em] at K1 lM
  rw [← en, ← em]
  clear h h2 hL hM nfL nfM K0 en em hk0
  go_enter Tryz.func161, Tryz.ntmps161
  go_wp2_with fail
  go_step3
  go_wp2_with fail
  refine (K1.out).mono ?_
  rintro e w1 ⟨rfl, hb⟩
  have D1 := Lib.hid hb
  clear hb K1
  go_wp2_with fail
  go_step3
  go_wp2_with fail
  go_loopw [9, 10, 11, 12] (fun o a i j wr => ∃ (I J : Nat) (O : Sp) (at_ : Int) (Ao : Option Addr) (co : Nat), I ≤ n ∧ J ≤ m ∧ o = .slice Ao O.length co ∧ a = .int .i64 at_ ∧ i = .int .i64 I ∧ j = .int .i64 J ∧ Hid (OwnP wr w.heap.size Ao co O) ∧ Hid (Mg kp L M O at_) ∧ Hid (∀ s ∈ L.take I, s.2 ≤ at_) ∧ Hid (∀ s ∈ M.take J, s.2 ≤ at_) ∧ Hid (Below w.heap.size w wr)) (fun _ a _ _ _ => (1073741824 - (intOf a)).toNat)
  case atStart => exact ⟨0, 0, [], 0, none, 0, Nat.zero_le _, Nat.zero_le _, rfl, rfl, rfl, rfl, Own.nil _ _ _ _ _, G0, (fun s hs => absurd hs (by simp)), (fun s hs => absurd hs (by simp)), D1⟩
  case round =>
    obtain ⟨I, J, O, at_, Ao, co, hI, hJ, rfl, rfl, rfl, rfl, hO, hG, hp0, hq0, hD⟩ := hrel
    clear D1 G0
    have b0 := hG.out.a0
    have b1 := hG.out.a1
    obtain ⟨nO, enO⟩ : ∃ nO, nO = O.length := ⟨_, rfl⟩
    have ENO := Lib.hid enO
    rw [← enO]
    clear enO
    go_wp2_with fail
    go_loopw [11] (fun i wr => ∃ I2 : Nat, I2 ≤ n ∧ i = .int .i64 I2 ∧ Hid (∀ s ∈ L.take I2, s.2 ≤ at_) ∧ Hid (OwnP wr w.heap.size Ao co O) ∧ Hid (Below w.heap.size w wr)) (fun i _ => n - (intOf i).toNat)
    case atStart => exact ⟨I, hI, rfl, hp0, hO, hD⟩
    case round =>
      obtain ⟨I2, hI2, rfl, hp, hO2, hD2⟩ := hrel
      clear hO hD hp0
      by_cases hlt : I2 < n
      · obtain ⟨b, o, rfl, hb0, c0, c1⟩ := SeesP.cells (HS.out.below hD2.out) (k := I2) (by rw [← EN.out]; exact hlt)
        obtain ⟨_, nf1, _, nf2⟩ := NFfrom.mem NL.out _ (sg_mem L (show I2 < L.length by rw [← EN.out]; exact hlt))
        by_cases hle : (sg L I2).2 ≤ at_
        · have hp' := Lib.hid (take_past (show I2 < L.length by rw [← EN.out]; exact hlt) hp.out hle)
          obtain ⟨y, hy⟩ : ∃ y, y = (sg L I2).2 := ⟨_, rfl⟩
          rw [← hy] at c1 hle
          clear c0 nf1 nf2 hy
          go_wp2_with fail
          go_roundw
          case rel => exact ⟨I2 + 1, by omega, by go_num, hp', hO2, hD2⟩
          case measure => simp [intOf]; omega
        · have HA : Hid (∀ j, at_ ≤ j → j < edgeS (sg L I2).1 (sg L I2).2 at_ → anyS L j = decide ((sg L I2).1 ≤ at_)) := fun j h1 h2 => anyS_next NL.out (show I2 < L.length by rw [← EN.out]; exact hlt) hp.out (by omega) h1 h2
          obtain ⟨x, hx⟩ : ∃ x, x = (sg L I2).1 := ⟨_, rfl⟩
          obtain ⟨y, hy⟩ : ∃ y, y = (sg L I2).2 := ⟨_, rfl⟩
          rw [← hx, ← hy] at HA
          rw [← hx] at c0
          rw [← hy] at c1 hle
          rw [← hx, ← hy] at nf1
          rw [← hy] at nf2
          have HX := Lib.hid hx
          have HY := Lib.hid hy
          clear hx hy
          go_wp2_with fail
          clear c0 c1
          go_loopw [12] (fun i wr => ∃ J2 : Nat, J2 ≤ m ∧ i = .int .i64 J2 ∧ Hid (∀ s ∈ M.take J2, s.2 ≤ at_) ∧ Hid (OwnP wr w.heap.size Ao co O) ∧ Hid (Below w.heap.size w wr)) (fun i _ => m - (intOf i).toNat)
          case atStart => exact ⟨J, hJ, rfl, hq0, hO2, hD2⟩
          case round =>
            obtain ⟨J2, hJ2, rfl, hq, hO3, hD3⟩ := hrel
            clear hO2 hD2 hq0
            by_cases hlt2 : J2 < m
            · obtain ⟨b', o', rfl, hb1, e0, e1⟩ := SeesP.cells (HS2.out.below hD3.out) (k := J2) (by rw [← EM.out]; exact hlt2)
              obtain ⟨_, mf1, _, mf2⟩ := NFfrom.mem NM.out _ (sg_mem M (show J2 < M.length by rw [← EM.out]; exact hlt2))
              by_cases hle2 : (sg M J2).2 ≤ at_
              · have hq' := Lib.hid (take_past (show J2 < M.length by rw [← EM.out]; exact hlt2) hq.out hle2)
                obtain ⟨y2, hy2⟩ : ∃ y, y = (sg M J2).2 := ⟨_, rfl⟩
                rw [← hy2] at e1 hle2
                clear e0 mf1 mf2 hy2
                go_wp2_with fail
                go_roundw
                case rel => exact ⟨J2 + 1, by omega, by go_num, hq', hO3, hD3⟩
                case measure => simp [intOf]; omega
              · have HB2 : Hid (∀ j, at_ ≤ j → j < edgeS (sg M J2).1 (sg M J2).2 at_ → anyS M j = decide ((sg M J2).1 ≤ at_)) := fun j h1 h2 => anyS_next NM.out (show J2 < M.length by rw [← EM.out]; exact hlt2) hq.out (by omega) h1 h2
                obtain ⟨x2, hx2⟩ : ∃ x, x = (sg M J2).1 := ⟨_, rfl⟩
                obtain ⟨y2, hy2⟩ : ∃ y, y = (sg M J2).2 := ⟨_, rfl⟩
                rw [← hx2, ← hy2] at HB2
                rw [← hx2] at e0
                rw [← hy2] at e1 hle2 mf2
                rw [← hx2, ← hy2] at mf1
                have HX2 := Lib.hid hx2
                have HY2 := Lib.hid hy2
                clear hx2 hy2
                have jb : ((J2 : Int) == (m : Int)) = false := by rw [beq_eq_false_iff_ne]; omega
                obtain ⟨b3, o3, h3, _, c0, c1⟩ := SeesP.cells (HS.out.below hD3.out) (k := I2) (by rw [← EN.out]; exact hlt)
                cases h3
                rw [← HX.out] at c0
                rw [← HY.out] at c1
                go_wp2_with fail
                obtain ⟨v1, hv1⟩ : ∃ v, v = edgeS x y at_ := ⟨_, rfl⟩
                have g1 : at_ < v1 := by rw [hv1]; exact edgeS_gt (by omega)
                have g2 : v1 ≤ 1073741824 := by rw [hv1]; exact edgeS_le nf1 nf2
                have KE := Lib.hid (edge_any wr x y at_)
                rw [← hv1] at KE HA
                clear hv1
                refine (KE.out).mono ?_
                rintro e wa ⟨rfl, hb⟩
                have hDa := Lib.hid (hD3.out.trans (hb.mono hD3.out.size))
                have hOa := Lib.hid (hO3.out.below hb)
                clear hb KE
                obtain ⟨b4, o4, h4, _, e0, e1⟩ := SeesP.cells (HS2.out.below hDa.out) (k := J2) (by rw [← EM.out]; exact hlt2)
                cases h4
                rw [← HX2.out] at e0
                rw [← HY2.out] at e1
                go_wp2_with fail
                obtain ⟨v2, hv2⟩ : ∃ v, v = edgeS x2 y2 at_ := ⟨_, rfl⟩
                have g3 : at_ < v2 := by rw [hv2]; exact edgeS_gt (by omega)
                have g4 : v2 ≤ 1073741824 := by rw [hv2]; exact edgeS_le mf1 mf2
                have KE := Lib.hid (edge_any wa x2 y2 at_)
                rw [← hv2] at KE HB2
                clear hv2
                refine (KE.out).mono ?_
                rintro e wz ⟨rfl, hb⟩
                have hDz := Lib.hid (hDa.out.trans (hb.mono hDa.out.size))
                have hOz := Lib.hid (hOa.out.below hb)
                have hcon : Hid (∀ j, at_ ≤ j → j < min 1073741824 (min v1 v2) → kp (anyS L j) (anyS M j) = kp (decide (x ≤ at_)) (decide (x2 ≤ at_))) := fun j h1 h2 => by rw [HA.out j h1 (by omega), HB2.out j h1 (by omega)]
                have ib0 : ((I2 : Int) == (n : Int)) = false := by rw [beq_eq_false_iff_ne]; omega
                clear hb KE hOa hDa
                go_wp2_with fail
                have KK := Lib.hid (K.out wz (decide (x ≤ at_)) (decide (x2 ≤ at_)))
                have KA := Lib.hid (sadd_any wz w.heap.size Ao co O at_ (min 1073741824 (min v1 v2)) hOz.out hDz.out.size (by have := hG.out.len; omega) ⟨by omega, by omega⟩ ⟨by omega, by omega⟩ (NF.fits hG.out.nf))
                by_cases hv : kp (decide (x ≤ at_)) (decide (x2 ≤ at_)) = true
                · have G2 := Lib.hid (hG.out.take (b := min 1073741824 (min v1 v2)) (by omega) (by omega) (fun j h1 h2 => by rw [hcon.out j h1 h2]; exact hv))
                  rw [hv] at KK
                  obtain ⟨O2, eO2⟩ : ∃ O2, O2 = addS O at_ (min 1073741824 (min v1 v2)) := ⟨_, rfl⟩
                  rw [← eO2] at G2 KA
                  rw [← ENO.out] at KA
                  clear eO2 hG hv hcon
                  refine (KK.out).mono ?_
                  rintro e w' ⟨rfl, rfl⟩
                  go_wp2_with fail
                  refine (KA.out).mono ?_
                  rintro e w5 ⟨A5, c5, rfl, O5, hb, _⟩
                  have D5 := Lib.hid (hDz.out.trans hb)
                  have P5 := Lib.hid O5
                  clear hb O5 KA KK
                  go_wp2_with fail
                  go_roundw
                  case rel => exact ⟨I2, J2, O2, min 1073741824 (min v1 v2), A5, c5, hI2, hJ2, rfl, rfl, rfl, rfl, P5, G2, (fun s hs => by have := hp.out s hs; omega), (fun s hs => by have := hq.out s hs; omega), D5⟩
                  case measure => simp [intOf]; omega
                · have hv' : kp (decide (x ≤ at_)) (decide (x2 ≤ at_)) = false := (by cases e : kp (decide (x ≤ at_)) (decide (x2 ≤ at_)) with | true => exact absurd e hv | false => rfl)
                  have G2 := Lib.hid (hG.out.skip (b := min 1073741824 (min v1 v2)) (by omega) (by omega) (fun j h1 h2 => by rw [hcon.out j h1 h2]; exact hv'))
                  rw [hv'] at KK
                  clear hG hv hv' hcon KA
                  refine (KK.out).mono ?_
                  rintro e w' ⟨rfl, rfl⟩
                  go_wp2_with fail
                  go_roundw
                  case rel => exact ⟨I2, J2, O, min 1073741824 (min v1 v2), Ao, co, hI2, hJ2, by rw [ENO.out], rfl, rfl, rfl, hOz, G2, (fun s hs => by have := hp.out s hs; omega), (fun s hs => by have := hq.out s hs; omega), hDz⟩
                  case measure => simp [intOf]; omega
            · obtain rfl : J2 = m := by omega
              obtain ⟨b3, o3, h3, _, c0, c1⟩ := SeesP.cells (HS.out.below hD3.out) (k := I2) (by rw [← EN.out]; exact hlt)
              cases h3
              rw [← HX.out] at c0
              rw [← HY.out] at c1
              go_wp2_with fail
              obtain ⟨v1, hv1⟩ : ∃ v, v = edgeS x y at_ := ⟨_, rfl⟩
              have g1 : at_ < v1 := by rw [hv1]; exact edgeS_gt (by omega)
              have g2 : v1 ≤ 1073741824 := by rw [hv1]; exact edgeS_le nf1 nf2
              have KE := Lib.hid (edge_any wr x y at_)
              rw [← hv1] at KE HA
              clear hv1
              refine (KE.out).mono ?_
              rintro e wa ⟨rfl, hb⟩
              have hDa := Lib.hid (hD3.out.trans (hb.mono hD3.out.size))
              have hOa := Lib.hid (hO3.out.below hb)
              clear hb KE
              have ib0 : ((I2 : Int) == (n : Int)) = false := by rw [beq_eq_false_iff_ne]; omega
              have HM0 : Hid (∀ j, at_ ≤ j → anyS M j = false) := fun j h1 => anyS_past (fun s hs => hq.out s (by rw [List.take_of_length_le (by rw [← EM.out]; exact Nat.le_refl _)]; exact hs)) h1
              have hcon : Hid (∀ j, at_ ≤ j → j < min 1073741824 v1 → kp (anyS L j) (anyS M j) = kp (decide (x ≤ at_)) false) := fun j h1 h2 => by rw [HA.out j h1 (by omega), HM0.out j h1]
              obtain ⟨wz, ewz⟩ : ∃ wz, wz = wa := ⟨_, rfl⟩
              have hDz : Hid (Below w.heap.size w wz) := by rw [ewz]; exact hDa.out
              have hOz : Hid (OwnP wz w.heap.size Ao co O) := by rw [ewz]; exact hOa.out
              clear hDa hOa
              subst ewz
              go_wp2_with fail
              have KK := Lib.hid (K.out wz (decide (x ≤ at_)) (false))
              have KA := Lib.hid (sadd_any wz w.heap.size Ao co O at_ (min 1073741824 v1) hOz.out hDz.out.size (by have := hG.out.len; omega) ⟨by omega, by omega⟩ ⟨by omega, by omega⟩ (NF.fits hG.out.nf))
              by_cases hv : kp (decide (x ≤ at_)) (false) = true
              · have G2 := Lib.hid (hG.out.take (b := min 1073741824 v1) (by omega) (by omega) (fun j h1 h2 => by rw [hcon.out j h1 h2]; exact hv))
                rw [hv] at KK
                obtain ⟨O2, eO2⟩ : ∃ O2, O2 = addS O at_ (min 1073741824 v1) := ⟨_, rfl⟩
                rw [← eO2] at G2 KA
                rw [← ENO.out] at KA
                clear eO2 hG hv hcon
                refine (KK.out).mono ?_
                rintro e w' ⟨rfl, rfl⟩
                go_wp2_with fail
                refine (KA.out).mono ?_
                rintro e w5 ⟨A5, c5, rfl, O5, hb, _⟩
                have D5 := Lib.hid (hDz.out.trans hb)
                have P5 := Lib.hid O5
                clear hb O5 KA KK
                go_wp2_with fail
                go_roundw
                case rel => exact ⟨I2, J2, O2, min 1073741824 v1, A5, c5, hI2, hJ2, rfl, rfl, rfl, rfl, P5, G2, (fun s hs => by have := hp.out s hs; omega), (fun s hs => by have := hq.out s hs; omega), D5⟩
                case measure => simp [intOf]; omega
              · have hv' : kp (decide (x ≤ at_)) (false) = false := (by cases e : kp (decide (x ≤ at_)) (false) with | true => exact absurd e hv | false => rfl)
                have G2 := Lib.hid (hG.out.skip (b := min 1073741824 v1) (by omega) (by omega) (fun j h1 h2 => by rw [hcon.out j h1 h2]; exact hv'))
                rw [hv'] at KK
                clear hG hv hv' hcon KA
                refine (KK.out).mono ?_
                rintro e w' ⟨rfl, rfl⟩
                go_wp2_with fail
                go_roundw
                case rel => exact ⟨I2, J2, O, min 1073741824 v1, Ao, co, hI2, hJ2, by rw [ENO.out], rfl, rfl, rfl, hOz, G2, (fun s hs => by have := hp.out s hs; omega), (fun s hs => by have := hq.out s hs; omega), hDz⟩
                case measure => simp [intOf]; omega
      · obtain rfl : I2 = n := by omega
        go_wp2_with fail
        go_loopw [12] (fun i wr => ∃ J2 : Nat, J2 ≤ m ∧ i = .int .i64 J2 ∧ Hid (∀ s ∈ M.take J2, s.2 ≤ at_) ∧ Hid (OwnP wr w.heap.size Ao co O) ∧ Hid (Below w.heap.size w wr)) (fun i _ => m - (intOf i).toNat)
        case atStart => exact ⟨J, hJ, rfl, hq0, hO2, hD2⟩
        case round =>
          obtain ⟨J2, hJ2, rfl, hq, hO3, hD3⟩ := hrel
          clear hO2 hD2 hq0
          by_cases hlt2 : J2 < m
          · obtain ⟨b', o', rfl, hb1, e0, e1⟩ := SeesP.cells (HS2.out.below hD3.out) (k := J2) (by rw [← EM.out]; exact hlt2)
            obtain ⟨_, mf1, _, mf2⟩ := NFfrom.mem NM.out _ (sg_mem M (show J2 < M.length by rw [← EM.out]; exact hlt2))
            by_cases hle2 : (sg M J2).2 ≤ at_
            · have hq' := Lib.hid (take_past (show J2 < M.length by rw [← EM.out]; exact hlt2) hq.out hle2)
              obtain ⟨y2, hy2⟩ : ∃ y, y = (sg M J2).2 := ⟨_, rfl⟩
              rw [← hy2] at e1 hle2
              clear e0 mf1 mf2 hy2
              go_wp2_with fail
              go_roundw
              case rel => exact ⟨J2 + 1, by omega, by go_num, hq', hO3, hD3⟩
              case measure => simp [intOf]; omega
            · have HB2 : Hid (∀ j, at_ ≤ j → j < edgeS (sg M J2).1 (sg M J2).2 at_ → anyS M j = decide ((sg M J2).1 ≤ at_)) := fun j h1 h2 => anyS_next NM.out (show J2 < M.length by rw [← EM.out]; exact hlt2) hq.out (by omega) h1 h2
              obtain ⟨x2, hx2⟩ : ∃ x, x = (sg M J2).1 := ⟨_, rfl⟩
              obtain ⟨y2, hy2⟩ : ∃ y, y = (sg M J2).2 := ⟨_, rfl⟩
              rw [← hx2, ← hy2] at HB2
              rw [← hx2] at e0
              rw [← hy2] at e1 hle2 mf2
              rw [← hx2, ← hy2] at mf1
              have HX2 := Lib.hid hx2
              have HY2 := Lib.hid hy2
              clear hx2 hy2
              have jb : ((J2 : Int) == (m : Int)) = false := by rw [beq_eq_false_iff_ne]; omega
              skip
              go_wp2_with fail
              obtain ⟨v2, hv2⟩ : ∃ v, v = edgeS x2 y2 at_ := ⟨_, rfl⟩
              have g3 : at_ < v2 := by rw [hv2]; exact edgeS_gt (by omega)
              have g4 : v2 ≤ 1073741824 := by rw [hv2]; exact edgeS_le mf1 mf2
              have KE := Lib.hid (edge_any wr x2 y2 at_)
              rw [← hv2] at KE HB2
              clear hv2
              refine (KE.out).mono ?_
              rintro e wz ⟨rfl, hb⟩
              have hDz := Lib.hid (hD3.out.trans (hb.mono hD3.out.size))
              have hOz := Lib.hid (hO3.out.below hb)
              have HL0 : Hid (∀ j, at_ ≤ j → anyS L j = false) := fun j h1 => anyS_past (fun s hs => hp.out s (by rw [List.take_of_length_le (by rw [← EN.out]; exact Nat.le_refl _)]; exact hs)) h1
              have hcon : Hid (∀ j, at_ ≤ j → j < min 1073741824 v2 → kp (anyS L j) (anyS M j) = kp false (decide (x2 ≤ at_))) := fun j h1 h2 => by rw [HL0.out j h1, HB2.out j h1 (by omega)]
              clear hb KE hO3 hD3
              go_wp2_with fail
              have KK := Lib.hid (K.out wz (false) (decide (x2 ≤ at_)))
              have KA := Lib.hid (sadd_any wz w.heap.size Ao co O at_ (min 1073741824 v2) hOz.out hDz.out.size (by have := hG.out.len; omega) ⟨by omega, by omega⟩ ⟨by omega, by omega⟩ (NF.fits hG.out.nf))
              by_cases hv : kp (false) (decide (x2 ≤ at_)) = true
              · have G2 := Lib.hid (hG.out.take (b := min 1073741824 v2) (by omega) (by omega) (fun j h1 h2 => by rw [hcon.out j h1 h2]; exact hv))
                rw [hv] at KK
                obtain ⟨O2, eO2⟩ : ∃ O2, O2 = addS O at_ (min 1073741824 v2) := ⟨_, rfl⟩
                rw [← eO2] at G2 KA
                rw [← ENO.out] at KA
                clear eO2 hG hv hcon
                refine (KK.out).mono ?_
                rintro e w' ⟨rfl, rfl⟩
                go_wp2_with fail
                refine (KA.out).mono ?_
                rintro e w5 ⟨A5, c5, rfl, O5, hb, _⟩
                have D5 := Lib.hid (hDz.out.trans hb)
                have P5 := Lib.hid O5
                clear hb O5 KA KK
                go_wp2_with fail
                go_roundw
                case rel => exact ⟨I2, J2, O2, min 1073741824 v2, A5, c5, hI2, hJ2, rfl, rfl, rfl, rfl, P5, G2, (fun s hs => by have := hp.out s hs; omega), (fun s hs => by have := hq.out s hs; omega), D5⟩
                case measure => simp [intOf]; omega
              · have hv' : kp (false) (decide (x2 ≤ at_)) = false := (by cases e : kp (false) (decide (x2 ≤ at_)) with | true => exact absurd e hv | false => rfl)
                have G2 := Lib.hid (hG.out.skip (b := min 1073741824 v2) (by omega) (by omega) (fun j h1 h2 => by rw [hcon.out j h1 h2]; exact hv'))
                rw [hv'] at KK
                clear hG hv hv' hcon KA
                refine (KK.out).mono ?_
                rintro e w' ⟨rfl, rfl⟩
                go_wp2_with fail
                go_roundw
                case rel => exact ⟨I2, J2, O, min 1073741824 v2, Ao, co, hI2, hJ2, by rw [ENO.out], rfl, rfl, rfl, hOz, G2, (fun s hs => by have := hp.out s hs; omega), (fun s hs => by have := hq.out s hs; omega), hDz⟩
                case measure => simp [intOf]; omega
          · obtain rfl : J2 = m := by omega
            skip
            have hst := Lib.hid (hG.out.stop (fun s hs => hp.out s (by rw [List.take_of_length_le (by rw [← EN.out]; exact Nat.le_refl _)]; exact hs)) (fun s hs => hq.out s (by rw [List.take_of_length_le (by rw [← EM.out]; exact Nat.le_refl _)]; exact hs)) HK0.out)
            have KD := Lib.hid (done_any w wr Ao co O (hO3.out.sees) hO3.out.le (by have := hG.out.len; omega) hD3.out)
            rw [← ENO.out] at KD
            go_wp2_with fail
            refine (KD.out).mono ?_
            rintro e w5 ⟨A5, rfl, q1, hb⟩
            have H : Hid (∃ R, Merged kp L M R ∧ SPost w (dS R) (dE R) (.returned (.tuple #[.slice A5 (dS O).length (dS O).length, .int .i64 (dE O)])) w5) := ⟨O, hst.out, A5, rfl, q1, hb⟩
            clear q1 hb KD
            go_wp2_with fail
            rw [Exit.noGoto_ret]
            go_ret2
            exact H.out
end Go.Proofs.YtfmfmeiaekknbaaGreat
end

section
/-
  Contracts of package spans, fifth: Union, Common, Without; ranged, Insert, Remove.
-/
namespace Go.Proofs.YtfmfmeiaekknbaaGreat
open Go.RowKit
set_option linter.unusedVariables false
set_option linter.unusedSimpArgs false

theorem SPost.from {w0 w w' : World} {R : Sp} {x : Int} {e : Ending} (h : SPost w R x e w') (hb : Below w0.heap.size w0 w) : SPost w0 R x e w' := by
  obtain ⟨A, h1, h2, h3⟩ := h
  exact ⟨A, h1, h2, hb.trans (h3.mono hb.size)⟩
/-- What one of the three operations returns. -/
def OpPost (kp : Bool → Bool → Bool) (w : World) (L M : Sp) (e : Ending) (w' : World) : Prop :=
  (chkS L = 0 ∧ chkS M = 0 ∧ ∃ R, Merged kp L M R ∧ SPost w (dS R) (dE R) e w') ∨ ((if chkS L = 0 then chkS M else chkS L) ≠ 0 ∧ SPost w [] (if chkS L = 0 then chkS M else chkS L) e w')
theorem union_any (w : World) (A A2 : Option Addr) (c c2 B B2 : Nat) (L M : Sp) (h : SeesP w B A L) (h2 : SeesP w B2 A2 M) (hB : B ≤ w.heap.size) (hB2 : B2 ≤ w.heap.size) (hf : FitsS L) (hf2 : FitsS M) (hn : L.length ≤ 1000000000000000) (hn2 : M.length ≤ 1000000000000000) :
    Calls Tryz.prog 143 #[.slice A L.length c, .slice A2 M.length c2] w (OpPost (fun x y => x || y) w L M) := by
  have K : Hid (Calls Tryz.prog 161 #[.slice A L.length c, .slice A2 M.length c2, .func (.func 163) #[] #[]] w (OpPost (fun x y => x || y) w L M)) := by
    by_cases hx : (if chkS L = 0 then chkS M else chkS L) = 0
    · by_cases h1 : chkS L = 0
      · have h3 : chkS M = 0 := by rwa [if_pos h1] at hx
        refine (union_ok w A A2 c c2 B B2 L M h h2 hB hB2 h1 h3).mono fun e w' h => .inl ⟨h1, h3, h⟩
      · rw [if_neg h1] at hx; exact absurd hx h1
    · exact (merged_bad w A A2 c c2 B B2 L M _ h h2 hB hB2 hf hf2 hn hn2 _ rfl hx).mono fun e w' h => .inr ⟨hx, h⟩
  have E : Hid (∀ e w', OpPost (fun x y => x || y) w L M e w' → ∃ A3 n3 c3 x, e = .returned (.tuple #[.slice A3 n3 c3, .int .i64 x])) := by
    rintro e w' (⟨_, _, R, _, A3, rfl, _⟩ | ⟨_, A3, rfl, _⟩)
    · exact ⟨_, _, _, _, rfl⟩
    · exact ⟨_, _, _, _, rfl⟩
  obtain ⟨Q, eQ⟩ : ∃ Q, Q = OpPost (fun x y => x || y) w L M := ⟨_, rfl⟩
  rw [← eQ] at K E ⊢
  obtain ⟨n, en⟩ : ∃ n, n = L.length := ⟨_, rfl⟩
  obtain ⟨m, em⟩ : ∃ n, n = M.length := ⟨_, rfl⟩
  rw [← en, ← em] at K
  rw [← en, ← em]
  clear h h2 hf hf2 hn hn2 en em eQ
  go_enter Tryz.func143, Tryz.ntmps143
  go_wp2_with fail
  refine (K.out).mono ?_
  intro e w' hQ
  obtain ⟨A3, n3, c3, x, rfl⟩ := E.out e w' hQ
  have H := Lib.hid hQ
  clear hQ
  go_wp2_with fail
  exact H.out
theorem without_any (w : World) (A A2 : Option Addr) (c c2 B B2 : Nat) (L M : Sp) (h : SeesP w B A L) (h2 : SeesP w B2 A2 M) (hB : B ≤ w.heap.size) (hB2 : B2 ≤ w.heap.size) (hf : FitsS L) (hf2 : FitsS M) (hn : L.length ≤ 1000000000000000) (hn2 : M.length ≤ 1000000000000000) :
    Calls Tryz.prog 142 #[.slice A L.length c, .slice A2 M.length c2] w (OpPost (fun x y => x && !y) w L M) := by
  have K : Hid (Calls Tryz.prog 161 #[.slice A L.length c, .slice A2 M.length c2, .func (.func 162) #[] #[]] w (OpPost (fun x y => x && !y) w L M)) := by
    by_cases hx : (if chkS L = 0 then chkS M else chkS L) = 0
    · by_cases h1 : chkS L = 0
      · have h3 : chkS M = 0 := by rwa [if_pos h1] at hx
        refine (without_ok w A A2 c c2 B B2 L M h h2 hB hB2 h1 h3).mono fun e w' h => .inl ⟨h1, h3, h⟩
      · rw [if_neg h1] at hx; exact absurd hx h1
    · exact (merged_bad w A A2 c c2 B B2 L M _ h h2 hB hB2 hf hf2 hn hn2 _ rfl hx).mono fun e w' h => .inr ⟨hx, h⟩
  have E : Hid (∀ e w', OpPost (fun x y => x && !y) w L M e w' → ∃ A3 n3 c3 x, e = .returned (.tuple #[.slice A3 n3 c3, .int .i64 x])) := by
    rintro e w' (⟨_, _, R, _, A3, rfl, _⟩ | ⟨_, A3, rfl, _⟩)
    · exact ⟨_, _, _, _, rfl⟩
    · exact ⟨_, _, _, _, rfl⟩
  obtain ⟨Q, eQ⟩ : ∃ Q, Q = OpPost (fun x y => x && !y) w L M := ⟨_, rfl⟩
  rw [← eQ] at K E ⊢
  obtain ⟨n, en⟩ : ∃ n, n = L.length := ⟨_, rfl⟩
  obtain ⟨m, em⟩ : ∃ n, n = M.length := ⟨_, rfl⟩
  rw [← en, ← em] at K
  rw [← en, ← em]
  clear h h2 hf hf2 hn hn2 en em eQ
  go_enter Tryz.func142, Tryz.ntmps142
  go_wp2_with fail
  refine (K.out).mono ?_
  intro e w' hQ
  obtain ⟨A3, n3, c3, x, rfl⟩ := E.out e w' hQ
  have H := Lib.hid hQ
  clear hQ
  go_wp2_with fail
  exact H.out

/-- The error of a set with a place and a number. -/
def rngS (L : Sp) (a n : Int) : Int := if chkS L ≠ 0 then chkS L else if a < 0 ∨ 1073741824 < a ∨ n < 0 ∨ 1073741824 < n then 4 else 0
theorem ranged_any (w : World) (B : Nat) (A : Option Addr) (c : Nat) (L : Sp) (a n : Int) (h : SeesP w B A L) (hB : B ≤ w.heap.size) (hf : FitsS L) (hn : L.length ≤ 1000000000000000) (fa : Fits a) (fn : Fits n) :
    Calls Tryz.prog 140 #[.slice A L.length c, .int .i64 a, .int .i64 n] w fun e w' => e = .returned (.int .i64 (rngS L a n)) ∧ Below w.heap.size w w' := by
  have K1 := Lib.hid (check_any w B A c L h hB hf hn)
  obtain ⟨fa1, fa2⟩ := fa
  obtain ⟨fn1, fn2⟩ := fn
  unfold rngS
  obtain ⟨m, em⟩ : ∃ n, n = L.length := ⟨_, rfl⟩
  obtain ⟨x, ex⟩ : ∃ n, n = chkS L := ⟨_, rfl⟩
  rw [← em, ← ex] at K1
  rw [← em, ← ex]
  clear h hf em ex hn
  by_cases x0 : x = 0
  · rw [if_neg (by omega)]
    subst x0
    by_cases t1 : a < 0
    · rw [if_pos (by omega)]
      go_enter Tryz.func140, Tryz.ntmps140
      go_wp2_with fail
      refine (K1.out).mono ?_
      rintro e w1 ⟨rfl, hb⟩
      have B1 := Lib.hid hb
      clear hb K1
      go_wp2_with fail
      go_ret
      exact ⟨rfl, B1.out⟩
    by_cases t2 : 1073741824 < a
    · rw [if_pos (by omega)]
      go_enter Tryz.func140, Tryz.ntmps140
      go_wp2_with fail
      refine (K1.out).mono ?_
      rintro e w1 ⟨rfl, hb⟩
      have B1 := Lib.hid hb
      clear hb K1
      go_wp2_with fail
      go_ret
      exact ⟨rfl, B1.out⟩
    by_cases t3 : n < 0
    · rw [if_pos (by omega)]
      go_enter Tryz.func140, Tryz.ntmps140
      go_wp2_with fail
      refine (K1.out).mono ?_
      rintro e w1 ⟨rfl, hb⟩
      have B1 := Lib.hid hb
      clear hb K1
      go_wp2_with fail
      go_ret
      exact ⟨rfl, B1.out⟩
    by_cases t4 : 1073741824 < n
    · rw [if_pos (by omega)]
      go_enter Tryz.func140, Tryz.ntmps140
      go_wp2_with fail
      refine (K1.out).mono ?_
      rintro e w1 ⟨rfl, hb⟩
      have B1 := Lib.hid hb
      clear hb K1
      go_wp2_with fail
      go_ret
      exact ⟨rfl, B1.out⟩
    · rw [if_neg (by omega)]
      go_enter Tryz.func140, Tryz.ntmps140
      go_wp2_with fail
      refine (K1.out).mono ?_
      rintro e w1 ⟨rfl, hb⟩
      have B1 := Lib.hid hb
      clear hb K1
      go_wp2_with fail
      go_ret
      exact ⟨rfl, B1.out⟩
  · rw [if_pos x0]
    have xb : (x != 0) = true := by rw [bne_iff_ne]; exact x0
    go_enter Tryz.func140, Tryz.ntmps140
    go_wp2_with fail
    refine (K1.out).mono ?_
    rintro e w1 ⟨rfl, hb⟩
    have B1 := Lib.hid hb
    clear hb K1
    go_wp2_with fail
    go_ret
    exact ⟨rfl, B1.out⟩

/-! ### Plain -/
theorem addS_opt {L : Sp} {f t : Int} (hL : NF L) (h : f < t → endS (-1) L ≤ f ∧ 0 ≤ f ∧ t ≤ 1073741824) :
    NF (addS L f t) ∧ endS (-1) (addS L f t) = (if f < t then t else endS (-1) L) ∧ ∀ i, memS (addS L f t) i ↔ memS L i ∨ (f ≤ i ∧ i < t) := by
  by_cases c : f < t
  · obtain ⟨h1, h2, h3⟩ := h c
    rw [if_pos c]
    exact addS_spec hL h1 h2 c h3
  · rw [if_neg c, addS_none (by omega)]
    exact ⟨hL, rfl, fun i => ⟨.inl, fun h => h.elim id (fun ⟨h1, h2⟩ => absurd h1 (by omega))⟩⟩
/-- Where the places are after an insertion (up to the k-th span). -/
structure InsTo (L : Sp) (a n : Int) (k : Nat) (O : Sp) : Prop where
  nf : NF O
  e1 : endS (-1) O ≤ endS (-1) (L.take k) + n
  e2 : endS (-1) (L.take k) ≤ a → endS (-1) O ≤ endS (-1) (L.take k)
  me : ∀ i, memS O i ↔ (i < a ∧ memS (L.take k) i) ∨ (a + n ≤ i ∧ memS (L.take k) (i - n))
structure RemTo (L : Sp) (a n : Int) (k : Nat) (O : Sp) : Prop where
  nf : NF O
  en : endS (-1) O ≤ max (min (endS (-1) (L.take k)) a) (endS (-1) (L.take k) - n)
  me : ∀ i, memS O i ↔ (i < a ∧ memS (L.take k) i) ∨ (a ≤ i ∧ memS (L.take k) (i + n))
theorem take_end {L : Sp} (hN : NF L) {k : Nat} (hk : k < L.length) : endS (-1) (L.take k) < (sg L k).1 ∧ (sg L k).1 < (sg L k).2 ∧ (sg L k).2 ≤ 1073741824 ∧ endS (-1) (L.take (k + 1)) = (sg L k).2 ∧ ∀ i, memS (L.take (k + 1)) i ↔ memS (L.take k) i ∨ ((sg L k).1 ≤ i ∧ i < (sg L k).2) := by
  have e : L = L.take k ++ (sg L k :: L.drop (k + 1)) := by rw [sg_get L hk, ← List.drop_eq_getElem_cons hk, List.take_append_drop]
  have hN' := hN
  unfold NF at hN'
  rw [e] at hN'
  obtain ⟨q1, q2, q3, q4⟩ := (NFfrom.append.1 hN').2
  have e2 : L.take (k + 1) = L.take k ++ [sg L k] := by rw [sg_get L hk, List.take_succ_eq_append_getElem hk]
  refine ⟨q1, q2, q3, by rw [e2, endS_append]; rfl, fun i => ?_⟩
  rw [e2, memS_append, memS_cons]
  simp [memS_nil]
theorem InsTo.start (L : Sp) (a n : Int) (hn : 0 ≤ n) : InsTo L a n 0 [] := ⟨trivial, by show (-1 : Int) ≤ -1 + n; omega, fun _ => Int.le_refl _, fun i => by simp [memS_nil]⟩
theorem InsTo.step {L : Sp} {a n : Int} {k : Nat} {O : Sp} (h : InsTo L a n k O) (hN : NF L) (hk : k < L.length) (ha : 0 ≤ a) (hn : 0 ≤ n) (hm : a < (sg L k).2 → (sg L k).2 + n ≤ 1073741824) :
    InsTo L a n (k + 1) (addS (addS O (sg L k).1 (min (sg L k).2 a)) (max (sg L k).1 a + n) ((sg L k).2 + n)) ∧ NF (addS O (sg L k).1 (min (sg L k).2 a)) := by
  obtain ⟨q1, q2, q3, q4, q5⟩ := take_end hN hk
  obtain ⟨h1, h2, h3, h4⟩ := h
  have h0 := (NFfrom.le_end (NFfrom.append.1 (by have := hN; unfold NF at this; rwa [← List.take_append_drop k L] at this)).1)
  have h0' : -1 ≤ endS (-1) (L.take k) := by omega
  obtain ⟨x, hx⟩ : ∃ x, x = (sg L k).1 := ⟨_, rfl⟩
  obtain ⟨y, hy⟩ : ∃ x, x = (sg L k).2 := ⟨_, rfl⟩
  obtain ⟨e, he⟩ : ∃ x, x = endS (-1) (L.take k) := ⟨_, rfl⟩
  rw [← hx] at q1 q2 q5 ⊢
  rw [← hy] at q2 q3 q4 q5 hm ⊢
  rw [← he] at q1 h2 h3 h0'
  obtain ⟨a1, a2, a3⟩ := addS_opt (f := x) (t := min y a) h1 (fun c => ⟨by have := h3 (by omega); omega, by omega, by omega⟩)
  obtain ⟨b1, b2, b3⟩ := addS_opt (f := max x a + n) (t := y + n) a1 (fun c => ⟨by
    rw [a2]
    split
    · omega
    · omega, by omega, hm (by omega)⟩)
  refine ⟨⟨b1, ?_, ?_, fun i => ?_⟩, a1⟩
  · rw [b2, a2, q4]
    split
    · omega
    · split <;> omega
  · rw [b2, a2, q4]
    intro c
    rw [if_neg (by omega), if_pos (by omega)]
    omega
  · rw [b3, a3, h4, q5, q5]
    constructor
    · rintro (((⟨r1, r2⟩ | ⟨r1, r2⟩) | ⟨r1, r2⟩) | ⟨r1, r2⟩)
      · exact .inl ⟨r1, .inl r2⟩
      · exact .inr ⟨r1, .inl r2⟩
      · exact .inl ⟨by omega, .inr ⟨by omega, by omega⟩⟩
      · exact .inr ⟨by omega, .inr ⟨by omega, by omega⟩⟩
    · rintro (⟨r1, r2 | r2⟩ | ⟨r1, r2 | r2⟩)
      · exact .inl (.inl (.inl ⟨r1, r2⟩))
      · exact .inl (.inr ⟨by omega, by omega⟩)
      · exact .inl (.inl (.inr ⟨r1, r2⟩))
      · exact .inr ⟨by omega, by omega⟩
theorem RemTo.start (L : Sp) (a n : Int) (ha : 0 ≤ a) (hn : 0 ≤ n) : RemTo L a n 0 [] := ⟨trivial, by show (-1 : Int) ≤ max (min (-1) a) (-1 - n); omega, fun i => by simp [memS_nil]⟩
theorem RemTo.step {L : Sp} {a n : Int} {k : Nat} {O : Sp} (h : RemTo L a n k O) (hN : NF L) (hk : k < L.length) (ha : 0 ≤ a) (hn : 0 ≤ n) :
    RemTo L a n (k + 1) (addS (addS O (sg L k).1 (min (sg L k).2 a)) (max (sg L k).1 (a + n) - n) ((sg L k).2 - n)) ∧ NF (addS O (sg L k).1 (min (sg L k).2 a)) := by
  obtain ⟨q1, q2, q3, q4, q5⟩ := take_end hN hk
  obtain ⟨h1, h3, h4⟩ := h
  have h0 := (NFfrom.le_end (NFfrom.append.1 (by have := hN; unfold NF at this; rwa [← List.take_append_drop k L] at this)).1)
  have h0' : -1 ≤ endS (-1) (L.take k) := by omega
  obtain ⟨x, hx⟩ : ∃ x, x = (sg L k).1 := ⟨_, rfl⟩
  obtain ⟨y, hy⟩ : ∃ x, x = (sg L k).2 := ⟨_, rfl⟩
  obtain ⟨e, he⟩ : ∃ x, x = endS (-1) (L.take k) := ⟨_, rfl⟩
  rw [← hx] at q1 q2 q5 ⊢
  rw [← hy] at q2 q3 q4 q5 ⊢
  rw [← he] at q1 h3 h0'
  obtain ⟨a1, a2, a3⟩ := addS_opt (f := x) (t := min y a) h1 (fun c => ⟨by omega, by omega, by omega⟩)
  obtain ⟨b1, b2, b3⟩ := addS_opt (f := max x (a + n) - n) (t := y - n) a1 (fun c => ⟨by
    rw [a2]
    split <;> omega, by omega, by omega⟩)
  refine ⟨⟨b1, ?_, fun i => ?_⟩, a1⟩
  · rw [b2, a2, q4]
    split
    · omega
    · split <;> omega
  · rw [b3, a3, h4, q5, q5]
    constructor
    · rintro (((⟨r1, r2⟩ | ⟨r1, r2⟩) | ⟨r1, r2⟩) | ⟨r1, r2⟩)
      · exact .inl ⟨r1, .inl r2⟩
      · exact .inr ⟨r1, .inl r2⟩
      · exact .inl ⟨by omega, .inr ⟨by omega, by omega⟩⟩
      · exact .inr ⟨by omega, .inr ⟨by omega, by omega⟩⟩
    · rintro (⟨r1, r2 | r2⟩ | ⟨r1, r2 | r2⟩)
      · exact .inl (.inl (.inl ⟨r1, r2⟩))
      · exact .inl (.inr ⟨by omega, by omega⟩)
      · exact .inl (.inl (.inr ⟨r1, r2⟩))
      · exact .inr ⟨by omega, by omega⟩
end Go.Proofs.YtfmfmeiaekknbaaGreat
end

section
/-
  Contracts of package spans, sixth: Insert, Remove.
-/
namespace Go.Proofs.YtfmfmeiaekknbaaGreat
open Go.RowKit
set_option linter.unusedVariables false
set_option linter.unusedSimpArgs false

def InsPost (w : World) (L : Sp) (a n : Int) (e : Ending) (w' : World) : Prop :=
  (rngS L a n ≠ 0 ∧ SPost w [] (rngS L a n) e w') ∨ (rngS L a n = 0 ∧ (a < endS (-1) L ∧ 1073741824 < endS (-1) L + n) ∧ SPost w [] 4 e w') ∨
    (rngS L a n = 0 ∧ ¬ (a < endS (-1) L ∧ 1073741824 < endS (-1) L + n) ∧ ∃ R, InsTo L a n L.length R ∧ SPost w (dS R) (dE R) e w')
def RemPost (w : World) (L : Sp) (a n : Int) (e : Ending) (w' : World) : Prop :=
  (rngS L a n ≠ 0 ∧ SPost w [] (rngS L a n) e w') ∨ (rngS L a n = 0 ∧ ∃ R, RemTo L a n L.length R ∧ SPost w (dS R) (dE R) e w')
theorem rngS_zero {L : Sp} {a n : Int} (h : rngS L a n = 0) : NF L ∧ L.length ≤ 4096 ∧ 0 ≤ a ∧ a ≤ 1073741824 ∧ 0 ≤ n ∧ n ≤ 1073741824 := by
  unfold rngS at h
  by_cases c : chkS L ≠ 0
  · rw [if_pos c] at h; exact absurd h c
  · rw [if_neg c] at h
    by_cases d : a < 0 ∨ 1073741824 < a ∨ n < 0 ∨ 1073741824 < n
    · rw [if_pos d] at h; exact absurd h (by decide)
    · obtain ⟨h1, h2⟩ := chkS_zero.1 (Decidable.not_not.1 c)
      exact ⟨h1, h2, by omega, by omega, by omega, by omega⟩
theorem end_last {L : Sp} {k : Nat} (h : L.length = k + 1) : (sg L k).2 = endS (-1) L := by
  have e : L = L.take k ++ [sg L k] := by
    have h2 : L.take (k + 1) = L.take k ++ [sg L k] := by rw [sg_get L (by omega), List.take_succ_eq_append_getElem (by omega)]
    rwa [List.take_of_length_le (by omega)] at h2
  have := congrArg (endS (-1)) e
  rw [endS_append] at this
  exact this.symm
theorem end_le_last {L : Sp} (hN : NF L) {k : Nat} (hk : k < L.length) : (sg L k).2 ≤ endS (-1) L := (NFfrom.mem hN _ (sg_mem L hk)).2.2.1


set_option maxRecDepth 100000 in
set_option maxHeartbeats 6400000 in
theorem insert_any (w : World) (B : Nat) (A : Option Addr) (c : Nat) (L : Sp) (a n : Int) (h : SeesP w B A L) (hB : B ≤ w.heap.size) (hf : FitsS L) (hn : L.length ≤ 1000000000000000) (fa : Fits a) (fn : Fits n) :
    Calls Tryz.prog 97 #[.slice A L.length c, .int .i64 a, .int .i64 n] w (InsPost w L a n) := by
  have K1 := Lib.hid (ranged_any w B A c L a n h hB hf hn fa fn)
  have HS := Lib.hid (h.more hB)
  by_cases x0 : rngS L a n = 0
  case neg =>
    have H : Hid (∀ W, Below w.heap.size w W → InsPost w L a n (.returned (.tuple #[.slice none 0 0, .int .i64 (rngS L a n)])) W) := fun W hb => .inl ⟨x0, SPost.none hb _⟩
    have xb : (rngS L a n != 0) = true := by rw [bne_iff_ne]; exact x0
    obtain ⟨Q, eQ⟩ : ∃ Q, Q = InsPost w L a n := ⟨_, rfl⟩
    rw [← eQ] at H ⊢
    obtain ⟨m, em⟩ : ∃ n, n = L.length := ⟨_, rfl⟩
    obtain ⟨x, ex⟩ : ∃ r, r = rngS L a n := ⟨_, rfl⟩
    rw [← em, ← ex] at K1
    rw [← ex] at H xb
    rw [← em]
    clear h hf hn em ex x0 eQ
    go_enter Tryz.func97, Tryz.ntmps97
    go_wp2_with fail
    refine (K1.out).mono ?_
    rintro e w1 ⟨rfl, hb⟩
    have B1 := Lib.hid hb
    clear hb K1
    go_wp2_with fail
    exact H.out _ B1.out
  obtain ⟨nf, hl, ha0, ha1, hn0, hn1⟩ := rngS_zero x0
  by_cases hfar : a < endS (-1) L ∧ 1073741824 < endS (-1) L + n
  · have H : Hid (∀ W, Below w.heap.size w W → InsPost w L a n (.returned (.tuple #[.slice none 0 0, .int .i64 4])) W) := fun W hb => .inr (.inl ⟨x0, hfar, SPost.none hb _⟩)
    rw [x0] at K1
    obtain ⟨k, hk⟩ : ∃ k, L.length = k + 1 := by
      cases e : L.length with
      | zero =>
        have : L = [] := List.length_eq_zero_iff.1 e
        rw [this] at hfar
        have : endS (-1) ([] : Sp) = -1 := rfl
        omega
      | succ k => exact ⟨k, rfl⟩
    have hE := end_last hk
    have hE2 := NFfrom.end_le nf (by omega)
    have HC : Hid (∀ W, Below w.heap.size w W → ∃ b o, A = some ⟨b, o, none⟩ ∧ b < w.heap.size ∧ W.cell? ⟨b, o + k * 2, none⟩ = some (.int .i64 (sg L k).1) ∧ W.cell? ⟨b, o + k * 2 + 1, none⟩ = some (.int .i64 (sg L k).2)) := fun W hW => SeesP.cells (HS.out.below hW) (by omega)
    rw [hE] at HC
    obtain ⟨y, hy⟩ : ∃ y, y = endS (-1) L := ⟨_, rfl⟩
    rw [← hy] at HC hfar hE2
    obtain ⟨f1, f2⟩ := hfar
    obtain ⟨Q, eQ⟩ : ∃ Q, Q = InsPost w L a n := ⟨_, rfl⟩
    rw [← eQ] at H ⊢
    rw [hk] at K1 hl ⊢
    clear h hf hn x0 eQ nf hE hk hy
    go_enter Tryz.func97, Tryz.ntmps97
    go_wp2_with fail
    refine (K1.out).mono ?_
    rintro e w1 ⟨rfl, hb⟩
    obtain ⟨b, o, rfl, _, _, c1⟩ := HC.out w1 hb
    have B1 := Lib.hid hb
    clear hb K1
    go_wp2_with fail
    exact H.out _ B1.out
  · rw [x0] at K1
    have H : Hid (∀ R e w', InsTo L a n L.length R → SPost w (dS R) (dE R) e w' → InsPost w L a n e w') := fun R e w' h1 h2 => .inr (.inr ⟨x0, hfar, R, h1, h2⟩)
    have I0 : Hid (InsTo L a n 0 []) := InsTo.start L a n hn0
    have NL := Lib.hid nf
    have hE2 := NFfrom.end_le nf (by omega)
    have hfar' : endS (-1) L ≤ a ∨ endS (-1) L + n ≤ 1073741824 := by omega
    have HST : Hid (∀ k O, k < L.length → InsTo L a n k O → InsTo L a n (k + 1) (addS (addS O (sg L k).1 (min (sg L k).2 a)) (max (sg L k).1 a + n) ((sg L k).2 + n)) ∧ NF (addS O (sg L k).1 (min (sg L k).2 a))) := fun k O hk h => h.step nf hk ha0 hn0 (fun c => by have := end_le_last nf hk; omega)
    obtain ⟨m, em⟩ : ∃ n, n = L.length := ⟨_, rfl⟩
    have EM := Lib.hid em
    obtain ⟨y, hy⟩ : ∃ y, y = endS (-1) L := ⟨_, rfl⟩
    have HLAST : Hid (∀ k, m = k + 1 → (sg L k).2 = y) := fun k hk => by rw [hy]; exact end_last (by rw [← em]; exact hk)
    rw [← hy] at hfar' hE2
    obtain ⟨Q, eQ⟩ : ∃ Q, Q = InsPost w L a n := ⟨_, rfl⟩
    rw [← eQ] at H ⊢
    rw [← em] at K1 hl ⊢
    clear h hf hn x0 eQ nf em hy hfar
    cases m with
    | zero =>
      go_enter Tryz.func97, Tryz.ntmps97
      go_wp2_with fail
      refine (K1.out).mono ?_
      rintro e w1 ⟨rfl, hb⟩
      have B1 := Lib.hid hb
      clear hb K1
      go_wp2_with fail
      go_loopw [10, 46] (fun o i wr => o = .slice none 0 0 ∧ i = .int .i64 0 ∧ Hid (Below w.heap.size w wr)) (fun _ _ _ => 0)
      case atStart => exact ⟨rfl, rfl, B1⟩
      case round =>
        obtain ⟨rfl, rfl, hD⟩ := hrel
        have KD := Lib.hid (done_any w wr none 0 [] (seesP_nil _ _) (Nat.le_refl _) (by decide) hD.out)
        go_wp2_with fail
        refine (KD.out).mono ?_
        rintro e w5 ⟨A5, rfl, q1, hb⟩
        have HH := Lib.hid (H.out [] _ _ (by rw [← EM.out]; exact I0.out) ⟨A5, rfl, q1, hb⟩)
        clear q1 hb KD
        go_wp2_with fail
        exact HH.out
    | succ q =>
      have hy := HLAST.out q rfl
      go_enter Tryz.func97, Tryz.ntmps97
      go_wp2_with fail
      refine (K1.out).mono ?_
      rintro e w1 ⟨rfl, hb⟩
      obtain ⟨b, o, rfl, _, _, c1⟩ := SeesP.cells (HS.out.below hb) (k := q) (by rw [← EM.out]; omega)
      rw [hy] at c1
      clear hy
      have B1 := Lib.hid hb
      clear hb K1
      rcases hfar' with hq | hq
      · go_wp2_with fail
        clear HLAST
        go_loopw [10, 46] (fun o i wr => ∃ (k : Nat) (O : Sp) (Ao : Option Addr) (co : Nat), k ≤ (q + 1) ∧ o = .slice Ao O.length co ∧ i = .int .i64 k ∧ Hid (OwnP wr w.heap.size Ao co O) ∧ Hid (InsTo L a n k O) ∧ Hid (Below w.heap.size w wr)) (fun _ i _ => (q + 1) - (intOf i).toNat)
        case atStart => exact ⟨0, [], none, 0, Nat.zero_le _, rfl, rfl, Own.nil _ _ _ _ _, I0, B1⟩
        case round =>
          obtain ⟨k, O, Ao, co, hk, rfl, rfl, hO, hI, hD⟩ := hrel
          clear B1 I0
          by_cases hlt : k < (q + 1)
          · obtain ⟨b', o', hA', hb0, e0, e1⟩ := SeesP.cells (HS.out.below hD.out) (k := k) (by rw [← EM.out]; exact hlt)
            cases hA'
            obtain ⟨m1, m2, m3, m4⟩ := NFfrom.mem NL.out _ (sg_mem L (show k < L.length by rw [← EM.out]; exact hlt))
            obtain ⟨st1, st2⟩ := HST.out k O (by rw [← EM.out]; exact hlt) hI.out
            obtain ⟨x, hx⟩ : ∃ x, x = (sg L k).1 := ⟨_, rfl⟩
            obtain ⟨z, hz⟩ : ∃ x, x = (sg L k).2 := ⟨_, rfl⟩
            rw [← hx] at e0 m1 m2 st1 st2
            rw [← hz] at e1 m2 m4 st1 st2
            have hlen := NF.len hI.out.nf
            have hlen2 := NF.len st2
            have ST := Lib.hid st1
            have D1 : Hid (Below w.heap.size w (wr.alloc (.cells #[.int .i64 x, .int .i64 z] 168))) := hD.out.alloc hD.out.size _
            have KA := Lib.hid (sadd_any (wr.alloc (.cells #[.int .i64 x, .int .i64 z] 168)) w.heap.size Ao co O x (min z a) (hO.out.below ((Below.refl _ wr).alloc (Nat.le_refl _) _)) D1.out.size (by omega) ⟨by omega, by omega⟩ ⟨by omega, by omega⟩ (NF.fits hI.out.nf))
            have NF2 := Lib.hid st2
            obtain ⟨O1, eO1⟩ : ∃ O1, O1 = addS O x (min z a) := ⟨_, rfl⟩
            rw [← eO1] at KA ST NF2 hlen2
            obtain ⟨nO, enO⟩ : ∃ n, n = O.length := ⟨_, rfl⟩
            rw [← enO] at KA ⊢
            have bx0 := (World.rowIs_alloc wr #[.int .i64 x, .int .i64 z] 168 (fun j => if j = 0 then .int .i64 x else .int .i64 z) (fun j hj => by
              have : j = 0 ∨ j = 1 := by simp at hj; omega
              rcases this with rfl | rfl <;> rfl))
            have BX := Lib.hid bx0
            have hO' := hO
            clear hx hz st1 st2 eO1 hO hI hlen m3 enO bx0
            go_wp2_with fail
            have hAb := Lib.hid (fun b hb => (hO'.out.blk b hb).2)
            refine (KA.out).mono ?_
            rintro e w5 ⟨A5, c5, rfl, O5, hb, _, hfr⟩
            have D5 := Lib.hid (D1.out.trans hb)
            have BX5 := Lib.hid (World.rowIs.of_block BX.out (hfr.block _ (World.rowIs.lt BX.out) (fun hbl => by have := hAb.out _ hbl; omega)))
            have u0 := BX5.out.cell (i := 0) (by simp)
            have u1 := BX5.out.cell (i := 1) (by simp)
            have KB := Lib.hid (sadd_any w5 w.heap.size A5 c5 O1 (max x a + n) (z + n) O5 D5.out.size (by omega) ⟨by omega, by omega⟩ ⟨by omega, by omega⟩ (NF.fits NF2.out))
            obtain ⟨O2, eO2⟩ : ∃ O2, O2 = addS O1 (max x a + n) (z + n) := ⟨_, rfl⟩
            rw [← eO2] at KB ST
            obtain ⟨n1, en1⟩ : ∃ n, n = O1.length := ⟨_, rfl⟩
            rw [← en1] at KB ⊢
            rw [if_pos rfl] at u0
            rw [if_neg (by decide)] at u1
            clear hb hfr O5 KA BX hAb eO2 en1 e0 e1 hO'
            go_wp2_with fail
            refine (KB.out).mono ?_
            rintro e w6 ⟨A6, c6, rfl, O6, hb, _⟩
            have D6 := Lib.hid (D5.out.trans hb)
            have P6 := Lib.hid O6
            clear hb O6 KB u0 u1 BX5
            go_wp2_with fail
            go_roundw
            case rel => exact ⟨k + 1, O2, A6, c6, by omega, rfl, by go_num, P6, ST, D6⟩
            case measure => simp [intOf]; omega
          · obtain rfl : k = (q + 1) := by omega
            have KD := Lib.hid (done_any w wr Ao co O (hO.out.sees) hO.out.le (by have := NF.len hI.out.nf; omega) hD.out)
            go_wp2_with fail
            refine (KD.out).mono ?_
            rintro e w5 ⟨A5, rfl, q1, hb⟩
            have HH := Lib.hid (H.out O _ _ (by rw [← EM.out]; exact hI.out) ⟨A5, rfl, q1, hb⟩)
            clear q1 hb KD
            go_wp2_with fail
            exact HH.out
      · by_cases hq2 : y ≤ a
        · go_wp2_with fail
          clear HLAST
          go_loopw [10, 46] (fun o i wr => ∃ (k : Nat) (O : Sp) (Ao : Option Addr) (co : Nat), k ≤ (q + 1) ∧ o = .slice Ao O.length co ∧ i = .int .i64 k ∧ Hid (OwnP wr w.heap.size Ao co O) ∧ Hid (InsTo L a n k O) ∧ Hid (Below w.heap.size w wr)) (fun _ i _ => (q + 1) - (intOf i).toNat)
          case atStart => exact ⟨0, [], none, 0, Nat.zero_le _, rfl, rfl, Own.nil _ _ _ _ _, I0, B1⟩
          case round =>
            obtain ⟨k, O, Ao, co, hk, rfl, rfl, hO, hI, hD⟩ := hrel
            clear B1 I0
            by_cases hlt : k < (q + 1)
            · obtain ⟨b', o', hA', hb0, e0, e1⟩ := SeesP.cells (HS.out.below hD.out) (k := k) (by rw [← EM.out]; exact hlt)
              cases hA'
              obtain ⟨m1, m2, m3, m4⟩ := NFfrom.mem NL.out _ (sg_mem L (show k < L.length by rw [← EM.out]; exact hlt))
              obtain ⟨st1, st2⟩ := HST.out k O (by rw [← EM.out]; exact hlt) hI.out
              obtain ⟨x, hx⟩ : ∃ x, x = (sg L k).1 := ⟨_, rfl⟩
              obtain ⟨z, hz⟩ : ∃ x, x = (sg L k).2 := ⟨_, rfl⟩
              rw [← hx] at e0 m1 m2 st1 st2
              rw [← hz] at e1 m2 m4 st1 st2
              have hlen := NF.len hI.out.nf
              have hlen2 := NF.len st2
              have ST := Lib.hid st1
              have D1 : Hid (Below w.heap.size w (wr.alloc (.cells #[.int .i64 x, .int .i64 z] 168))) := hD.out.alloc hD.out.size _
              have KA := Lib.hid (sadd_any (wr.alloc (.cells #[.int .i64 x, .int .i64 z] 168)) w.heap.size Ao co O x (min z a) (hO.out.below ((Below.refl _ wr).alloc (Nat.le_refl _) _)) D1.out.size (by omega) ⟨by omega, by omega⟩ ⟨by omega, by omega⟩ (NF.fits hI.out.nf))
              have NF2 := Lib.hid st2
              obtain ⟨O1, eO1⟩ : ∃ O1, O1 = addS O x (min z a) := ⟨_, rfl⟩
              rw [← eO1] at KA ST NF2 hlen2
              obtain ⟨nO, enO⟩ : ∃ n, n = O.length := ⟨_, rfl⟩
              rw [← enO] at KA ⊢
              have bx0 := (World.rowIs_alloc wr #[.int .i64 x, .int .i64 z] 168 (fun j => if j = 0 then .int .i64 x else .int .i64 z) (fun j hj => by
                have : j = 0 ∨ j = 1 := by simp at hj; omega
                rcases this with rfl | rfl <;> rfl))
              have BX := Lib.hid bx0
              have hO' := hO
              clear hx hz st1 st2 eO1 hO hI hlen m3 enO bx0
              go_wp2_with fail
              have hAb := Lib.hid (fun b hb => (hO'.out.blk b hb).2)
              refine (KA.out).mono ?_
              rintro e w5 ⟨A5, c5, rfl, O5, hb, _, hfr⟩
              have D5 := Lib.hid (D1.out.trans hb)
              have BX5 := Lib.hid (World.rowIs.of_block BX.out (hfr.block _ (World.rowIs.lt BX.out) (fun hbl => by have := hAb.out _ hbl; omega)))
              have u0 := BX5.out.cell (i := 0) (by simp)
              have u1 := BX5.out.cell (i := 1) (by simp)
              have KB := Lib.hid (sadd_any w5 w.heap.size A5 c5 O1 (max x a + n) (z + n) O5 D5.out.size (by omega) ⟨by omega, by omega⟩ ⟨by omega, by omega⟩ (NF.fits NF2.out))
              obtain ⟨O2, eO2⟩ : ∃ O2, O2 = addS O1 (max x a + n) (z + n) := ⟨_, rfl⟩
              rw [← eO2] at KB ST
              obtain ⟨n1, en1⟩ : ∃ n, n = O1.length := ⟨_, rfl⟩
              rw [← en1] at KB ⊢
              rw [if_pos rfl] at u0
              rw [if_neg (by decide)] at u1
              clear hb hfr O5 KA BX hAb eO2 en1 e0 e1 hO'
              go_wp2_with fail
              refine (KB.out).mono ?_
              rintro e w6 ⟨A6, c6, rfl, O6, hb, _⟩
              have D6 := Lib.hid (D5.out.trans hb)
              have P6 := Lib.hid O6
              clear hb O6 KB u0 u1 BX5
              go_wp2_with fail
              go_roundw
              case rel => exact ⟨k + 1, O2, A6, c6, by omega, rfl, by go_num, P6, ST, D6⟩
              case measure => simp [intOf]; omega
            · obtain rfl : k = (q + 1) := by omega
              have KD := Lib.hid (done_any w wr Ao co O (hO.out.sees) hO.out.le (by have := NF.len hI.out.nf; omega) hD.out)
              go_wp2_with fail
              refine (KD.out).mono ?_
              rintro e w5 ⟨A5, rfl, q1, hb⟩
              have HH := Lib.hid (H.out O _ _ (by rw [← EM.out]; exact hI.out) ⟨A5, rfl, q1, hb⟩)
              clear q1 hb KD
              go_wp2_with fail
              exact HH.out
        · go_wp2_with fail
          clear HLAST
          go_loopw [10, 46] (fun o i wr => ∃ (k : Nat) (O : Sp) (Ao : Option Addr) (co : Nat), k ≤ (q + 1) ∧ o = .slice Ao O.length co ∧ i = .int .i64 k ∧ Hid (OwnP wr w.heap.size Ao co O) ∧ Hid (InsTo L a n k O) ∧ Hid (Below w.heap.size w wr)) (fun _ i _ => (q + 1) - (intOf i).toNat)
          case atStart => exact ⟨0, [], none, 0, Nat.zero_le _, rfl, rfl, Own.nil _ _ _ _ _, I0, B1⟩
          case round =>
            obtain ⟨k, O, Ao, co, hk, rfl, rfl, hO, hI, hD⟩ := hrel
            clear B1 I0
            by_cases hlt : k < (q + 1)
            · obtain ⟨b', o', hA', hb0, e0, e1⟩ := SeesP.cells (HS.out.below hD.out) (k := k) (by rw [← EM.out]; exact hlt)
              cases hA'
              obtain ⟨m1, m2, m3, m4⟩ := NFfrom.mem NL.out _ (sg_mem L (show k < L.length by rw [← EM.out]; exact hlt))
              obtain ⟨st1, st2⟩ := HST.out k O (by rw [← EM.out]; exact hlt) hI.out
              obtain ⟨x, hx⟩ : ∃ x, x = (sg L k).1 := ⟨_, rfl⟩
              obtain ⟨z, hz⟩ : ∃ x, x = (sg L k).2 := ⟨_, rfl⟩
              rw [← hx] at e0 m1 m2 st1 st2
              rw [← hz] at e1 m2 m4 st1 st2
              have hlen := NF.len hI.out.nf
              have hlen2 := NF.len st2
              have ST := Lib.hid st1
              have D1 : Hid (Below w.heap.size w (wr.alloc (.cells #[.int .i64 x, .int .i64 z] 168))) := hD.out.alloc hD.out.size _
              have KA := Lib.hid (sadd_any (wr.alloc (.cells #[.int .i64 x, .int .i64 z] 168)) w.heap.size Ao co O x (min z a) (hO.out.below ((Below.refl _ wr).alloc (Nat.le_refl _) _)) D1.out.size (by omega) ⟨by omega, by omega⟩ ⟨by omega, by omega⟩ (NF.fits hI.out.nf))
              have NF2 := Lib.hid st2
              obtain ⟨O1, eO1⟩ : ∃ O1, O1 = addS O x (min z a) := ⟨_, rfl⟩
              rw [← eO1] at KA ST NF2 hlen2
              obtain ⟨nO, enO⟩ : ∃ n, n = O.length := ⟨_, rfl⟩
              rw [← enO] at KA ⊢
              have bx0 := (World.rowIs_alloc wr #[.int .i64 x, .int .i64 z] 168 (fun j => if j = 0 then .int .i64 x else .int .i64 z) (fun j hj => by
                have : j = 0 ∨ j = 1 := by simp at hj; omega
                rcases this with rfl | rfl <;> rfl))
              have BX := Lib.hid bx0
              have hO' := hO
              clear hx hz st1 st2 eO1 hO hI hlen m3 enO bx0
              go_wp2_with fail
              have hAb := Lib.hid (fun b hb => (hO'.out.blk b hb).2)
              refine (KA.out).mono ?_
              rintro e w5 ⟨A5, c5, rfl, O5, hb, _, hfr⟩
              have D5 := Lib.hid (D1.out.trans hb)
              have BX5 := Lib.hid (World.rowIs.of_block BX.out (hfr.block _ (World.rowIs.lt BX.out) (fun hbl => by have := hAb.out _ hbl; omega)))
              have u0 := BX5.out.cell (i := 0) (by simp)
              have u1 := BX5.out.cell (i := 1) (by simp)
              have KB := Lib.hid (sadd_any w5 w.heap.size A5 c5 O1 (max x a + n) (z + n) O5 D5.out.size (by omega) ⟨by omega, by omega⟩ ⟨by omega, by omega⟩ (NF.fits NF2.out))
              obtain ⟨O2, eO2⟩ : ∃ O2, O2 = addS O1 (max x a + n) (z + n) := ⟨_, rfl⟩
              rw [← eO2] at KB ST
              obtain ⟨n1, en1⟩ : ∃ n, n = O1.length := ⟨_, rfl⟩
              rw [← en1] at KB ⊢
              rw [if_pos rfl] at u0
              rw [if_neg (by decide)] at u1
              clear hb hfr O5 KA BX hAb eO2 en1 e0 e1 hO'
              go_wp2_with fail
              refine (KB.out).mono ?_
              rintro e w6 ⟨A6, c6, rfl, O6, hb, _⟩
              have D6 := Lib.hid (D5.out.trans hb)
              have P6 := Lib.hid O6
              clear hb O6 KB u0 u1 BX5
              go_wp2_with fail
              go_roundw
              case rel => exact ⟨k + 1, O2, A6, c6, by omega, rfl, by go_num, P6, ST, D6⟩
              case measure => simp [intOf]; omega
            · obtain rfl : k = (q + 1) := by omega
              have KD := Lib.hid (done_any w wr Ao co O (hO.out.sees) hO.out.le (by have := NF.len hI.out.nf; omega) hD.out)
              go_wp2_with fail
              refine (KD.out).mono ?_
              rintro e w5 ⟨A5, rfl, q1, hb⟩
              have HH := Lib.hid (H.out O _ _ (by rw [← EM.out]; exact hI.out) ⟨A5, rfl, q1, hb⟩)
              clear q1 hb KD
              go_wp2_with fail
              exact HH.out

set_option maxRecDepth 100000 in
set_option maxHeartbeats 6400000 in
theorem remove_any (w : World) (B : Nat) (A : Option Addr) (c : Nat) (L : Sp) (a n : Int) (h : SeesP w B A L) (hB : B ≤ w.heap.size) (hf : FitsS L) (hn : L.length ≤ 1000000000000000) (fa : Fits a) (fn : Fits n) :
    Calls Tryz.prog 96 #[.slice A L.length c, .int .i64 a, .int .i64 n] w (RemPost w L a n) := by
  have K1 := Lib.hid (ranged_any w B A c L a n h hB hf hn fa fn)
  have HS := Lib.hid (h.more hB)
  by_cases x0 : rngS L a n = 0
  case neg =>
    have H : Hid (∀ W, Below w.heap.size w W → RemPost w L a n (.returned (.tuple #[.slice none 0 0, .int .i64 (rngS L a n)])) W) := fun W hb => .inl ⟨x0, SPost.none hb _⟩
    have xb : (rngS L a n != 0) = true := by rw [bne_iff_ne]; exact x0
    obtain ⟨Q, eQ⟩ : ∃ Q, Q = RemPost w L a n := ⟨_, rfl⟩
    rw [← eQ] at H ⊢
    obtain ⟨m, em⟩ : ∃ n, n = L.length := ⟨_, rfl⟩
    obtain ⟨x, ex⟩ : ∃ r, r = rngS L a n := ⟨_, rfl⟩
    rw [← em, ← ex] at K1
    rw [← ex] at H xb
    rw [← em]
    clear h hf hn em ex x0 eQ
    go_enter Tryz.func96, Tryz.ntmps96
    go_wp2_with fail
    refine (K1.out).mono ?_
    rintro e w1 ⟨rfl, hb⟩
    have B1 := Lib.hid hb
    clear hb K1
    go_wp2_with fail
    exact H.out _ B1.out
  obtain ⟨nf, hl, ha0, ha1, hn0, hn1⟩ := rngS_zero x0
  rw [x0] at K1
  have H : Hid (∀ R e w', RemTo L a n L.length R → SPost w (dS R) (dE R) e w' → RemPost w L a n e w') := fun R e w' h1 h2 => .inr ⟨x0, R, h1, h2⟩
  have I0 : Hid (RemTo L a n 0 []) := RemTo.start L a n ha0 hn0
  have NL := Lib.hid nf
  have HST : Hid (∀ k O, k < L.length → RemTo L a n k O → RemTo L a n (k + 1) (addS (addS O (sg L k).1 (min (sg L k).2 a)) (max (sg L k).1 (a + n) - n) ((sg L k).2 - n)) ∧ NF (addS O (sg L k).1 (min (sg L k).2 a))) := fun k O hk h => h.step nf hk ha0 hn0
  obtain ⟨m, em⟩ : ∃ n, n = L.length := ⟨_, rfl⟩
  have EM := Lib.hid em
  obtain ⟨Q, eQ⟩ : ∃ Q, Q = RemPost w L a n := ⟨_, rfl⟩
  rw [← eQ] at H ⊢
  rw [← em] at K1 hl ⊢
  have HLAST := True.intro
  clear h hf hn x0 eQ nf em
  go_enter Tryz.func96, Tryz.ntmps96
  go_wp2_with fail
  refine (K1.out).mono ?_
  rintro e w1 ⟨rfl, hb⟩
  have B1 := Lib.hid hb
  clear hb K1
  go_wp2_with fail
  clear HLAST
  go_loopw [9, 21] (fun o i wr => ∃ (k : Nat) (O : Sp) (Ao : Option Addr) (co : Nat), k ≤ m ∧ o = .slice Ao O.length co ∧ i = .int .i64 k ∧ Hid (OwnP wr w.heap.size Ao co O) ∧ Hid (RemTo L a n k O) ∧ Hid (Below w.heap.size w wr)) (fun _ i _ => m - (intOf i).toNat)
  case atStart => exact ⟨0, [], none, 0, Nat.zero_le _, rfl, rfl, Own.nil _ _ _ _ _, I0, B1⟩
  case round =>
    obtain ⟨k, O, Ao, co, hk, rfl, rfl, hO, hI, hD⟩ := hrel
    clear B1 I0
    by_cases hlt : k < m
    · obtain ⟨b', o', hA', hb0, e0, e1⟩ := SeesP.cells (HS.out.below hD.out) (k := k) (by rw [← EM.out]; exact hlt)
      cases hA'
      obtain ⟨m1, m2, m3, m4⟩ := NFfrom.mem NL.out _ (sg_mem L (show k < L.length by rw [← EM.out]; exact hlt))
      obtain ⟨st1, st2⟩ := HST.out k O (by rw [← EM.out]; exact hlt) hI.out
      obtain ⟨x, hx⟩ : ∃ x, x = (sg L k).1 := ⟨_, rfl⟩
      obtain ⟨z, hz⟩ : ∃ x, x = (sg L k).2 := ⟨_, rfl⟩
      rw [← hx] at e0 m1 m2 st1 st2
      rw [← hz] at e1 m2 m4 st1 st2
      have hlen := NF.len hI.out.nf
      have hlen2 := NF.len st2
      have ST := Lib.hid st1
      have D1 : Hid (Below w.heap.size w (wr.alloc (.cells #[.int .i64 x, .int .i64 z] 168))) := hD.out.alloc hD.out.size _
      have KA := Lib.hid (sadd_any (wr.alloc (.cells #[.int .i64 x, .int .i64 z] 168)) w.heap.size Ao co O x (min z a) (hO.out.below ((Below.refl _ wr).alloc (Nat.le_refl _) _)) D1.out.size (by omega) ⟨by omega, by omega⟩ ⟨by omega, by omega⟩ (NF.fits hI.out.nf))
      have NF2 := Lib.hid st2
      obtain ⟨O1, eO1⟩ : ∃ O1, O1 = addS O x (min z a) := ⟨_, rfl⟩
      rw [← eO1] at KA ST NF2 hlen2
      obtain ⟨nO, enO⟩ : ∃ n, n = O.length := ⟨_, rfl⟩
      rw [← enO] at KA ⊢
      have bx0 := (World.rowIs_alloc wr #[.int .i64 x, .int .i64 z] 168 (fun j => if j = 0 then .int .i64 x else .int .i64 z) (fun j hj => by
        have : j = 0 ∨ j = 1 := by simp at hj; omega
        rcases this with rfl | rfl <;> rfl))
      have BX := Lib.hid bx0
      have hO' := hO
      clear hx hz st1 st2 eO1 hO hI hlen m3 enO bx0
      go_wp2_with fail
      have hAb := Lib.hid (fun b hb => (hO'.out.blk b hb).2)
      refine (KA.out).mono ?_
      rintro e w5 ⟨A5, c5, rfl, O5, hb, _, hfr⟩
      have D5 := Lib.hid (D1.out.trans hb)
      have BX5 := Lib.hid (World.rowIs.of_block BX.out (hfr.block _ (World.rowIs.lt BX.out) (fun hbl => by have := hAb.out _ hbl; omega)))
      have u0 := BX5.out.cell (i := 0) (by simp)
      have u1 := BX5.out.cell (i := 1) (by simp)
      have KB := Lib.hid (sadd_any w5 w.heap.size A5 c5 O1 (max x (a + n) - n) (z - n) O5 D5.out.size (by omega) ⟨by omega, by omega⟩ ⟨by omega, by omega⟩ (NF.fits NF2.out))
      obtain ⟨O2, eO2⟩ : ∃ O2, O2 = addS O1 (max x (a + n) - n) (z - n) := ⟨_, rfl⟩
      rw [← eO2] at KB ST
      obtain ⟨n1, en1⟩ : ∃ n, n = O1.length := ⟨_, rfl⟩
      rw [← en1] at KB ⊢
      rw [if_pos rfl] at u0
      rw [if_neg (by decide)] at u1
      clear hb hfr O5 KA BX hAb eO2 en1 e0 e1 hO'
      go_wp2_with fail
      refine (KB.out).mono ?_
      rintro e w6 ⟨A6, c6, rfl, O6, hb, _⟩
      have D6 := Lib.hid (D5.out.trans hb)
      have P6 := Lib.hid O6
      clear hb O6 KB u0 u1 BX5
      go_wp2_with fail
      go_roundw
      case rel => exact ⟨k + 1, O2, A6, c6, by omega, rfl, by go_num, P6, ST, D6⟩
      case measure => simp [intOf]; omega
    · obtain rfl : k = m := by omega
      have KD := Lib.hid (done_any w wr Ao co O (hO.out.sees) hO.out.le (by have := NF.len hI.out.nf; omega) hD.out)
      go_wp2_with fail
      refine (KD.out).mono ?_
      rintro e w5 ⟨A5, rfl, q1, hb⟩
      have HH := Lib.hid (H.out O _ _ (by rw [← EM.out]; exact hI.out) ⟨A5, rfl, q1, hb⟩)
      clear q1 hb KD
      go_wp2_with fail
      exact HH.out
end Go.Proofs.YtfmfmeiaekknbaaGreat
end

section
/-
  Ropes, plain: trees whose subtrees differ in height by at most 1; lists of sizes. No Go text.
-/
namespace Go.Proofs.YtfmfmeiaekknbaaGreat

inductive T where
  | nil
  | node (l : T) (s : Int) (r : T)
namespace T
/-- The sizes. -/
def l : T → List Int
  | nil => []
  | node a s b => a.l ++ s :: b.l
def ht : T → Nat
  | nil => 0
  | node a _ b => max a.ht b.ht + 1
def Bal : T → Prop
  | nil => True
  | node a _ b => a.Bal ∧ b.Bal ∧ a.ht ≤ b.ht + 1 ∧ b.ht ≤ a.ht + 1
theorem l_nil : (nil).l = [] := rfl
theorem l_node (a b : T) (s : Int) : (node a s b).l = a.l ++ s :: b.l := rfl
theorem ht_node (a b : T) (s : Int) : (node a s b).ht = max a.ht b.ht + 1 := rfl
theorem ht_pos {t : T} (h : 0 < t.ht) : ∃ a s b, t = node a s b := by
  cases t with
  | nil => exact absurd h (by decide)
  | node a s b => exact ⟨a, s, b, rfl⟩
theorem l_pos {t : T} (h : 0 < t.l.length) : ∃ a s b, t = node a s b := by
  cases t with
  | nil => exact absurd h (by decide)
  | node a s b => exact ⟨a, s, b, rfl⟩
theorem l_empty {t : T} (h : t.l = []) : t = nil := by
  cases t with
  | nil => rfl
  | node a s b => rw [l_node] at h; simp at h
theorem ht_le (t : T) : t.ht ≤ t.l.length := by
  induction t with
  | nil => exact Nat.le_refl _
  | node a s b iha ihb => rw [ht_node, l_node]; simp; omega
theorem len_lt (t : T) : t.l.length < 2 ^ t.ht := by
  induction t with
  | nil => decide
  | node a s b iha ihb =>
    rw [ht_node, l_node, Nat.pow_succ]
    have h1 : 2 ^ a.ht ≤ 2 ^ (max a.ht b.ht) := Nat.pow_le_pow_right (by decide) (Nat.le_max_left _ _)
    have h2 : 2 ^ b.ht ≤ 2 ^ (max a.ht b.ht) := Nat.pow_le_pow_right (by decide) (Nat.le_max_right _ _)
    simp; omega
end T

/-- How many sizes a tree of a height has at least. -/
def FF : Nat → Nat
  | 0 => 0
  | 1 => 1
  | d + 2 => FF d + FF (d + 1) + 1
/-! ### Lists of sizes -/
theorem sum_nn {L : List Int} (h : ∀ x ∈ L, 0 ≤ x) : 0 ≤ L.sum := by
  induction L with
  | nil => exact Int.le_refl _
  | cons x L ih =>
    rw [List.sum_cons]
    have := ih (fun y hy => h y (by simp [hy]))
    have := h x (by simp)
    omega
/-- Sizes that a rope may have. -/
structure LOk (L : List Int) : Prop where
  nn : ∀ x ∈ L, 0 ≤ x
  len : L.length ≤ 8192
  top : L.sum ≤ 4611686018427387904
theorem LOk.sum0 {L : List Int} (h : LOk L) : 0 ≤ L.sum := sum_nn h.nn
theorem LOk.left {A B : List Int} (h : LOk (A ++ B)) : LOk A := by
  obtain ⟨h1, h2, h3⟩ := h
  have hb : 0 ≤ B.sum := sum_nn fun x hx => h1 x (by simp [hx])
  rw [List.sum_append] at h3
  rw [List.length_append] at h2
  exact ⟨fun x hx => h1 x (by simp [hx]), by omega, by omega⟩
theorem LOk.right {A B : List Int} (h : LOk (A ++ B)) : LOk B := by
  obtain ⟨h1, h2, h3⟩ := h
  have hb : 0 ≤ A.sum := sum_nn fun x hx => h1 x (by simp [hx])
  rw [List.sum_append] at h3
  rw [List.length_append] at h2
  exact ⟨fun x hx => h1 x (by simp [hx]), by omega, by omega⟩
theorem LOk.tail {x : Int} {B : List Int} (h : LOk (x :: B)) : LOk B := LOk.right (A := [x]) h
theorem LOk.head {x : Int} {B : List Int} (h : LOk (x :: B)) : 0 ≤ x ∧ x ≤ 4611686018427387904 := by
  have h1 := h.nn x (by simp)
  have h2 := h.tail.sum0
  have h3 := h.top
  rw [List.sum_cons] at h3
  omega
theorem LOk.nil : LOk [] := ⟨fun x h => (by cases h), by decide, by decide⟩
theorem LOk.take {L : List Int} (h : LOk L) (k : Nat) : LOk (L.take k) := LOk.left (B := L.drop k) (by rw [List.take_append_drop]; exact h)
theorem LOk.drop {L : List Int} (h : LOk L) (k : Nat) : LOk (L.drop k) := LOk.right (A := L.take k) (by rw [List.take_append_drop]; exact h)

/-- A list as a function. -/
def lf (L : List Int) : Nat → Int := fun j => L.getD j 0
theorem psum_lf (L : List Int) (k : Nat) (hk : k ≤ L.length) : psum (lf L) k = (L.take k).sum := by
  induction k with
  | zero => rfl
  | succ k ih =>
    rw [psum_succ, ih (by omega), List.take_succ_eq_append_getElem (by omega), List.sum_append]
    simp [lf, List.getD_eq_getElem?_getD]
    rw [List.getElem?_eq_getElem (by omega)]; rfl
theorem psum_lf_all (L : List Int) : psum (lf L) L.length = L.sum := by rw [psum_lf L _ (Nat.le_refl _), List.take_length]
theorem lf_mem (L : List Int) {j : Nat} (h : j < L.length) : lf L j ∈ L := by
  simp [lf, List.getD_eq_getElem?_getD, List.getElem?_eq_getElem h]
theorem lf_get (L : List Int) {j : Nat} (h : j < L.length) : lf L j = L[j] := by
  simp [lf, List.getD_eq_getElem?_getD, List.getElem?_eq_getElem h]
theorem lf_fits {L : List Int} (h : ∀ x ∈ L, Fits x) (j : Nat) : Fits (lf L j) := by
  by_cases c : j < L.length
  · exact h _ (lf_mem L c)
  · unfold lf; rw [List.getD_eq_getElem?_getD, List.getElem?_eq_none (by omega)]; exact ⟨by decide, by decide⟩
/-- The sizes of a valid list. -/
theorem chk_lf {L : List Int} (h : chkTo (lf L) L.length = 0) (hn : L.length ≤ 4096) : LOk L ∧ ∀ x ∈ L, x ≤ 2305843009213693952 := by
  have hs : ∀ x ∈ L, 0 ≤ x ∧ x ≤ 2305843009213693952 := fun x hx => by
    obtain ⟨j, hj, rfl⟩ := List.mem_iff_getElem.1 hx
    have := chkTo_step (lf L) (chkTo_zero (lf L) h (show j + 1 ≤ L.length from hj))
    rw [lf_get L hj] at this
    exact ⟨this.2.1, this.2.2.1⟩
  refine ⟨⟨fun x hx => (hs x hx).1, by omega, ?_⟩, fun x hx => (hs x hx).2⟩
  have := (psum_bd (lf L) h).2
  rwa [psum_lf_all] at this
theorem chk_of_ok {L : List Int} (h : LOk L) (hb : ∀ x ∈ L, x ≤ 2305843009213693952) : ∀ k, k ≤ L.length → chkTo (lf L) k = 0 := by
  intro k
  induction k with
  | zero => intro _; rfl
  | succ k ih =>
    intro hk
    have hm := lf_mem L (show k < L.length from hk)
    have h1 := psum_lf L (k + 1) hk
    have h2 := (h.take (k + 1)).top
    rw [← h1, psum_succ] at h2
    exact chkTo_0 _ (ih (by omega)) (h.nn _ hm) (hb _ hm) (by omega)
/-- A function's first values as a list. -/
def toL (l : Nat → Int) (n : Nat) : List Int := (List.range n).map l
theorem toL_length (l : Nat → Int) (n : Nat) : (toL l n).length = n := by simp [toL]
end Go.Proofs.YtfmfmeiaekknbaaGreat
end

section
/-
  Regions that draw their order and hold calls: a condition S on the world holds all the way; what yields the same value in each world that meets S is taken first; a mark (a call, an allocation) is taken when it alone can be. Over any program.
-/
namespace Go.Proofs.YtfmfmeiaekknbaaGreat
open Go.RowKit
set_option linter.unusedVariables false

section
variable {P : Program} {ops : Array Oper} {md : Region.Mode}

/-- A plan: numbers of operations, each with whether it is a mark. -/
def pickH (ops : Array Oper) : List (Bool × Nat) → List (Bool × Oper)
  | [] => []
  | (b, i) :: is => match ops[i]? with
    | some o => (b, o) :: pickH ops is
    | none => pickH ops is
def planB (md : Region.Mode) (ops : Array Oper) : List (Bool × Nat) → Array Bool → Bool
  | [], l => decide (Region.ready md ops l = [])
  | (false, i) :: p, l => (Region.ready md ops l).contains i && Region.free md ops l i && planB md ops p (l.setIfInBounds i true)
  | (true, i) :: p, l => decide (Region.ready md ops l = [i]) && planB md ops p (l.setIfInBounds i true)
/-- What is to be walked. -/
def HWalk (P : Program) (ops : Array Oper) (Q : Exit → Act → World → Prop) (S : World → Prop) : List (Bool × Oper) → Act → World → Prop
  | [], a, w => Q .normal a w
  | (false, o) :: p, a, w => if Region.wanted o (yielded ops a.tmps) then ∃ v, (∀ w', S w' → (execOp a.eval o).run P w' = .ok (.value v) w') ∧ HWalk P ops Q S p (a.put o.dst v) w else HWalk P ops Q S p (a.put o.dst undef) w
  | (true, o) :: p, a, w => wpList P ops (fun e x y => match e with | .normal => S y ∧ HWalk P ops Q S p x y | .panic _ => False | e => Q e x y) [o] a w

/-- The post, but 'False' at a panic. -/
def NoPan (Q : Exit → Act → World → Prop) (e : Exit) (a : Act) (w : World) : Prop := match e with
  | .panic _ => False
  | e => Q e a w
theorem NoPan.imp {Q : Exit → Act → World → Prop} (e : Exit) (a : Act) (w : World) (h : NoPan Q e a w) : Q e a w := by
  cases e <;> first | exact h | exact (h : False).elim
theorem wp_turn {o : Oper} {a : Act} {w : World} {K K' : Act → World → Prop} {Q Q' : Exit → Act → World → Prop} (hK : ∀ a w, K a w → K' a w) (hQ : ∀ e a w, e ≠ .normal → Q e a w → Q' e a w) (h : o.wp P a w K Q) : o.wp P a w K' Q' := by
  unfold Oper.wp at *
  generalize (execOp a.eval o).run P w = r at *
  cases r with
  | ok n w' =>
    cases n <;> simp only [Oper.upon] at h ⊢ <;>
      first
        | exact hK _ _ h
        | (refine Calls.mono h (fun e w'' he => ?_)
           cases e with
           | returned v => exact hK _ _ he
           | panicked c => exact hQ _ _ _ (by simp) he
           | outgrown => obtain ⟨x, y, hh⟩ := he; exact ⟨x, y, hQ _ _ _ (by simp) hh⟩)
        | exact Rows.mono h (fun _ _ he => hK _ _ he)
  | halt x w' => cases x <;> simp only [Oper.upon] at h ⊢ <;> first | exact hQ _ _ _ (by simp) h | exact h

theorem walk_any {Q : Exit → Act → World → Prop} {S : World → Prop} (hsel : Region.noSelect ops = true) : ∀ (p : List (Bool × Nat)) (l : Array Bool) (a : Act) (w : World), S w →
    planB md ops p l = true → HWalk P ops Q S (pickH ops p) a w → wpAnyH P md ops (NoPan Q) S p.length l a w
  | [], l, a, w, hS, hB, h => wpAnyH_done (P := P) (S := S) (Q := NoPan Q) (by simpa [planB] using hB) h 0
  | (false, i) :: p, l, a, w, hS, hB, h => by
    simp only [planB, Bool.and_eq_true] at hB
    obtain ⟨⟨h1, h2⟩, h3⟩ := hB
    have hr : i ∈ Region.ready md ops l := by simpa using h1
    obtain ⟨_, o, ho, _⟩ := mem_ready.1 hr
    rw [show pickH ops ((false, i) :: p) = (false, o) :: pickH ops p by simp only [pickH, ho]] at h
    have h : (if Region.wanted o (yielded ops a.tmps) then ∃ v, (∀ w', S w' → (execOp a.eval o).run P w' = .ok (.value v) w') ∧ HWalk P ops Q S (pickH ops p) (a.put o.dst v) w else HWalk P ops Q S (pickH ops p) (a.put o.dst undef) w) := h
    by_cases hw : Region.wanted o (yielded ops a.tmps) = true
    · rw [if_pos hw] at h
      obtain ⟨v, hv, hn⟩ := h
      exact wpAnyH_take ho hsel h2 h1 (fun _ _ _ h => h) (.inl ⟨hw, hv⟩) hS (walk_any hsel p _ _ w hS h3 hn)
    · rw [if_neg hw] at h
      exact wpAnyH_take (v := undef) ho hsel h2 h1 (fun _ _ _ h => h) (.inr ⟨by simpa using hw, rfl⟩) hS (walk_any hsel p _ _ w hS h3 h)
  | (true, i) :: p, l, a, w, hS, hB, h => by
    simp only [planB, Bool.and_eq_true, decide_eq_true_eq] at hB
    obtain ⟨h1, h3⟩ := hB
    have hr : i ∈ Region.ready md ops l := by rw [h1]; simp
    obtain ⟨_, o, ho, _⟩ := mem_ready.1 hr
    rw [show pickH ops ((true, i) :: p) = (true, o) :: pickH ops p by simp only [pickH, ho]] at h
    refine wpAnyH_all h1 (by simp) fun j hj => ?_
    obtain rfl : j = i := by simpa using hj
    have h : wpList P ops (fun e x y => match e with | .normal => S y ∧ HWalk P ops Q S (pickH ops p) x y | .panic _ => False | e => Q e x y) [o] a w := h
    unfold wpList at h
    unfold wpOp
    simp only [ho]
    have hstep : ∀ (x : Act) (y : World), (S y ∧ HWalk P ops Q S (pickH ops p) x y) → S y ∧ wpAnyH P md ops (NoPan Q) S p.length (l.setIfInBounds j true) x y := fun x y hxy => ⟨hxy.1, walk_any hsel p _ x y hxy.1 h3 hxy.2⟩
    split
    · rename_i hw
      rw [if_pos hw] at h
      rcases h with h | ⟨h4, x, y, h5⟩
      · exact .inl (wp_turn (fun x y hm => hstep x y hm) (fun e x y he hm => by cases e <;> first | exact absurd rfl he | exact hm) h)
      · exact .inr ⟨h4, x, y, h5⟩
    · rename_i hw
      rw [if_neg hw] at h
      exact hstep _ _ h

theorem wp_region_plan {id : Nat} {Q : Exit → Act → World → Prop} {a : Act} {w : World} {l : List Oper} (p : List (Bool × Nat)) (S : World → Prop) (hm : P.follows .mixedOrders = true)
    (hB : (Region.noSelect l.toArray && decide (p.length = l.toArray.size) && planB .any l.toArray p (Array.replicate l.toArray.size false)) = true) (hS : S w.drew) (x : List (Bool × Oper)) (hx : pickH l.toArray p = x)
    (h : HWalk P l.toArray Q S x a w.drew) : (Code.region id l.toArray true).wp P Q a w := by
  subst hx
  refine Code.wp_mono NoPan.imp ?_
  simp only [Bool.and_eq_true, decide_eq_true_eq] at hB
  obtain ⟨⟨hsel, hcnt⟩, hB⟩ := hB
  refine wp_region_held (S := S) hm ?_
  have := walk_any (md := .any) (Q := Q) hsel p (Array.replicate l.toArray.size false) a w.drew hS hB h
  rw [hcnt] at this
  exact this
theorem HWalk.step {ops : Array Oper} {Q : Exit → Act → World → Prop} {S : World → Prop} {o : Oper} {p : List (Bool × Oper)} {a : Act} {w : World}
    (h : ∀ K : Act → Prop, (∀ a, HWalk P ops Q S p a w → K a) → if Region.wanted o (yielded ops a.tmps) then ∃ v, (∀ w', S w' → (execOp a.eval o).run P w' = .ok (.value v) w') ∧ K (a.put o.dst v) else K (a.put o.dst undef)) : HWalk P ops Q S ((false, o) :: p) a w :=
  h _ (fun _ h => h)
theorem held_yes {S : World → Prop} {o : Oper} {a : Act} {K : Act → Prop} {v : Value} (hg : Region.wanted o (yielded ops a.tmps) = true) (hy : ∀ w', S w' → (execOp a.eval o).run P w' = .ok (.value v) w') (hk : K (a.put o.dst v)) :
    if Region.wanted o (yielded ops a.tmps) then ∃ v, (∀ w', S w' → (execOp a.eval o).run P w' = .ok (.value v) w') ∧ K (a.put o.dst v) else K (a.put o.dst undef) := by rw [if_pos hg]; exact ⟨v, hy, hk⟩
theorem ite_no {c : Prop} [Decidable c] {A B : Prop} (h : ¬ c) (b : B) : if c then A else B := by rw [if_neg h]; exact b
theorem HWalk.mark {ops : Array Oper} {Q : Exit → Act → World → Prop} {S : World → Prop} {o : Oper} {p : List (Bool × Oper)} {a : Act} {w : World}
    (h : wpList P ops (fun e x y => match e with | .normal => S y ∧ HWalk P ops Q S p x y | .panic _ => False | e => Q e x y) [o] a w) : HWalk P ops Q S ((true, o) :: p) a w := h
theorem HWalk.done {ops : Array Oper} {Q : Exit → Act → World → Prop} {S : World → Prop} {a : Act} {w : World} (h : Q .normal a w) : HWalk P ops Q S [] a w := h
end
end Go.Proofs.YtfmfmeiaekknbaaGreat
end

section
/-
  Contracts of package ropes, first: trees in memory; count, total, tall, over.
-/
namespace Go.Proofs.YtfmfmeiaekknbaaGreat
open Go.RowKit
set_option linter.unusedVariables false
set_option linter.unusedSimpArgs false

/-- The cells of a node. -/
def nodeCells (al ar : Option Addr) (s : Int) (n : Nat) (t : Int) (h : Nat) : Nat → Value := fun j =>
  if j = 0 then .pointer al else if j = 1 then .pointer ar else if j = 2 then .int .i64 s else if j = 3 then .int .i64 n else if j = 4 then .int .i64 t else .int .i64 h
/-- The tree at a pointer. -/
def Tr (w : World) : Option Addr → T → Prop
  | a, .nil => a = none
  | a, .node l s r => ∃ b al ar, a = some ⟨b, 0, none⟩ ∧ w.rowIs b 108 6 (nodeCells al ar s (T.node l s r).l.length (T.node l s r).l.sum (T.node l s r).ht) ∧ Tr w al l ∧ Tr w ar r

theorem Tr.stay {w w' : World} : ∀ {t : T} {a : Option Addr}, Tr w a t → (∀ b f, w.rowIs b 108 6 f → w'.heap[b]? = w.heap[b]?) → Tr w' a t
  | .nil, _, h, _ => h
  | .node l s r, _, h, k => by
    obtain ⟨b, al, ar, rfl, hr, h1, h2⟩ := h
    exact ⟨b, al, ar, rfl, hr.of_block (k b _ hr), h1.stay k, h2.stay k⟩
theorem Tr.below {w w' : World} {t : T} {a : Option Addr} (h : Tr w a t) (hb : Below w.heap.size w w') : Tr w' a t := h.stay fun b f hr => hb.block b hr.lt
theorem Tr.drawn {w w' : World} {t : T} {a : Option Addr} (h : Tr w a t) (hd : Drawn w w') : Tr w' a t := by obtain ⟨q, rfl⟩ := hd; exact h.stay fun _ _ _ => rfl
/-- A store into a block of another type. -/
theorem Tr.set {w : World} {t : T} {a : Option Addr} (h : Tr w a t) {g : Nat} {ty : TypeId} {n : Nat} {f : Nat → Value} (hg : w.rowIs g ty n f) (hty : ty ≠ 108) {p : Addr} (hp : p.block = g) (v : Value) : Tr (w.setCell p v) a t :=
  h.stay fun b f' hr => Below.heap_setCell _ _ _ _ (by
    rintro rfl
    subst hp
    obtain ⟨c1, h1, _⟩ := hr
    obtain ⟨c2, h2, _⟩ := hg
    rw [h1] at h2
    injection h2 with h2
    injection h2 with _ h2 _
    exact hty h2.symm)

structure NCells (w : World) (b : Nat) (al ar : Option Addr) (s : Int) (n : Nat) (t : Int) (h : Nat) : Prop where
  c0 : w.cell? ⟨b, 0, none⟩ = some (.pointer al)
  c1 : w.cell? ⟨b, 1, none⟩ = some (.pointer ar)
  c2 : w.cell? ⟨b, 2, none⟩ = some (.int .i64 s)
  c3 : w.cell? ⟨b, 3, none⟩ = some (.int .i64 n)
  c4 : w.cell? ⟨b, 4, none⟩ = some (.int .i64 t)
  c5 : w.cell? ⟨b, 5, none⟩ = some (.int .i64 h)
theorem ncells_of {w : World} {b : Nat} {al ar : Option Addr} {s : Int} {n : Nat} {t : Int} {h : Nat} (hr : w.rowIs b 108 6 (nodeCells al ar s n t h)) : NCells w b al ar s n t h :=
  ⟨hr.cell (i := 0) (by omega), hr.cell (i := 1) (by omega), hr.cell (i := 2) (by omega), hr.cell (i := 3) (by omega), hr.cell (i := 4) (by omega), hr.cell (i := 5) (by omega)⟩

theorem count_any (w : World) (a : Option Addr) (t : T) (h : Tr w a t) : Calls Tryz.prog 52 #[.pointer a] w fun e w' => e = .returned (.int .i64 t.l.length) ∧ w = w' := by
  cases t with
  | nil =>
    obtain rfl : a = none := h
    go_enter Tryz.func52, Tryz.ntmps52
    go_wp2_with fail
    go_ret
    exact ⟨rfl, rfl⟩
  | node l s r =>
    obtain ⟨b, al, ar, rfl, hr, _, _⟩ := h
    obtain ⟨c0, c1, c2, c3, c4, c5⟩ := ncells_of hr
    clear hr
    obtain ⟨n, hn⟩ : ∃ n, n = (T.node l s r).l.length := ⟨_, rfl⟩
    rw [← hn] at c3 ⊢
    clear hn c4
    go_enter Tryz.func52, Tryz.ntmps52
    go_wp2_with fail
    go_ret
    exact ⟨rfl, rfl⟩
theorem total_any (w : World) (a : Option Addr) (t : T) (h : Tr w a t) : Calls Tryz.prog 53 #[.pointer a] w fun e w' => e = .returned (.int .i64 t.l.sum) ∧ w = w' := by
  cases t with
  | nil =>
    obtain rfl : a = none := h
    go_enter Tryz.func53, Tryz.ntmps53
    go_wp2_with fail
    go_ret
    exact ⟨rfl, rfl⟩
  | node l s r =>
    obtain ⟨b, al, ar, rfl, hr, _, _⟩ := h
    obtain ⟨c0, c1, c2, c3, c4, c5⟩ := ncells_of hr
    clear hr
    obtain ⟨n, hn⟩ : ∃ n, n = (T.node l s r).l.sum := ⟨_, rfl⟩
    rw [← hn] at c4 ⊢
    clear hn c3
    go_enter Tryz.func53, Tryz.ntmps53
    go_wp2_with fail
    go_ret
    exact ⟨rfl, rfl⟩
theorem tall_any (w : World) (a : Option Addr) (t : T) (h : Tr w a t) : Calls Tryz.prog 148 #[.pointer a] w fun e w' => e = .returned (.int .i64 t.ht) ∧ w = w' := by
  cases t with
  | nil =>
    obtain rfl : a = none := h
    go_enter Tryz.func148, Tryz.ntmps148
    go_wp2_with fail
    go_ret
    exact ⟨rfl, rfl⟩
  | node l s r =>
    obtain ⟨b, al, ar, rfl, hr, _, _⟩ := h
    obtain ⟨c0, c1, c2, c3, c4, c5⟩ := ncells_of hr
    clear hr
    obtain ⟨n, hn⟩ : ∃ n, n = (T.node l s r).ht := ⟨_, rfl⟩
    rw [← hn] at c5 ⊢
    clear hn c3 c4
    go_enter Tryz.func148, Tryz.ntmps148
    go_wp2_with fail
    go_ret
    exact ⟨rfl, rfl⟩

/-- A new tree. -/
def TrPost (w : World) (t : T) (e : Ending) (w' : World) : Prop := ∃ a, e = .returned (.pointer a) ∧ Tr w' a t ∧ Below w.heap.size w w'

set_option maxRecDepth 100000 in
set_option maxHeartbeats 800000 in
theorem over_any (w : World) (al ar : Option Addr) (l r : T) (s : Int) (hl : Tr w al l) (hr : Tr w ar r) (ok : LOk (T.node l s r).l) :
    Calls Tryz.prog 113 #[.pointer al, .int .i64 s, .pointer ar] w (TrPost w (.node l s r)) := by
  have HL := Lib.hid hl
  have HR := Lib.hid hr
  have e1 : (T.node l s r).l.length = l.l.length + (r.l.length + 1) := by rw [T.l_node]; simp
  have e2 : (T.node l s r).l.sum = l.l.sum + (s + r.l.sum) := by rw [T.l_node, List.sum_append, List.sum_cons]
  have e3 : (T.node l s r).ht = max l.ht r.ht + 1 := rfl
  have n1 := ok.len
  have n2 := ok.top
  rw [e1] at n1
  rw [e2] at n2
  have n3 := ok.left.sum0
  have n4 := ok.right.tail.sum0
  obtain ⟨n5, n6⟩ := ok.right.head
  have n7 := l.ht_le
  have n8 := r.ht_le
  have H : ∀ n t h : Int, n = ((T.node l s r).l.length : Nat) → t = (T.node l s r).l.sum → h = ((T.node l s r).ht : Nat) → TrPost w (.node l s r) (.returned (.pointer (some ⟨w.heap.size, 0, none⟩))) (w.alloc (.cells #[.pointer al, .pointer ar, .int .i64 s, .int .i64 n, .int .i64 t, .int .i64 h] 108)) := by
    rintro n t h rfl rfl rfl
    have hb : Below w.heap.size w (w.alloc (.cells #[.pointer al, .pointer ar, .int .i64 s, .int .i64 ((T.node l s r).l.length : Nat), .int .i64 (T.node l s r).l.sum, .int .i64 ((T.node l s r).ht : Nat)] 108)) := (Below.refl _ w).alloc (Nat.le_refl _) _
    exact ⟨_, rfl, ⟨w.heap.size, al, ar, rfl, World.rowIs_alloc w _ 108 (nodeCells al ar s (T.node l s r).l.length (T.node l s r).l.sum (T.node l s r).ht) (fun j hj => by
      match j, hj with
      | 0, _ => rfl
      | 1, _ => rfl
      | 2, _ => rfl
      | 3, _ => rfl
      | 4, _ => rfl
      | 5, _ => rfl), hl.below hb, hr.below hb⟩, hb⟩
  have HF := Lib.hid (H ((l.l.length : Int) + r.l.length + 1) (l.l.sum + s + r.l.sum) (max (l.ht : Int) (r.ht : Int) + 1) (by rw [e1]; omega) (by rw [e2]; omega) (by rw [e3]; omega))
  have CL := Lib.hid (count_any w al l hl)
  have CR := Lib.hid (count_any w ar r hr)
  have SL := Lib.hid (total_any w al l hl)
  have SR := Lib.hid (total_any w ar r hr)
  have TL := Lib.hid (tall_any w al l hl)
  have TR := Lib.hid (tall_any w ar r hr)
  obtain ⟨i1, j1⟩ : ∃ i, i = l.l.length := ⟨_, rfl⟩
  obtain ⟨i2, j2⟩ : ∃ i, i = r.l.length := ⟨_, rfl⟩
  obtain ⟨s1, k1⟩ : ∃ i, i = l.l.sum := ⟨_, rfl⟩
  obtain ⟨s2, k2⟩ : ∃ i, i = r.l.sum := ⟨_, rfl⟩
  obtain ⟨h1, m1⟩ : ∃ i, i = l.ht := ⟨_, rfl⟩
  obtain ⟨h2, m2⟩ : ∃ i, i = r.ht := ⟨_, rfl⟩
  rw [← j1] at n1 n7 CL HF
  rw [← j2] at n1 n8 CR HF
  rw [← k1] at n2 n3 SL HF
  rw [← k2] at n2 n4 SR HF
  rw [← m1] at n7 TL HF
  rw [← m2] at n8 TR HF
  clear H e1 e2 e3 hl hr j1 j2 k1 k2 m1 m2
  go_enter Tryz.func113, Tryz.ntmps113
  go_wp2_with fail
  refine (CL.out).mono ?_
  rintro e w' ⟨rfl, rfl⟩
  go_wp2_with fail
  refine (CR.out).mono ?_
  rintro e w' ⟨rfl, rfl⟩
  go_wp2_with fail
  refine (SL.out).mono ?_
  rintro e w' ⟨rfl, rfl⟩
  go_wp2_with fail
  refine (SR.out).mono ?_
  rintro e w' ⟨rfl, rfl⟩
  go_wp2_with fail
  refine (TL.out).mono ?_
  rintro e w' ⟨rfl, rfl⟩
  go_wp2_with fail
  refine (TR.out).mono ?_
  rintro e w' ⟨rfl, rfl⟩
  go_wp2_with fail
  go_ret
  exact HF.out
end Go.Proofs.YtfmfmeiaekknbaaGreat
end

section
/-
  Contracts of package ropes, second: balanced.
-/
namespace Go.Proofs.YtfmfmeiaekknbaaGreat
open Go.RowKit
set_option linter.unusedVariables false
set_option linter.unusedSimpArgs false

/-- A balanced tree with these sizes, of about that height. -/
def BalPost (w : World) (L : List Int) (h : Nat) (e : Ending) (w' : World) : Prop := ∃ a t, e = .returned (.pointer a) ∧ Tr w' a t ∧ t.Bal ∧ t.l = L ∧ h ≤ t.ht ∧ t.ht ≤ h + 1 ∧ Below w.heap.size w w'

theorem straight_any (w : World) (p0 p1 p2 : Nat) (al ar : Option Addr) (l r : T) (s : Int) (d0 : w.cell? ⟨p0, 0, none⟩ = some (.pointer al)) (d1 : w.cell? ⟨p1, 0, none⟩ = some (.int .i64 s)) (d2 : w.cell? ⟨p2, 0, none⟩ = some (.pointer ar)) (hl : Tr w al l) (hr : Tr w ar r) (ok : LOk (T.node l s r).l) :
    Calls Tryz.prog 171 #[.pointer (some ⟨p0, 0, none⟩), .pointer (some ⟨p1, 0, none⟩), .pointer (some ⟨p2, 0, none⟩)] w (TrPost w (.node l s r)) := by
  have HO := Lib.hid (over_any w al ar l r s hl hr ok)
  clear hl hr ok
  go_enter Tryz.func171, Tryz.ntmps171
  go_wp2_with fail
  refine (HO.out).mono ?_
  rintro e w1 ⟨a, rfl, h1, h2⟩
  have H : Hid (TrPost w (.node l s r) (.returned (.pointer a)) w1) := ⟨a, rfl, h1, h2⟩
  clear h1 h2
  go_wp2_with fail
  go_ret
  exact H.out

set_option maxRecDepth 100000 in
set_option maxHeartbeats 1600000 in
theorem leftwards_any (w : World) (p0 p1 p2 : Nat) (al ar : Option Addr) (l rl rr : T) (s sr : Int) (d0 : w.cell? ⟨p0, 0, none⟩ = some (.pointer al)) (d1 : w.cell? ⟨p1, 0, none⟩ = some (.int .i64 s)) (d2 : w.cell? ⟨p2, 0, none⟩ = some (.pointer ar)) (hl : Tr w al l) (hr : Tr w ar (.node rl sr rr)) (bl : l.Bal) (br : (T.node rl sr rr).Bal) (hh : (T.node rl sr rr).ht = l.ht + 2) (ok : LOk (l.l ++ s :: (T.node rl sr rr).l)) :
    Calls Tryz.prog 172 #[.pointer (some ⟨p2, 0, none⟩), .pointer (some ⟨p0, 0, none⟩), .pointer (some ⟨p1, 0, none⟩)] w (BalPost w (l.l ++ s :: (T.node rl sr rr).l) (T.node rl sr rr).ht) := by
  have lt0 := block_lt_of_cell d0
  have lt1 := block_lt_of_cell d1
  have lt2 := block_lt_of_cell d2
  obtain ⟨b, bl_, br_, rfl, hrow, h1, h2⟩ := hr
  obtain ⟨c0, c1, c2, c3, c4, c5⟩ := ncells_of hrow
  have ltb := hrow.lt
  clear c3 c4 c5 hrow
  have HL := Lib.hid hl
  have H1 := Lib.hid h1
  have H2 := Lib.hid h2
  have OK := Lib.hid ok
  have BB := Lib.hid br
  have BL := Lib.hid bl
  have HH := Lib.hid hh
  have C1 := Lib.hid (fun q => tall_any (w.drewN q) _ _ (h1.drawn ⟨q, rfl⟩))
  have C2 := Lib.hid (fun q => tall_any (w.drewN q) _ _ (h2.drawn ⟨q, rfl⟩))
  clear hl h1 h2 ok br bl hh
  obtain ⟨n1, e1⟩ : ∃ n, n = rl.ht := ⟨_, rfl⟩
  obtain ⟨n2, e2⟩ : ∃ n, n = rr.ht := ⟨_, rfl⟩
  rw [← e1] at C1
  rw [← e2] at C2
  have S0 : Hid (Below w.heap.size w (w.drewN 1)) := Go.below_drewN (Below.refl _ w) 1
  have S1 : Hid (Below w.heap.size w (w.drewN 2)) := Go.below_drewN (Below.refl _ w) 2
  by_cases hc : n2 < n1
  · have hci : (n2 : Int) < (n1 : Int) := by omega
    obtain ⟨m1, sm, m2, rfl⟩ := T.ht_pos (t := rl) (by omega)
    obtain ⟨bm, am1, am2, rfl, hmrow, hm1, hm2⟩ := H1.out
    obtain ⟨g0, g1, g2, _, _, _⟩ := ncells_of hmrow
    have ltm := hmrow.lt
    have HM1 := Lib.hid hm1
    have HM2 := Lib.hid hm2
    have EL : Hid ((l.l ++ s :: m1.l) ++ sm :: (m2.l ++ sr :: rr.l) = l.l ++ s :: (T.node (T.node m1 sm m2) sr rr).l) := by show _ = _; simp [T.l_node]
    have ok2 : LOk ((l.l ++ s :: m1.l) ++ sm :: (m2.l ++ sr :: rr.l)) := by rw [EL.out]; exact OK.out
    have K1 : Hid (∀ W, Below w.heap.size w W → Calls Tryz.prog 113 #[.pointer al, .int .i64 s, .pointer am1] W (TrPost W (.node l s m1))) := fun W hb => over_any W al am1 l m1 s (HL.out.below hb) (hm1.below hb) ok2.left
    have K2 : Hid (∀ W, Below w.heap.size w W → Calls Tryz.prog 113 #[.pointer am2, .int .i64 sr, .pointer br_] W (TrPost W (.node m2 sr rr))) := fun W hb => over_any W am2 br_ m2 rr sr (hm2.below hb) (H2.out.below hb) ok2.right.tail
    have K3 : Hid (∀ W a1 a2, Tr W a1 (.node l s m1) → Tr W a2 (.node m2 sr rr) → Calls Tryz.prog 113 #[.pointer a1, .int .i64 sm, .pointer a2] W (TrPost W (.node (.node l s m1) sm (.node m2 sr rr)))) := fun W a1 a2 h1 h2 => over_any W a1 a2 _ _ sm h1 h2 ok2
    have HB : Hid ((T.node (.node l s m1) sm (.node m2 sr rr)).Bal ∧ (T.node (.node l s m1) sm (.node m2 sr rr)).ht = (T.node (T.node m1 sm m2) sr rr).ht) := by
      obtain ⟨⟨q1, q2, q3, q4⟩, q5, q6, q7⟩ := BB.out
      have hh := HH.out
      simp only [T.ht_node] at hh q3 q4 q6 q7 e1
      refine ⟨⟨⟨BL.out, q1, ?_, ?_⟩, ⟨q2, q5, ?_, ?_⟩, ?_, ?_⟩, ?_⟩ <;> (try simp only [T.ht_node]) <;> omega
    clear e1 e2 hm1 hm2 hmrow ok2
    go_enter Tryz.func172, Tryz.ntmps172
    go_wp2_with fail
    refine wp_region_plan [(false, 0), (false, 1), (false, 2), (false, 3), (false, 5), (false, 6), (false, 7), (false, 8), (true, 4), (true, 9), (false, 10)] (Below w.heap.size w) (by kernel_rfl) (by kernel_rfl) ((Below.refl _ w).drew) _ (by simp only [pickH, List.getElem?_toArray, List.getElem?_cons_succ, List.getElem?_cons_zero]; rfl) ?_
    repeat (refine HWalk.step (fun K hK => ?_); first | (apply held_yes; (focus rfl); (focus (intro w' hw; obtain ⟨hc', hf'⟩ := below_cells hw; go_simp; rfl)); (go_simp; refine hK _ ?_; clear hK K)) | (refine ite_no (by decide) ?_; go_simp; refine hK _ ?_; clear hK K))
    refine HWalk.mark ?_
    go_wp2_with fail
    refine (C1.out 1).mono ?_
    rintro e w' ⟨rfl, rfl⟩
    go_wp2_with fail
    refine ⟨S0.out, ?_⟩
    repeat (refine HWalk.step (fun K hK => ?_); first | (apply held_yes; (focus rfl); (focus (intro w' hw; obtain ⟨hc', hf'⟩ := below_cells hw; go_simp; rfl)); (go_simp; refine hK _ ?_; clear hK K)) | (refine ite_no (by decide) ?_; go_simp; refine hK _ ?_; clear hK K))
    refine HWalk.mark ?_
    go_wp2_with fail
    refine (C2.out 1).mono ?_
    rintro e w' ⟨rfl, rfl⟩
    go_wp2_with fail
    refine ⟨S0.out, ?_⟩
    repeat (refine HWalk.step (fun K hK => ?_); first | (apply held_yes; (focus rfl); (focus (intro w' hw; obtain ⟨hc', hf'⟩ := below_cells hw; go_simp; rfl)); (go_simp; refine hK _ ?_; clear hK K)) | (refine ite_no (by decide) ?_; go_simp; refine hK _ ?_; clear hK K))
    refine HWalk.done ?_
    go_wp2_with fail
    refine wp_region_plan [(false, 0), (false, 1), (false, 2), (false, 3), (false, 4), (false, 5), (false, 7), (false, 8), (false, 9), (false, 10), (false, 11), (false, 12), (false, 13), (false, 14), (false, 15), (false, 16), (false, 17), (false, 18), (false, 19), (false, 20), (false, 21), (false, 22), (true, 6), (true, 23), (true, 24), (false, 25)] (Below w.heap.size w) (by kernel_rfl) (by kernel_rfl) (S1.out) _ (by simp only [pickH, List.getElem?_toArray, List.getElem?_cons_succ, List.getElem?_cons_zero]; rfl) ?_
    repeat (refine HWalk.step (fun K hK => ?_); first | (apply held_yes; (focus rfl); (focus (intro w' hw; obtain ⟨hc', hf'⟩ := below_cells hw; go_simp; rfl)); (go_simp; refine hK _ ?_; clear hK K)) | (refine ite_no (by decide) ?_; go_simp; refine hK _ ?_; clear hK K))
    refine HWalk.mark ?_
    go_wp2_with fail
    refine (K1.out _ S1.out).mono ?_
    rintro e w1 ⟨a1, rfl, ht1, hb1⟩
    have B1 := Lib.hid (S1.out.trans (hb1.mono S1.out.size))
    have T1 := Lib.hid ht1
    clear ht1 hb1
    go_wp2_with fail
    refine ⟨B1.out, ?_⟩
    repeat (refine HWalk.step (fun K hK => ?_); first | (apply held_yes; (focus rfl); (focus (intro w' hw; obtain ⟨hc', hf'⟩ := below_cells hw; go_simp; rfl)); (go_simp; refine hK _ ?_; clear hK K)) | (refine ite_no (by decide) ?_; go_simp; refine hK _ ?_; clear hK K))
    refine HWalk.mark ?_
    go_wp2_with fail
    refine (K2.out _ B1.out).mono ?_
    rintro e w2 ⟨a2, rfl, ht2, hb2⟩
    have B2 := Lib.hid (B1.out.trans (hb2.mono B1.out.size))
    have T2 := Lib.hid ht2
    have T12 := Lib.hid (T1.out.below hb2)
    clear ht2 hb2
    go_wp2_with fail
    refine ⟨B2.out, ?_⟩
    repeat (refine HWalk.step (fun K hK => ?_); first | (apply held_yes; (focus rfl); (focus (intro w' hw; obtain ⟨hc', hf'⟩ := below_cells hw; go_simp; rfl)); (go_simp; refine hK _ ?_; clear hK K)) | (refine ite_no (by decide) ?_; go_simp; refine hK _ ?_; clear hK K))
    refine HWalk.mark ?_
    go_wp2_with fail
    refine (K3.out _ _ _ T12.out T2.out).mono ?_
    rintro e w3 ⟨a3, rfl, ht3, hb3⟩
    have B3 := Lib.hid (B2.out.trans (hb3.mono B2.out.size))
    have H : Hid (BalPost w (l.l ++ s :: (T.node (T.node m1 sm m2) sr rr).l) (T.node (T.node m1 sm m2) sr rr).ht (.returned (.pointer a3)) w3) := ⟨a3, _, rfl, ht3, HB.out.1, EL.out, by rw [HB.out.2]; exact Nat.le_refl _, by rw [HB.out.2]; omega, B3.out⟩
    clear ht3 hb3
    go_wp2_with fail
    refine ⟨B3.out, ?_⟩
    repeat (refine HWalk.step (fun K hK => ?_); first | (apply held_yes; (focus rfl); (focus (intro w' hw; obtain ⟨hc', hf'⟩ := below_cells hw; go_simp; rfl)); (go_simp; refine hK _ ?_; clear hK K)) | (refine ite_no (by decide) ?_; go_simp; refine hK _ ?_; clear hK K))
    refine HWalk.done ?_
    go_wp2_with fail
    go_ret
    exact H.out
  · have hci : ¬ (n2 : Int) < (n1 : Int) := by omega
    have EL : Hid ((l.l ++ s :: rl.l) ++ sr :: rr.l = l.l ++ s :: (T.node rl sr rr).l) := by show _ = _; simp [T.l_node]
    have ok2 : LOk ((l.l ++ s :: rl.l) ++ sr :: rr.l) := by rw [EL.out]; exact OK.out
    have K1 : Hid (∀ W, Below w.heap.size w W → Calls Tryz.prog 113 #[.pointer al, .int .i64 s, .pointer bl_] W (TrPost W (.node l s rl))) := fun W hb => over_any W al bl_ l rl s (HL.out.below hb) (H1.out.below hb) ok2.left
    have K2 : Hid (∀ W a1, Below w.heap.size w W → Tr W a1 (.node l s rl) → Calls Tryz.prog 113 #[.pointer a1, .int .i64 sr, .pointer br_] W (TrPost W (.node (.node l s rl) sr rr))) := fun W a1 hb h1 => over_any W a1 br_ _ rr sr h1 (H2.out.below hb) ok2
    have HB : Hid ((T.node (.node l s rl) sr rr).Bal ∧ (T.node rl sr rr).ht ≤ (T.node (.node l s rl) sr rr).ht ∧ (T.node (.node l s rl) sr rr).ht ≤ (T.node rl sr rr).ht + 1) := by
      obtain ⟨q1, q2, q3, q4⟩ := BB.out
      have hh := HH.out
      simp only [T.ht_node] at hh
      refine ⟨⟨⟨BL.out, q1, ?_, ?_⟩, q2, ?_, ?_⟩, ?_, ?_⟩ <;> (try simp only [T.ht_node]) <;> omega
    clear e1 e2 ok2
    go_enter Tryz.func172, Tryz.ntmps172
    go_wp2_with fail
    refine wp_region_plan [(false, 0), (false, 1), (false, 2), (false, 3), (false, 5), (false, 6), (false, 7), (false, 8), (true, 4), (true, 9), (false, 10)] (Below w.heap.size w) (by kernel_rfl) (by kernel_rfl) ((Below.refl _ w).drew) _ (by simp only [pickH, List.getElem?_toArray, List.getElem?_cons_succ, List.getElem?_cons_zero]; rfl) ?_
    repeat (refine HWalk.step (fun K hK => ?_); first | (apply held_yes; (focus rfl); (focus (intro w' hw; obtain ⟨hc', hf'⟩ := below_cells hw; go_simp; rfl)); (go_simp; refine hK _ ?_; clear hK K)) | (refine ite_no (by decide) ?_; go_simp; refine hK _ ?_; clear hK K))
    refine HWalk.mark ?_
    go_wp2_with fail
    refine (C1.out 1).mono ?_
    rintro e w' ⟨rfl, rfl⟩
    go_wp2_with fail
    refine ⟨S0.out, ?_⟩
    repeat (refine HWalk.step (fun K hK => ?_); first | (apply held_yes; (focus rfl); (focus (intro w' hw; obtain ⟨hc', hf'⟩ := below_cells hw; go_simp; rfl)); (go_simp; refine hK _ ?_; clear hK K)) | (refine ite_no (by decide) ?_; go_simp; refine hK _ ?_; clear hK K))
    refine HWalk.mark ?_
    go_wp2_with fail
    refine (C2.out 1).mono ?_
    rintro e w' ⟨rfl, rfl⟩
    go_wp2_with fail
    refine ⟨S0.out, ?_⟩
    repeat (refine HWalk.step (fun K hK => ?_); first | (apply held_yes; (focus rfl); (focus (intro w' hw; obtain ⟨hc', hf'⟩ := below_cells hw; go_simp; rfl)); (go_simp; refine hK _ ?_; clear hK K)) | (refine ite_no (by decide) ?_; go_simp; refine hK _ ?_; clear hK K))
    refine HWalk.done ?_
    go_wp2_with fail
    refine wp_region_plan [(false, 0), (false, 1), (false, 2), (false, 3), (false, 4), (false, 5), (false, 7), (false, 8), (false, 9), (false, 10), (false, 11), (false, 12), (false, 13), (false, 14), (true, 6), (true, 15), (false, 16)] (Below w.heap.size w) (by kernel_rfl) (by kernel_rfl) (S1.out) _ (by simp only [pickH, List.getElem?_toArray, List.getElem?_cons_succ, List.getElem?_cons_zero]; rfl) ?_
    repeat (refine HWalk.step (fun K hK => ?_); first | (apply held_yes; (focus rfl); (focus (intro w' hw; obtain ⟨hc', hf'⟩ := below_cells hw; go_simp; rfl)); (go_simp; refine hK _ ?_; clear hK K)) | (refine ite_no (by decide) ?_; go_simp; refine hK _ ?_; clear hK K))
    refine HWalk.mark ?_
    go_wp2_with fail
    refine (K1.out _ S1.out).mono ?_
    rintro e w1 ⟨a1, rfl, ht1, hb1⟩
    have B1 := Lib.hid (S1.out.trans (hb1.mono S1.out.size))
    have T1 := Lib.hid ht1
    clear ht1 hb1
    go_wp2_with fail
    refine ⟨B1.out, ?_⟩
    repeat (refine HWalk.step (fun K hK => ?_); first | (apply held_yes; (focus rfl); (focus (intro w' hw; obtain ⟨hc', hf'⟩ := below_cells hw; go_simp; rfl)); (go_simp; refine hK _ ?_; clear hK K)) | (refine ite_no (by decide) ?_; go_simp; refine hK _ ?_; clear hK K))
    refine HWalk.mark ?_
    go_wp2_with fail
    refine (K2.out _ _ B1.out T1.out).mono ?_
    rintro e w2 ⟨a2, rfl, ht2, hb2⟩
    have B2 := Lib.hid (B1.out.trans (hb2.mono B1.out.size))
    have H : Hid (BalPost w (l.l ++ s :: (T.node rl sr rr).l) (T.node rl sr rr).ht (.returned (.pointer a2)) w2) := ⟨a2, _, rfl, ht2, HB.out.1, EL.out, HB.out.2.1, HB.out.2.2, B2.out⟩
    clear ht2 hb2
    go_wp2_with fail
    refine ⟨B2.out, ?_⟩
    repeat (refine HWalk.step (fun K hK => ?_); first | (apply held_yes; (focus rfl); (focus (intro w' hw; obtain ⟨hc', hf'⟩ := below_cells hw; go_simp; rfl)); (go_simp; refine hK _ ?_; clear hK K)) | (refine ite_no (by decide) ?_; go_simp; refine hK _ ?_; clear hK K))
    refine HWalk.done ?_
    go_wp2_with fail
    go_ret
    exact H.out
end Go.Proofs.YtfmfmeiaekknbaaGreat
end

section
/-
  Contracts of package ropes, third: balanced, the other way round, and whole.
-/
namespace Go.Proofs.YtfmfmeiaekknbaaGreat
open Go.RowKit
set_option linter.unusedVariables false
set_option linter.unusedSimpArgs false

set_option maxRecDepth 100000 in
set_option maxHeartbeats 1600000 in
theorem rightwards_any (w : World) (p0 p1 p2 : Nat) (al ar : Option Addr) (ll lr r : T) (s sl : Int) (d0 : w.cell? ⟨p0, 0, none⟩ = some (.pointer al)) (d1 : w.cell? ⟨p1, 0, none⟩ = some (.int .i64 s)) (d2 : w.cell? ⟨p2, 0, none⟩ = some (.pointer ar)) (hl : Tr w al (.node ll sl lr)) (hr : Tr w ar r) (bl : (T.node ll sl lr).Bal) (br : r.Bal) (hh : (T.node ll sl lr).ht = r.ht + 2) (ok : LOk ((T.node ll sl lr).l ++ s :: r.l)) :
    Calls Tryz.prog 173 #[.pointer (some ⟨p0, 0, none⟩), .pointer (some ⟨p1, 0, none⟩), .pointer (some ⟨p2, 0, none⟩)] w (BalPost w ((T.node ll sl lr).l ++ s :: r.l) (T.node ll sl lr).ht) := by
  have lt0 := block_lt_of_cell d0
  have lt1 := block_lt_of_cell d1
  have lt2 := block_lt_of_cell d2
  obtain ⟨b, bl_, br_, rfl, hrow, h1, h2⟩ := hl
  obtain ⟨c0, c1, c2, c3, c4, c5⟩ := ncells_of hrow
  have ltb := hrow.lt
  clear c3 c4 c5 hrow
  have HR := Lib.hid hr
  have H1 := Lib.hid h1
  have H2 := Lib.hid h2
  have OK := Lib.hid ok
  have BB := Lib.hid bl
  have BR := Lib.hid br
  have HH := Lib.hid hh
  have C1 := Lib.hid (fun q => tall_any (w.drewN q) _ _ (h1.drawn ⟨q, rfl⟩))
  have C2 := Lib.hid (fun q => tall_any (w.drewN q) _ _ (h2.drawn ⟨q, rfl⟩))
  clear hr h1 h2 ok br bl hh
  obtain ⟨n1, e1⟩ : ∃ n, n = ll.ht := ⟨_, rfl⟩
  obtain ⟨n2, e2⟩ : ∃ n, n = lr.ht := ⟨_, rfl⟩
  rw [← e1] at C1
  rw [← e2] at C2
  have S0 : Hid (Below w.heap.size w (w.drewN 1)) := Go.below_drewN (Below.refl _ w) 1
  have S1 : Hid (Below w.heap.size w (w.drewN 2)) := Go.below_drewN (Below.refl _ w) 2
  by_cases hc : n1 < n2
  · have hci : (n1 : Int) < (n2 : Int) := by omega
    obtain ⟨m1, sm, m2, rfl⟩ := T.ht_pos (t := lr) (by omega)
    obtain ⟨bm, am1, am2, rfl, hmrow, hm1, hm2⟩ := H2.out
    obtain ⟨g0, g1, g2, _, _, _⟩ := ncells_of hmrow
    have ltm := hmrow.lt
    have EL : Hid ((ll.l ++ sl :: m1.l) ++ sm :: (m2.l ++ s :: r.l) = (T.node ll sl (T.node m1 sm m2)).l ++ s :: r.l) := by show _ = _; simp [T.l_node]
    have ok2 : LOk ((ll.l ++ sl :: m1.l) ++ sm :: (m2.l ++ s :: r.l)) := by rw [EL.out]; exact OK.out
    have K1 : Hid (∀ W, Below w.heap.size w W → Calls Tryz.prog 113 #[.pointer bl_, .int .i64 sl, .pointer am1] W (TrPost W (.node ll sl m1))) := fun W hb => over_any W bl_ am1 ll m1 sl (H1.out.below hb) (hm1.below hb) ok2.left
    have K2 : Hid (∀ W, Below w.heap.size w W → Calls Tryz.prog 113 #[.pointer am2, .int .i64 s, .pointer ar] W (TrPost W (.node m2 s r))) := fun W hb => over_any W am2 ar m2 r s (hm2.below hb) (HR.out.below hb) ok2.right.tail
    have K3 : Hid (∀ W a1 a2, Tr W a1 (.node ll sl m1) → Tr W a2 (.node m2 s r) → Calls Tryz.prog 113 #[.pointer a1, .int .i64 sm, .pointer a2] W (TrPost W (.node (.node ll sl m1) sm (.node m2 s r)))) := fun W a1 a2 h1 h2 => over_any W a1 a2 _ _ sm h1 h2 ok2
    have HB : Hid ((T.node (.node ll sl m1) sm (.node m2 s r)).Bal ∧ (T.node (.node ll sl m1) sm (.node m2 s r)).ht = (T.node ll sl (T.node m1 sm m2)).ht) := by
      obtain ⟨q5, ⟨q1, q2, q3, q4⟩, q6, q7⟩ := BB.out
      have hh := HH.out
      simp only [T.ht_node] at hh q3 q4 q6 q7 e2
      refine ⟨⟨⟨q5, q1, ?_, ?_⟩, ⟨q2, BR.out, ?_, ?_⟩, ?_, ?_⟩, ?_⟩ <;> (try simp only [T.ht_node]) <;> omega
    clear e1 e2 hm1 hm2 hmrow ok2
    go_enter Tryz.func173, Tryz.ntmps173
    go_wp2_with fail
    refine wp_region_plan [(false, 0), (false, 1), (false, 2), (false, 3), (false, 5), (false, 6), (false, 7), (false, 8), (true, 4), (true, 9), (false, 10)] (Below w.heap.size w) (by kernel_rfl) (by kernel_rfl) ((Below.refl _ w).drew) _ (by simp only [pickH, List.getElem?_toArray, List.getElem?_cons_succ, List.getElem?_cons_zero]; rfl) ?_
    repeat (refine HWalk.step (fun K hK => ?_); first | (apply held_yes; (focus rfl); (focus (intro w' hw; obtain ⟨hc', hf'⟩ := below_cells hw; go_simp; rfl)); (go_simp; refine hK _ ?_; clear hK K)) | (refine ite_no (by decide) ?_; go_simp; refine hK _ ?_; clear hK K))
    refine HWalk.mark ?_
    go_wp2_with fail
    refine (C2.out 1).mono ?_
    rintro e w' ⟨rfl, rfl⟩
    go_wp2_with fail
    refine ⟨S0.out, ?_⟩
    repeat (refine HWalk.step (fun K hK => ?_); first | (apply held_yes; (focus rfl); (focus (intro w' hw; obtain ⟨hc', hf'⟩ := below_cells hw; go_simp; rfl)); (go_simp; refine hK _ ?_; clear hK K)) | (refine ite_no (by decide) ?_; go_simp; refine hK _ ?_; clear hK K))
    refine HWalk.mark ?_
    go_wp2_with fail
    refine (C1.out 1).mono ?_
    rintro e w' ⟨rfl, rfl⟩
    go_wp2_with fail
    refine ⟨S0.out, ?_⟩
    repeat (refine HWalk.step (fun K hK => ?_); first | (apply held_yes; (focus rfl); (focus (intro w' hw; obtain ⟨hc', hf'⟩ := below_cells hw; go_simp; rfl)); (go_simp; refine hK _ ?_; clear hK K)) | (refine ite_no (by decide) ?_; go_simp; refine hK _ ?_; clear hK K))
    refine HWalk.done ?_
    go_wp2_with fail
    refine wp_region_plan [(false, 0), (false, 1), (false, 2), (false, 3), (false, 4), (false, 5), (false, 6), (false, 7), (false, 8), (false, 9), (false, 10), (false, 11), (false, 13), (false, 14), (false, 15), (false, 16), (false, 17), (false, 18), (false, 19), (false, 20), (false, 21), (false, 22), (true, 12), (true, 23), (true, 24), (false, 25)] (Below w.heap.size w) (by kernel_rfl) (by kernel_rfl) (S1.out) _ (by simp only [pickH, List.getElem?_toArray, List.getElem?_cons_succ, List.getElem?_cons_zero]; rfl) ?_
    repeat (refine HWalk.step (fun K hK => ?_); first | (apply held_yes; (focus rfl); (focus (intro w' hw; obtain ⟨hc', hf'⟩ := below_cells hw; go_simp; rfl)); (go_simp; refine hK _ ?_; clear hK K)) | (refine ite_no (by decide) ?_; go_simp; refine hK _ ?_; clear hK K))
    refine HWalk.mark ?_
    go_wp2_with fail
    refine (K1.out _ S1.out).mono ?_
    rintro e w1 ⟨a1, rfl, ht1, hb1⟩
    have B1 := Lib.hid (S1.out.trans (hb1.mono S1.out.size))
    have T1 := Lib.hid ht1
    clear ht1 hb1
    go_wp2_with fail
    refine ⟨B1.out, ?_⟩
    repeat (refine HWalk.step (fun K hK => ?_); first | (apply held_yes; (focus rfl); (focus (intro w' hw; obtain ⟨hc', hf'⟩ := below_cells hw; go_simp; rfl)); (go_simp; refine hK _ ?_; clear hK K)) | (refine ite_no (by decide) ?_; go_simp; refine hK _ ?_; clear hK K))
    refine HWalk.mark ?_
    go_wp2_with fail
    refine (K2.out _ B1.out).mono ?_
    rintro e w2 ⟨a2, rfl, ht2, hb2⟩
    have B2 := Lib.hid (B1.out.trans (hb2.mono B1.out.size))
    have T2 := Lib.hid ht2
    have T12 := Lib.hid (T1.out.below hb2)
    clear ht2 hb2
    go_wp2_with fail
    refine ⟨B2.out, ?_⟩
    repeat (refine HWalk.step (fun K hK => ?_); first | (apply held_yes; (focus rfl); (focus (intro w' hw; obtain ⟨hc', hf'⟩ := below_cells hw; go_simp; rfl)); (go_simp; refine hK _ ?_; clear hK K)) | (refine ite_no (by decide) ?_; go_simp; refine hK _ ?_; clear hK K))
    refine HWalk.mark ?_
    go_wp2_with fail
    refine (K3.out _ _ _ T12.out T2.out).mono ?_
    rintro e w3 ⟨a3, rfl, ht3, hb3⟩
    have B3 := Lib.hid (B2.out.trans (hb3.mono B2.out.size))
    have H : Hid (BalPost w ((T.node ll sl (T.node m1 sm m2)).l ++ s :: r.l) (T.node ll sl (T.node m1 sm m2)).ht (.returned (.pointer a3)) w3) := ⟨a3, _, rfl, ht3, HB.out.1, EL.out, by rw [HB.out.2]; exact Nat.le_refl _, by rw [HB.out.2]; omega, B3.out⟩
    clear ht3 hb3
    go_wp2_with fail
    refine ⟨B3.out, ?_⟩
    repeat (refine HWalk.step (fun K hK => ?_); first | (apply held_yes; (focus rfl); (focus (intro w' hw; obtain ⟨hc', hf'⟩ := below_cells hw; go_simp; rfl)); (go_simp; refine hK _ ?_; clear hK K)) | (refine ite_no (by decide) ?_; go_simp; refine hK _ ?_; clear hK K))
    refine HWalk.done ?_
    go_wp2_with fail
    go_ret
    exact H.out
  · have hci : ¬ (n1 : Int) < (n2 : Int) := by omega
    have EL : Hid (ll.l ++ sl :: (lr.l ++ s :: r.l) = (T.node ll sl lr).l ++ s :: r.l) := by show _ = _; simp [T.l_node]
    have ok2 : LOk (ll.l ++ sl :: (lr.l ++ s :: r.l)) := by rw [EL.out]; exact OK.out
    have K1 : Hid (∀ W, Below w.heap.size w W → Calls Tryz.prog 113 #[.pointer br_, .int .i64 s, .pointer ar] W (TrPost W (.node lr s r))) := fun W hb => over_any W br_ ar lr r s (H2.out.below hb) (HR.out.below hb) ok2.right.tail
    have K2 : Hid (∀ W a1, Below w.heap.size w W → Tr W a1 (.node lr s r) → Calls Tryz.prog 113 #[.pointer bl_, .int .i64 sl, .pointer a1] W (TrPost W (.node ll sl (.node lr s r)))) := fun W a1 hb h1 => over_any W bl_ a1 ll _ sl (H1.out.below hb) h1 ok2
    have HB : Hid ((T.node ll sl (.node lr s r)).Bal ∧ (T.node ll sl lr).ht ≤ (T.node ll sl (.node lr s r)).ht ∧ (T.node ll sl (.node lr s r)).ht ≤ (T.node ll sl lr).ht + 1) := by
      obtain ⟨q1, q2, q3, q4⟩ := BB.out
      have hh := HH.out
      simp only [T.ht_node] at hh
      refine ⟨⟨q1, ⟨q2, BR.out, ?_, ?_⟩, ?_, ?_⟩, ?_, ?_⟩ <;> (try simp only [T.ht_node]) <;> omega
    clear e1 e2 ok2
    go_enter Tryz.func173, Tryz.ntmps173
    go_wp2_with fail
    refine wp_region_plan [(false, 0), (false, 1), (false, 2), (false, 3), (false, 5), (false, 6), (false, 7), (false, 8), (true, 4), (true, 9), (false, 10)] (Below w.heap.size w) (by kernel_rfl) (by kernel_rfl) ((Below.refl _ w).drew) _ (by simp only [pickH, List.getElem?_toArray, List.getElem?_cons_succ, List.getElem?_cons_zero]; rfl) ?_
    repeat (refine HWalk.step (fun K hK => ?_); first | (apply held_yes; (focus rfl); (focus (intro w' hw; obtain ⟨hc', hf'⟩ := below_cells hw; go_simp; rfl)); (go_simp; refine hK _ ?_; clear hK K)) | (refine ite_no (by decide) ?_; go_simp; refine hK _ ?_; clear hK K))
    refine HWalk.mark ?_
    go_wp2_with fail
    refine (C2.out 1).mono ?_
    rintro e w' ⟨rfl, rfl⟩
    go_wp2_with fail
    refine ⟨S0.out, ?_⟩
    repeat (refine HWalk.step (fun K hK => ?_); first | (apply held_yes; (focus rfl); (focus (intro w' hw; obtain ⟨hc', hf'⟩ := below_cells hw; go_simp; rfl)); (go_simp; refine hK _ ?_; clear hK K)) | (refine ite_no (by decide) ?_; go_simp; refine hK _ ?_; clear hK K))
    refine HWalk.mark ?_
    go_wp2_with fail
    refine (C1.out 1).mono ?_
    rintro e w' ⟨rfl, rfl⟩
    go_wp2_with fail
    refine ⟨S0.out, ?_⟩
    repeat (refine HWalk.step (fun K hK => ?_); first | (apply held_yes; (focus rfl); (focus (intro w' hw; obtain ⟨hc', hf'⟩ := below_cells hw; go_simp; rfl)); (go_simp; refine hK _ ?_; clear hK K)) | (refine ite_no (by decide) ?_; go_simp; refine hK _ ?_; clear hK K))
    refine HWalk.done ?_
    go_wp2_with fail
    refine wp_region_plan [(false, 0), (false, 1), (false, 2), (false, 3), (false, 4), (false, 5), (false, 6), (false, 7), (false, 8), (false, 9), (false, 10), (false, 11), (false, 12), (false, 13), (true, 14), (true, 15), (false, 16)] (Below w.heap.size w) (by kernel_rfl) (by kernel_rfl) (S1.out) _ (by simp only [pickH, List.getElem?_toArray, List.getElem?_cons_succ, List.getElem?_cons_zero]; rfl) ?_
    repeat (refine HWalk.step (fun K hK => ?_); first | (apply held_yes; (focus rfl); (focus (intro w' hw; obtain ⟨hc', hf'⟩ := below_cells hw; go_simp; rfl)); (go_simp; refine hK _ ?_; clear hK K)) | (refine ite_no (by decide) ?_; go_simp; refine hK _ ?_; clear hK K))
    refine HWalk.mark ?_
    go_wp2_with fail
    refine (K1.out _ S1.out).mono ?_
    rintro e w1 ⟨a1, rfl, ht1, hb1⟩
    have B1 := Lib.hid (S1.out.trans (hb1.mono S1.out.size))
    have T1 := Lib.hid ht1
    clear ht1 hb1
    go_wp2_with fail
    refine ⟨B1.out, ?_⟩
    repeat (refine HWalk.step (fun K hK => ?_); first | (apply held_yes; (focus rfl); (focus (intro w' hw; obtain ⟨hc', hf'⟩ := below_cells hw; go_simp; rfl)); (go_simp; refine hK _ ?_; clear hK K)) | (refine ite_no (by decide) ?_; go_simp; refine hK _ ?_; clear hK K))
    refine HWalk.mark ?_
    go_wp2_with fail
    refine (K2.out _ _ B1.out T1.out).mono ?_
    rintro e w2 ⟨a2, rfl, ht2, hb2⟩
    have B2 := Lib.hid (B1.out.trans (hb2.mono B1.out.size))
    have H : Hid (BalPost w ((T.node ll sl lr).l ++ s :: r.l) (T.node ll sl lr).ht (.returned (.pointer a2)) w2) := ⟨a2, _, rfl, ht2, HB.out.1, EL.out, HB.out.2.1, HB.out.2.2, B2.out⟩
    clear ht2 hb2
    go_wp2_with fail
    refine ⟨B2.out, ?_⟩
    repeat (refine HWalk.step (fun K hK => ?_); first | (apply held_yes; (focus rfl); (focus (intro w' hw; obtain ⟨hc', hf'⟩ := below_cells hw; go_simp; rfl)); (go_simp; refine hK _ ?_; clear hK K)) | (refine ite_no (by decide) ?_; go_simp; refine hK _ ?_; clear hK K))
    refine HWalk.done ?_
    go_wp2_with fail
    go_ret
    exact H.out

theorem BalPost.more {w w1 w' : World} {L : List Int} {h : Nat} {e : Ending} (p : BalPost w1 L h e w') (hb : Below w.heap.size w w1) : BalPost w L h e w' := by
  obtain ⟨a, t, h1, h2, h3, h4, h5, h6, h7⟩ := p
  exact ⟨a, t, h1, h2, h3, h4, h5, h6, hb.trans (h7.mono hb.size)⟩

/-- The world in which balanced has put its variables. -/
def vars3 (w : World) (al ar : Option Addr) (s : Int) : World := ((w.alloc (.cells #[.pointer al] 25)).alloc (.cells #[.int .i64 s] 2)).alloc (.cells #[.pointer ar] 25)

set_option maxRecDepth 100000 in
set_option maxHeartbeats 1600000 in
theorem balanced_any (w : World) (al ar : Option Addr) (l r : T) (s : Int) (hl : Tr w al l) (hr : Tr w ar r) (bl : l.Bal) (br : r.Bal) (ok : LOk (l.l ++ s :: r.l)) (h1 : l.ht ≤ r.ht + 2) (h2 : r.ht ≤ l.ht + 2) :
    Calls Tryz.prog 160 #[.pointer al, .int .i64 s, .pointer ar] w (fun e w' => BalPost w (l.l ++ s :: r.l) (max l.ht r.ht) e w' ∧ (l.ht ≤ r.ht + 1 → r.ht ≤ l.ht + 1 → ∃ a, e = .returned (.pointer a) ∧ Tr w' a (.node l s r))) := by
  have V0 : Hid (Below w.heap.size w (vars3 w al ar s)) := (((Below.refl _ w).alloc (Nat.le_refl _) _).alloc (by simp) _).alloc (by simp; omega) _
  have d0 : (vars3 w al ar s).cell? ⟨w.heap.size, 0, none⟩ = some (.pointer al) := by unfold vars3; go_simp
  have d1 : (vars3 w al ar s).cell? ⟨w.heap.size + 1, 0, none⟩ = some (.int .i64 s) := by unfold vars3; go_simp
  have d2 : (vars3 w al ar s).cell? ⟨w.heap.size + 1 + 1, 0, none⟩ = some (.pointer ar) := by unfold vars3; go_simp
  have HL := Lib.hid (hl.below V0.out)
  have HR := Lib.hid (hr.below V0.out)
  have C1 := Lib.hid (fun q => tall_any ((vars3 w al ar s).drewN q) _ _ (HL.out.drawn ⟨q, rfl⟩))
  have C2 := Lib.hid (fun q => tall_any ((vars3 w al ar s).drewN q) _ _ (HR.out.drawn ⟨q, rfl⟩))
  obtain ⟨n1, e1⟩ : ∃ n, n = l.ht := ⟨_, rfl⟩
  obtain ⟨n2, e2⟩ : ∃ n, n = r.ht := ⟨_, rfl⟩
  have b1 : n1 ≤ 8192 := by have := l.ht_le; have := ok.left.len; omega
  have b2 : n2 ≤ 8192 := by have := r.ht_le; have := ok.right.tail.len; omega
  have E1 := Lib.hid e1
  have E2 := Lib.hid e2
  rw [← e1] at C1 h1 h2
  rw [← e2] at C2 h1 h2
  have BL := Lib.hid bl
  have BR := Lib.hid br
  have OK := Lib.hid ok
  clear hl hr bl br ok e1 e2
  go_enter Tryz.func160, Tryz.ntmps160
  go_wp2_with fail
  obtain ⟨w3, e3⟩ : ∃ w3, w3 = vars3 w al ar s := ⟨_, rfl⟩
  have e3' : ((w.alloc (.cells #[.pointer al] 25)).alloc (.cells #[.int .i64 s] 2)).alloc (.cells #[.pointer ar] 25) = w3 := e3.symm
  rw [e3']
  rw [← e3] at V0 d0 d1 d2 HL HR C1 C2
  clear e3 e3'
  have lt0 := block_lt_of_cell d0
  have lt1 := block_lt_of_cell d1
  have lt2 := block_lt_of_cell d2
  have S0 : Hid (Below w3.heap.size w3 (w3.drewN 1)) := Go.below_drewN (Below.refl _ w3) 1
  have KS : Hid (n1 ≤ n2 + 1 → n2 ≤ n1 + 1 → Calls Tryz.prog 171 #[.pointer (some ⟨w.heap.size, 0, none⟩), .pointer (some ⟨w.heap.size + 1, 0, none⟩), .pointer (some ⟨w.heap.size + 1 + 1, 0, none⟩)] (w3.drewN 1) (TrPost (w3.drewN 1) (.node l s r))) := fun _ _ =>
    straight_any (w3.drewN 1) _ _ _ al ar l r s d0 d1 d2 (HL.out.drawn ⟨1, rfl⟩) (HR.out.drawn ⟨1, rfl⟩) OK.out
  have KL : Hid (n2 = n1 + 2 → Calls Tryz.prog 172 #[.pointer (some ⟨w.heap.size + 1 + 1, 0, none⟩), .pointer (some ⟨w.heap.size, 0, none⟩), .pointer (some ⟨w.heap.size + 1, 0, none⟩)] (w3.drewN 1) (BalPost (w3.drewN 1) (l.l ++ s :: r.l) n2)) := fun h => by
    obtain ⟨rl, sr, rr, rfl⟩ := T.ht_pos (t := r) (by rw [← E2.out]; omega)
    rw [E2.out]
    exact leftwards_any (w3.drewN 1) _ _ _ al ar l rl rr s sr d0 d1 d2 (HL.out.drawn ⟨1, rfl⟩) (HR.out.drawn ⟨1, rfl⟩) BL.out BR.out (by rw [← E2.out, ← E1.out]; exact h) OK.out
  have KR : Hid (n1 = n2 + 2 → Calls Tryz.prog 173 #[.pointer (some ⟨w.heap.size, 0, none⟩), .pointer (some ⟨w.heap.size + 1, 0, none⟩), .pointer (some ⟨w.heap.size + 1 + 1, 0, none⟩)] (w3.drewN 1) (BalPost (w3.drewN 1) (l.l ++ s :: r.l) n1)) := fun h => by
    obtain ⟨ll, sl, lr, rfl⟩ := T.ht_pos (t := l) (by rw [← E1.out]; omega)
    rw [E1.out]
    exact rightwards_any (w3.drewN 1) _ _ _ al ar ll lr r s sl d0 d1 d2 (HL.out.drawn ⟨1, rfl⟩) (HR.out.drawn ⟨1, rfl⟩) BL.out BR.out (by rw [← E2.out, ← E1.out]; exact h) OK.out
  clear HL HR
  by_cases cL : n1 + 1 < n2
  · have hL := Lib.hid (KL.out (by omega))
    have f1 : (1 : Int) < (n2 : Int) - (n1 : Int) := by omega
    have EM : Hid (max l.ht r.ht = n2) := by show _ = _; rw [← E1.out, ← E2.out]; omega
    clear KS KL KR
    refine wp_region_plan [(false, 0), (false, 2), (true, 1), (true, 3), (false, 4), (false, 5)] (Below w3.heap.size w3) (by kernel_rfl) (by kernel_rfl) ((Below.refl _ w3).drew) _ (by simp only [pickH, List.getElem?_toArray, List.getElem?_cons_succ, List.getElem?_cons_zero]; rfl) ?_
    repeat (refine HWalk.step (fun K hK => ?_); first | (apply held_yes; (focus rfl); (focus (intro w' hw; obtain ⟨hc', hf'⟩ := below_cells hw; go_simp; rfl)); (go_simp; refine hK _ ?_; clear hK K)) | (refine ite_no (by decide) ?_; go_simp; refine hK _ ?_; clear hK K))
    refine HWalk.mark ?_
    go_wp2_with fail
    refine (C2.out 1).mono ?_
    rintro e w' ⟨rfl, rfl⟩
    go_wp2_with fail
    refine ⟨S0.out, ?_⟩
    repeat (refine HWalk.step (fun K hK => ?_); first | (apply held_yes; (focus rfl); (focus (intro w' hw; obtain ⟨hc', hf'⟩ := below_cells hw; go_simp; rfl)); (go_simp; refine hK _ ?_; clear hK K)) | (refine ite_no (by decide) ?_; go_simp; refine hK _ ?_; clear hK K))
    refine HWalk.mark ?_
    go_wp2_with fail
    refine (C1.out 1).mono ?_
    rintro e w' ⟨rfl, rfl⟩
    go_wp2_with fail
    refine ⟨S0.out, ?_⟩
    repeat (refine HWalk.step (fun K hK => ?_); first | (apply held_yes; (focus rfl); (focus (intro w' hw; obtain ⟨hc', hf'⟩ := below_cells hw; go_simp; rfl)); (go_simp; refine hK _ ?_; clear hK K)) | (refine ite_no (by decide) ?_; go_simp; refine hK _ ?_; clear hK K))
    refine HWalk.done ?_
    go_wp2_with fail
    refine (hL.out).mono ?_
    rintro e w4 hp
    obtain ⟨a, t, rfl, q1, q2, q3, q4, q5, q6⟩ := hp.more (w := w3) S0.out
    have H : Hid (BalPost w (l.l ++ s :: r.l) (max l.ht r.ht) (.returned (.pointer a)) w4 ∧ (l.ht ≤ r.ht + 1 → r.ht ≤ l.ht + 1 → ∃ a', Ending.returned (.pointer a) = .returned (.pointer a') ∧ Tr w4 a' (.node l s r))) :=
      ⟨⟨a, t, rfl, q1, q2, q3, by rw [EM.out]; exact q4, by rw [EM.out]; exact q5, V0.out.trans (q6.mono V0.out.size)⟩, fun h1 h2 => by rw [← E1.out, ← E2.out] at h2; omega⟩
    clear hp q1 q2 q3 q4 q5 q6
    go_wp2_with fail
    go_ret
    exact H.out
  by_cases cR : n2 + 1 < n1
  · have hL := Lib.hid (KR.out (by omega))
    have f0 : ¬ (1 : Int) < (n2 : Int) - (n1 : Int) := by omega
    have f1 : (n2 : Int) - (n1 : Int) < -1 := by omega
    have EM : Hid (max l.ht r.ht = n1) := by show _ = _; rw [← E1.out, ← E2.out]; omega
    clear KS KL KR
    refine wp_region_plan [(false, 0), (false, 2), (true, 1), (true, 3), (false, 4), (false, 5)] (Below w3.heap.size w3) (by kernel_rfl) (by kernel_rfl) ((Below.refl _ w3).drew) _ (by simp only [pickH, List.getElem?_toArray, List.getElem?_cons_succ, List.getElem?_cons_zero]; rfl) ?_
    repeat (refine HWalk.step (fun K hK => ?_); first | (apply held_yes; (focus rfl); (focus (intro w' hw; obtain ⟨hc', hf'⟩ := below_cells hw; go_simp; rfl)); (go_simp; refine hK _ ?_; clear hK K)) | (refine ite_no (by decide) ?_; go_simp; refine hK _ ?_; clear hK K))
    refine HWalk.mark ?_
    go_wp2_with fail
    refine (C2.out 1).mono ?_
    rintro e w' ⟨rfl, rfl⟩
    go_wp2_with fail
    refine ⟨S0.out, ?_⟩
    repeat (refine HWalk.step (fun K hK => ?_); first | (apply held_yes; (focus rfl); (focus (intro w' hw; obtain ⟨hc', hf'⟩ := below_cells hw; go_simp; rfl)); (go_simp; refine hK _ ?_; clear hK K)) | (refine ite_no (by decide) ?_; go_simp; refine hK _ ?_; clear hK K))
    refine HWalk.mark ?_
    go_wp2_with fail
    refine (C1.out 1).mono ?_
    rintro e w' ⟨rfl, rfl⟩
    go_wp2_with fail
    refine ⟨S0.out, ?_⟩
    repeat (refine HWalk.step (fun K hK => ?_); first | (apply held_yes; (focus rfl); (focus (intro w' hw; obtain ⟨hc', hf'⟩ := below_cells hw; go_simp; rfl)); (go_simp; refine hK _ ?_; clear hK K)) | (refine ite_no (by decide) ?_; go_simp; refine hK _ ?_; clear hK K))
    refine HWalk.done ?_
    go_wp2_with fail
    refine (hL.out).mono ?_
    rintro e w4 hp
    obtain ⟨a, t, rfl, q1, q2, q3, q4, q5, q6⟩ := hp.more (w := w3) S0.out
    have H : Hid (BalPost w (l.l ++ s :: r.l) (max l.ht r.ht) (.returned (.pointer a)) w4 ∧ (l.ht ≤ r.ht + 1 → r.ht ≤ l.ht + 1 → ∃ a', Ending.returned (.pointer a) = .returned (.pointer a') ∧ Tr w4 a' (.node l s r))) :=
      ⟨⟨a, t, rfl, q1, q2, q3, by rw [EM.out]; exact q4, by rw [EM.out]; exact q5, V0.out.trans (q6.mono V0.out.size)⟩, fun h1 h2 => by rw [← E1.out, ← E2.out] at h1; omega⟩
    clear hp q1 q2 q3 q4 q5 q6
    go_wp2_with fail
    go_ret
    exact H.out
  · have hL := Lib.hid (KS.out (by omega) (by omega))
    have f0 : ¬ (1 : Int) < (n2 : Int) - (n1 : Int) := by omega
    have f1 : ¬ (n2 : Int) - (n1 : Int) < -1 := by omega
    clear KS KL KR
    refine wp_region_plan [(false, 0), (false, 2), (true, 1), (true, 3), (false, 4), (false, 5)] (Below w3.heap.size w3) (by kernel_rfl) (by kernel_rfl) ((Below.refl _ w3).drew) _ (by simp only [pickH, List.getElem?_toArray, List.getElem?_cons_succ, List.getElem?_cons_zero]; rfl) ?_
    repeat (refine HWalk.step (fun K hK => ?_); first | (apply held_yes; (focus rfl); (focus (intro w' hw; obtain ⟨hc', hf'⟩ := below_cells hw; go_simp; rfl)); (go_simp; refine hK _ ?_; clear hK K)) | (refine ite_no (by decide) ?_; go_simp; refine hK _ ?_; clear hK K))
    refine HWalk.mark ?_
    go_wp2_with fail
    refine (C2.out 1).mono ?_
    rintro e w' ⟨rfl, rfl⟩
    go_wp2_with fail
    refine ⟨S0.out, ?_⟩
    repeat (refine HWalk.step (fun K hK => ?_); first | (apply held_yes; (focus rfl); (focus (intro w' hw; obtain ⟨hc', hf'⟩ := below_cells hw; go_simp; rfl)); (go_simp; refine hK _ ?_; clear hK K)) | (refine ite_no (by decide) ?_; go_simp; refine hK _ ?_; clear hK K))
    refine HWalk.mark ?_
    go_wp2_with fail
    refine (C1.out 1).mono ?_
    rintro e w' ⟨rfl, rfl⟩
    go_wp2_with fail
    refine ⟨S0.out, ?_⟩
    repeat (refine HWalk.step (fun K hK => ?_); first | (apply held_yes; (focus rfl); (focus (intro w' hw; obtain ⟨hc', hf'⟩ := below_cells hw; go_simp; rfl)); (go_simp; refine hK _ ?_; clear hK K)) | (refine ite_no (by decide) ?_; go_simp; refine hK _ ?_; clear hK K))
    refine HWalk.done ?_
    go_wp2_with fail
    refine (hL.out).mono ?_
    rintro e w4 ⟨a, rfl, q1, q6⟩
    have H : Hid (BalPost w (l.l ++ s :: r.l) (max l.ht r.ht) (.returned (.pointer a)) w4 ∧ (l.ht ≤ r.ht + 1 → r.ht ≤ l.ht + 1 → ∃ a', Ending.returned (.pointer a) = .returned (.pointer a') ∧ Tr w4 a' (.node l s r))) :=
      ⟨⟨a, .node l s r, rfl, q1, ⟨BL.out, BR.out, by rw [← E1.out, ← E2.out]; omega, by rw [← E1.out, ← E2.out]; omega⟩, rfl, by rw [T.ht_node]; omega, by rw [T.ht_node]; omega, V0.out.trans ((S0.out.trans (q6.mono S0.out.size)).mono V0.out.size)⟩, fun _ _ => ⟨a, rfl, q1⟩⟩
    clear q1 q6
    go_wp2_with fail
    go_ret
    exact H.out
end Go.Proofs.YtfmfmeiaekknbaaGreat
end

section
/-
  Contracts of package ropes, fourth: joined.
-/
namespace Go.Proofs.YtfmfmeiaekknbaaGreat
open Go.RowKit
set_option linter.unusedVariables false
set_option linter.unusedSimpArgs false

/-- What balanced leaves, of two trees whose heights differ by at most 2. -/
theorem bal_join {w w' : World} {l r : T} {s : Int} {e : Ending} {h : Nat} (bl : l.Bal) (br : r.Bal) (hp : BalPost w (l.l ++ s :: r.l) (max l.ht r.ht) e w' ∧ (l.ht ≤ r.ht + 1 → r.ht ≤ l.ht + 1 → ∃ a, e = .returned (.pointer a) ∧ Tr w' a (.node l s r)))
    (h1 : h ≤ max l.ht r.ht + 1) (h2 : max l.ht r.ht ≤ h) (h3 : l.ht ≤ r.ht + 1 ∧ r.ht ≤ l.ht + 1 ∨ h ≤ max l.ht r.ht) : BalPost w (l.l ++ s :: r.l) h e w' := by
  by_cases c : l.ht ≤ r.ht + 1 ∧ r.ht ≤ l.ht + 1
  · obtain ⟨a, rfl, ht⟩ := hp.2 c.1 c.2
    obtain ⟨_, _, _, _, _, _, _, _, hb⟩ := hp.1
    exact ⟨a, _, rfl, ht, ⟨bl, br, c.1, c.2⟩, rfl, by rw [T.ht_node]; omega, by rw [T.ht_node]; omega, hb⟩
  · obtain ⟨a, t, q1, q2, q3, q4, q5, q6, q7⟩ := hp.1
    exact ⟨a, t, q1, q2, q3, q4, by omega, by omega, q7⟩

set_option maxRecDepth 100000 in
set_option maxHeartbeats 1600000 in
theorem joined_any : ∀ (n : Nat) (l r : T), l.ht + r.ht ≤ n → ∀ (w : World) (al ar : Option Addr) (s : Int), Tr w al l → Tr w ar r → l.Bal → r.Bal → LOk (l.l ++ s :: r.l) →
    Calls Tryz.prog 139 #[.pointer al, .int .i64 s, .pointer ar] w (BalPost w (l.l ++ s :: r.l) (max l.ht r.ht)) := by
  intro n
  induction n with
  | zero =>
    intro l r hn w al ar s hl hr bl br ok
    have z1 : l.ht = 0 := by omega
    have z2 : r.ht = 0 := by omega
    have C1 := Lib.hid (tall_any w al l hl)
    have C2 := Lib.hid (tall_any w ar r hr)
    have KO := Lib.hid (over_any w al ar l r s hl hr ok)
    have HB : Hid ((T.node l s r).Bal ∧ (T.node l s r).ht = max l.ht r.ht + 1) := ⟨⟨bl, br, by omega, by omega⟩, rfl⟩
    rw [z1] at C1
    rw [z2] at C2
    clear hl hr bl br ok hn z1 z2
    go_enter Tryz.func139, Tryz.ntmps139
    go_wp2_with fail
    refine (C1.out).mono ?_
    rintro e w' ⟨rfl, rfl⟩
    go_wp2_with fail
    refine (C2.out).mono ?_
    rintro e w' ⟨rfl, rfl⟩
    go_wp2_with fail
    refine (C2.out).mono ?_
    rintro e w' ⟨rfl, rfl⟩
    go_wp2_with fail
    refine (C1.out).mono ?_
    rintro e w' ⟨rfl, rfl⟩
    go_wp2_with fail
    refine (KO.out).mono ?_
    rintro e w1 ⟨a, rfl, q1, q2⟩
    have H : Hid (BalPost w (l.l ++ s :: r.l) (max l.ht r.ht) (.returned (.pointer a)) w1) := ⟨a, _, rfl, q1, HB.out.1, rfl, by rw [HB.out.2]; omega, by rw [HB.out.2]; omega, q2⟩
    clear q1 q2
    go_wp2_with fail
    go_ret
    exact H.out
  | succ n ih =>
    intro l r hn w al ar s hl hr bl br ok
    have C1 := Lib.hid (tall_any w al l hl)
    have C2 := Lib.hid (tall_any w ar r hr)
    have b1 : l.ht ≤ 8192 := by have := l.ht_le; have := ok.left.len; omega
    have b2 : r.ht ≤ 8192 := by have := r.ht_le; have := ok.right.tail.len; omega
    have S1 : Hid (Below w.heap.size w w.drew) := (Below.refl _ w).drew
    have IH := Lib.hid ih
    clear ih
    by_cases c1 : r.ht + 1 < l.ht
    · obtain ⟨ll, sl, lr, rfl⟩ := T.ht_pos (t := l) (by omega)
      obtain ⟨b, all, alr, rfl, hrow, h1, h2⟩ := hl
      obtain ⟨d0, d1, d2, _, _, _⟩ := ncells_of hrow
      have ltb := hrow.lt
      obtain ⟨q1, q2, q3, q4⟩ := bl
      have EL : ll.l ++ sl :: (lr.l ++ s :: r.l) = (T.node ll sl lr).l ++ s :: r.l := by simp [T.l_node]
      have ok2 : LOk (ll.l ++ sl :: (lr.l ++ s :: r.l)) := by rw [EL]; exact ok
      have hht : (T.node ll sl lr).ht = max ll.ht lr.ht + 1 := rfl
      have K1 : Hid (Calls Tryz.prog 139 #[.pointer alr, .int .i64 s, .pointer ar] w.drew (BalPost w.drew (lr.l ++ s :: r.l) (max lr.ht r.ht))) := IH.out lr r (by omega) w.drew alr ar s (h2.below S1.out) (hr.below S1.out) q2 br ok2.right.tail
      have K2 : Hid (∀ W a1 t1, Below w.heap.size w W → Tr W a1 t1 → t1.Bal → t1.l = lr.l ++ s :: r.l → max lr.ht r.ht ≤ t1.ht → t1.ht ≤ max lr.ht r.ht + 1 → Calls Tryz.prog 160 #[.pointer all, .int .i64 sl, .pointer a1] W (BalPost W ((T.node ll sl lr).l ++ s :: r.l) (max (T.node ll sl lr).ht r.ht))) := fun W a1 t1 hb ht1 bt1 el g1 g2 => by
        refine (balanced_any W all a1 ll t1 sl (h1.below hb) ht1 q1 bt1 (by rw [el]; exact ok2) (by omega) (by omega)).mono ?_
        intro e w' hp
        rw [← EL, ← el]
        exact bal_join q1 bt1 hp (by omega) (by omega) (by omega)
      obtain ⟨n1, e1⟩ : ∃ n, n = (T.node ll sl lr).ht := ⟨_, rfl⟩
      obtain ⟨n2, e2⟩ : ∃ n, n = r.ht := ⟨_, rfl⟩
      obtain ⟨L, e3⟩ : ∃ L, L = (T.node ll sl lr).l ++ s :: r.l := ⟨_, rfl⟩
      rw [← e1] at C1 b1 c1 K2 ⊢
      rw [← e2] at C2 b2 c1 K2 K1 ⊢
      rw [← e3] at K2 ⊢
      have hci : (n2 : Int) + 1 < (n1 : Int) := by omega
      clear e1 e2 e3 hht EL ok2 hrow h1 h2 hr q1 q2 q3 q4 br ok hn
      go_enter Tryz.func139, Tryz.ntmps139
      go_wp2_with fail
      refine (C1.out).mono ?_
      rintro e w' ⟨rfl, rfl⟩
      go_wp2_with fail
      refine (C2.out).mono ?_
      rintro e w' ⟨rfl, rfl⟩
      go_wp2_with fail
      refine wp_region_plan [(false, 0), (false, 1), (false, 2), (false, 3), (false, 4), (false, 5), (false, 6), (false, 7), (false, 8), (false, 9), (false, 10), (false, 11), (false, 12), (false, 13), (true, 14), (true, 15), (false, 16)] (Below w.heap.size w) (by kernel_rfl) (by kernel_rfl) (S1.out) _ (by simp only [pickH, List.getElem?_toArray, List.getElem?_cons_succ, List.getElem?_cons_zero]; rfl) ?_
      repeat (refine HWalk.step (fun K hK => ?_); first | (apply held_yes; (focus rfl); (focus (intro w' hw; obtain ⟨hc', hf'⟩ := below_cells hw; go_simp; rfl)); (go_simp; refine hK _ ?_; clear hK K)) | (refine ite_no (by decide) ?_; go_simp; refine hK _ ?_; clear hK K))
      refine HWalk.mark ?_
      go_wp2_with fail
      refine (K1.out).mono ?_
      rintro e w1 ⟨a1, t1, rfl, p1, p2, p3, p4, p5, p6⟩
      have B1 := Lib.hid (S1.out.trans (p6.mono S1.out.size))
      have HX := Lib.hid (K2.out w1 a1 t1 B1.out p1 p2 p3 p4 p5)
      clear p1 p2 p3 p4 p5 p6
      go_wp2_with fail
      refine ⟨B1.out, ?_⟩
      repeat (refine HWalk.step (fun K hK => ?_); first | (apply held_yes; (focus rfl); (focus (intro w' hw; obtain ⟨hc', hf'⟩ := below_cells hw; go_simp; rfl)); (go_simp; refine hK _ ?_; clear hK K)) | (refine ite_no (by decide) ?_; go_simp; refine hK _ ?_; clear hK K))
      refine HWalk.mark ?_
      go_wp2_with fail
      refine (HX.out).mono ?_
      rintro e w2 hp
      have HP := Lib.hid (hp.more B1.out)
      obtain ⟨a2, t2, rfl, p1, p2, p3, p4, p5, p6⟩ := hp
      have B2 := Lib.hid (B1.out.trans (p6.mono B1.out.size))
      clear p1 p2 p3 p4 p5 p6
      go_wp2_with fail
      refine ⟨B2.out, ?_⟩
      repeat (refine HWalk.step (fun K hK => ?_); first | (apply held_yes; (focus rfl); (focus (intro w' hw; obtain ⟨hc', hf'⟩ := below_cells hw; go_simp; rfl)); (go_simp; refine hK _ ?_; clear hK K)) | (refine ite_no (by decide) ?_; go_simp; refine hK _ ?_; clear hK K))
      refine HWalk.done ?_
      go_wp2_with fail
      go_ret
      exact HP.out
    by_cases c2 : l.ht + 1 < r.ht
    · obtain ⟨rl, sr, rr, rfl⟩ := T.ht_pos (t := r) (by omega)
      obtain ⟨b, arl, arr, rfl, hrow, h1, h2⟩ := hr
      obtain ⟨d0, d1, d2, _, _, _⟩ := ncells_of hrow
      have ltb := hrow.lt
      obtain ⟨q1, q2, q3, q4⟩ := br
      have EL : (l.l ++ s :: rl.l) ++ sr :: rr.l = l.l ++ s :: (T.node rl sr rr).l := by simp [T.l_node]
      have ok2 : LOk ((l.l ++ s :: rl.l) ++ sr :: rr.l) := by rw [EL]; exact ok
      have hht : (T.node rl sr rr).ht = max rl.ht rr.ht + 1 := rfl
      have K1 : Hid (Calls Tryz.prog 139 #[.pointer al, .int .i64 s, .pointer arl] w.drew (BalPost w.drew (l.l ++ s :: rl.l) (max l.ht rl.ht))) := IH.out l rl (by omega) w.drew al arl s (hl.below S1.out) (h1.below S1.out) bl q1 ok2.left
      have K2 : Hid (∀ W a1 t1, Below w.heap.size w W → Tr W a1 t1 → t1.Bal → t1.l = l.l ++ s :: rl.l → max l.ht rl.ht ≤ t1.ht → t1.ht ≤ max l.ht rl.ht + 1 → Calls Tryz.prog 160 #[.pointer a1, .int .i64 sr, .pointer arr] W (BalPost W (l.l ++ s :: (T.node rl sr rr).l) (max l.ht (T.node rl sr rr).ht))) := fun W a1 t1 hb ht1 bt1 el g1 g2 => by
        refine (balanced_any W a1 arr t1 rr sr ht1 (h2.below hb) bt1 q2 (by rw [el]; exact ok2) (by omega) (by omega)).mono ?_
        intro e w' hp
        rw [← EL, ← el]
        exact bal_join bt1 q2 hp (by omega) (by omega) (by omega)
      obtain ⟨n2, e2⟩ : ∃ n, n = (T.node rl sr rr).ht := ⟨_, rfl⟩
      obtain ⟨n1, e1⟩ : ∃ n, n = l.ht := ⟨_, rfl⟩
      obtain ⟨L, e3⟩ : ∃ L, L = l.l ++ s :: (T.node rl sr rr).l := ⟨_, rfl⟩
      rw [← e1] at C1 b1 c1 c2 K2 K1 ⊢
      rw [← e2] at C2 b2 c1 c2 K2 ⊢
      rw [← e3] at K2 ⊢
      have hci : (n1 : Int) + 1 < (n2 : Int) := by omega
      have hcj : ¬ (n2 : Int) + 1 < (n1 : Int) := by omega
      clear e1 e2 e3 hht EL ok2 hrow h1 h2 hl q1 q2 q3 q4 bl ok hn
      go_enter Tryz.func139, Tryz.ntmps139
      go_wp2_with fail
      refine (C1.out).mono ?_
      rintro e w' ⟨rfl, rfl⟩
      go_wp2_with fail
      refine (C2.out).mono ?_
      rintro e w' ⟨rfl, rfl⟩
      go_wp2_with fail
      refine (C2.out).mono ?_
      rintro e w' ⟨rfl, rfl⟩
      go_wp2_with fail
      refine (C1.out).mono ?_
      rintro e w' ⟨rfl, rfl⟩
      go_wp2_with fail
      refine wp_region_plan [(false, 0), (false, 1), (false, 2), (false, 3), (false, 4), (false, 5), (false, 7), (false, 8), (false, 9), (false, 10), (false, 11), (false, 12), (false, 13), (false, 14), (true, 6), (true, 15), (false, 16)] (Below w.heap.size w) (by kernel_rfl) (by kernel_rfl) (S1.out) _ (by simp only [pickH, List.getElem?_toArray, List.getElem?_cons_succ, List.getElem?_cons_zero]; rfl) ?_
      repeat (refine HWalk.step (fun K hK => ?_); first | (apply held_yes; (focus rfl); (focus (intro w' hw; obtain ⟨hc', hf'⟩ := below_cells hw; go_simp; rfl)); (go_simp; refine hK _ ?_; clear hK K)) | (refine ite_no (by decide) ?_; go_simp; refine hK _ ?_; clear hK K))
      refine HWalk.mark ?_
      go_wp2_with fail
      refine (K1.out).mono ?_
      rintro e w1 ⟨a1, t1, rfl, p1, p2, p3, p4, p5, p6⟩
      have B1 := Lib.hid (S1.out.trans (p6.mono S1.out.size))
      have HX := Lib.hid (K2.out w1 a1 t1 B1.out p1 p2 p3 p4 p5)
      clear p1 p2 p3 p4 p5 p6
      go_wp2_with fail
      refine ⟨B1.out, ?_⟩
      repeat (refine HWalk.step (fun K hK => ?_); first | (apply held_yes; (focus rfl); (focus (intro w' hw; obtain ⟨hc', hf'⟩ := below_cells hw; go_simp; rfl)); (go_simp; refine hK _ ?_; clear hK K)) | (refine ite_no (by decide) ?_; go_simp; refine hK _ ?_; clear hK K))
      refine HWalk.mark ?_
      go_wp2_with fail
      refine (HX.out).mono ?_
      rintro e w2 hp
      have HP := Lib.hid (hp.more B1.out)
      obtain ⟨a2, t2, rfl, p1, p2, p3, p4, p5, p6⟩ := hp
      have B2 := Lib.hid (B1.out.trans (p6.mono B1.out.size))
      clear p1 p2 p3 p4 p5 p6
      go_wp2_with fail
      refine ⟨B2.out, ?_⟩
      repeat (refine HWalk.step (fun K hK => ?_); first | (apply held_yes; (focus rfl); (focus (intro w' hw; obtain ⟨hc', hf'⟩ := below_cells hw; go_simp; rfl)); (go_simp; refine hK _ ?_; clear hK K)) | (refine ite_no (by decide) ?_; go_simp; refine hK _ ?_; clear hK K))
      refine HWalk.done ?_
      go_wp2_with fail
      go_ret
      exact HP.out
    · have KO := Lib.hid (over_any w al ar l r s hl hr ok)
      have HB : Hid ((T.node l s r).Bal ∧ (T.node l s r).ht = max l.ht r.ht + 1) := ⟨⟨bl, br, by omega, by omega⟩, rfl⟩
      obtain ⟨n1, e1⟩ : ∃ n, n = l.ht := ⟨_, rfl⟩
      obtain ⟨n2, e2⟩ : ∃ n, n = r.ht := ⟨_, rfl⟩
      rw [← e1] at C1 b1 c1 c2 HB ⊢
      rw [← e2] at C2 b2 c1 c2 HB ⊢
      have hci : ¬ (n1 : Int) + 1 < (n2 : Int) := by omega
      have hcj : ¬ (n2 : Int) + 1 < (n1 : Int) := by omega
      clear hl hr bl br ok hn e1 e2
      go_enter Tryz.func139, Tryz.ntmps139
      go_wp2_with fail
      refine (C1.out).mono ?_
      rintro e w' ⟨rfl, rfl⟩
      go_wp2_with fail
      refine (C2.out).mono ?_
      rintro e w' ⟨rfl, rfl⟩
      go_wp2_with fail
      refine (C2.out).mono ?_
      rintro e w' ⟨rfl, rfl⟩
      go_wp2_with fail
      refine (C1.out).mono ?_
      rintro e w' ⟨rfl, rfl⟩
      go_wp2_with fail
      refine (KO.out).mono ?_
      rintro e w1 ⟨a, rfl, q1, q2⟩
      have H : Hid (BalPost w (l.l ++ s :: r.l) (max n1 n2) (.returned (.pointer a)) w1) := ⟨a, _, rfl, q1, HB.out.1, rfl, by rw [HB.out.2]; omega, by rw [HB.out.2]; omega, q2⟩
      clear q1 q2
      go_wp2_with fail
      go_ret
      exact H.out
end Go.Proofs.YtfmfmeiaekknbaaGreat
end

section
/-
  Contracts of package ropes, fifth: split, put, grown.
-/
namespace Go.Proofs.YtfmfmeiaekknbaaGreat
open Go.RowKit
set_option linter.unusedVariables false
set_option linter.unusedSimpArgs false

/-- A rope's root, its sizes. -/
def Rp (w : World) (a : Option Addr) (L : List Int) : Prop := ∃ t, Tr w a t ∧ t.Bal ∧ t.l = L
theorem Rp.below {w w' : World} {a : Option Addr} {L : List Int} (h : Rp w a L) (hb : Below w.heap.size w w') : Rp w' a L := by
  obtain ⟨t, h1, h2, h3⟩ := h
  exact ⟨t, h1.below hb, h2, h3⟩
theorem Rp.drawn {w w' : World} {a : Option Addr} {L : List Int} (h : Rp w a L) (hd : Drawn w w') : Rp w' a L := by
  obtain ⟨t, h1, h2, h3⟩ := h
  exact ⟨t, h1.drawn hd, h2, h3⟩
theorem Rp.nil (w : World) : Rp w none [] := ⟨.nil, rfl, trivial, rfl⟩
theorem BalPost.rp {w w' : World} {L : List Int} {h : Nat} {e : Ending} (p : BalPost w L h e w') : ∃ a, e = .returned (.pointer a) ∧ Rp w' a L ∧ Below w.heap.size w w' := by
  obtain ⟨a, t, h1, h2, h3, h4, _, _, h7⟩ := p
  exact ⟨a, h1, ⟨t, h2, h3, h4⟩, h7⟩
/-- joined, of two roots. -/
theorem joinRp (w : World) (al ar : Option Addr) (A B : List Int) (s : Int) (hl : Rp w al A) (hr : Rp w ar B) (ok : LOk (A ++ s :: B)) :
    Calls Tryz.prog 139 #[.pointer al, .int .i64 s, .pointer ar] w (fun e w' => ∃ a, e = .returned (.pointer a) ∧ Rp w' a (A ++ s :: B) ∧ Below w.heap.size w w') := by
  obtain ⟨l, h1, h2, rfl⟩ := hl
  obtain ⟨r, h3, h4, rfl⟩ := hr
  exact (joined_any _ l r (Nat.le_refl _) w al ar s h1 h3 h2 h4 ok).mono fun e w' hp => hp.rp

def SplitPost (w : World) (A B : List Int) (e : Ending) (w' : World) : Prop := ∃ a1 a2, e = .returned (.tuple #[.pointer a1, .pointer a2]) ∧ Rp w' a1 A ∧ Rp w' a2 B ∧ Below w.heap.size w w'

set_option maxRecDepth 100000 in
set_option maxHeartbeats 1600000 in
theorem split_tr : ∀ (t : T) (w : World) (a : Option Addr) (k : Nat) (x : Int), Tr w a t → t.Bal → LOk t.l → k ≤ t.l.length → x = (k : Int) →
    Calls Tryz.prog 94 #[.pointer a, .int .i64 x] w (SplitPost w (t.l.take k) (t.l.drop k)) := by
  intro t
  induction t with
  | nil =>
    intro w a k x ht bt ok hk hx
    subst hx
    obtain rfl : a = none := ht
    have H : Hid (SplitPost w (T.nil.l.take k) (T.nil.l.drop k) (.returned (.tuple #[.pointer none, .pointer none])) w) := ⟨none, none, rfl, by rw [T.l_nil, List.take_nil]; exact Rp.nil w, by rw [T.l_nil, List.drop_nil]; exact Rp.nil w, Below.refl _ _⟩
    go_enter Tryz.func94, Tryz.ntmps94
    go_wp2_with fail
    go_ret2
    exact H.out
  | node l s r ihl ihr =>
    intro w a k x ht bt ok hk hx
    subst hx
    obtain ⟨b, al, ar, rfl, hrow, h1, h2⟩ := ht
    obtain ⟨d0, d1, d2, _, _, _⟩ := ncells_of hrow
    have ltb := hrow.lt
    obtain ⟨q1, q2, q3, q4⟩ := bt
    have CL := Lib.hid (count_any w al l h1)
    have okn : LOk (l.l ++ s :: r.l) := ok
    have hlen : (T.node l s r).l.length = l.l.length + (r.l.length + 1) := by rw [T.l_node]; simp
    have n1 := ok.len
    have hkl : k ≤ l.l.length + (r.l.length + 1) := by omega
    have n2 : l.l.length + (r.l.length + 1) ≤ 8192 := by omega
    obtain ⟨m, hm⟩ : ∃ m, m = l.l.length := ⟨_, rfl⟩
    by_cases c : m < k
    · have E1 : Hid ((T.node l s r).l.take k = l.l ++ s :: r.l.take (k - m - 1)) := by
        show _ = _
        rw [T.l_node, List.take_append, List.take_of_length_le (by omega), ← hm, show k - m = (k - m - 1) + 1 from by omega, List.take_succ_cons]
        simp
      have E2 : Hid ((T.node l s r).l.drop k = r.l.drop (k - m - 1)) := by
        show _ = _
        rw [T.l_node, List.drop_append, List.drop_of_length_le (by omega), ← hm, show k - m = (k - m - 1) + 1 from by omega, List.drop_succ_cons]
        simp
      have K1 := Lib.hid (ihr w ar (k - m - 1) ((k : Int) - (m : Int) - 1) h2 q2 okn.right.tail (by omega) (by omega))
      have K2 : Hid (∀ W a1, Below w.heap.size w W → Rp W a1 (r.l.take (k - m - 1)) → Calls Tryz.prog 139 #[.pointer al, .int .i64 s, .pointer a1] W (fun e w' => ∃ a, e = .returned (.pointer a) ∧ Rp w' a (l.l ++ s :: r.l.take (k - m - 1)) ∧ Below W.heap.size W w')) := fun W a1 hb h3 => joinRp W al a1 l.l _ s ⟨l, h1.below hb, q1, rfl⟩ h3 (by
        have := ok.take k
        rwa [E1.out] at this)
      rw [← hm] at CL
      have hci : (m : Int) < (k : Int) := by omega
      have n3 : m ≤ 8192 := by omega
      have n4 : k ≤ 8192 := by omega
      clear ihl ihr h1 h2 hrow ok okn hlen n1 hkl n2 hm hk q1 q2 q3 q4
      go_enter Tryz.func94, Tryz.ntmps94
      go_wp2_with fail
      refine (CL.out).mono ?_
      rintro e w' ⟨rfl, rfl⟩
      go_wp2_with fail
      refine (K1.out).mono ?_
      rintro e w1 ⟨a1, a2, rfl, p1, p2, p3⟩
      have B1 := Lib.hid p3
      have c0 := (p3.cell (p := ⟨b, 0, none⟩) ltb).trans d0
      have c2 := (p3.cell (p := ⟨b, 2, none⟩) ltb).trans d2
      have ltb1 : b < w1.heap.size := Nat.lt_of_lt_of_le ltb p3.size
      have S1 : Hid (Below w1.heap.size w1 w1.drew) := (Below.refl _ _).drew
      have HX := Lib.hid (K2.out w1.drew a1 (p3.drew) (p1.drawn ⟨1, rfl⟩))
      have P2 := Lib.hid p2
      clear p1 p2 p3
      go_wp2_with fail
      refine wp_region_plan [(false, 0), (false, 1), (false, 2), (false, 3), (false, 4), (false, 5), (false, 6), (false, 7), (false, 8), (false, 10), (true, 9), (false, 11), (false, 12)] (Below w1.heap.size w1) (by kernel_rfl) (by kernel_rfl) (S1.out) _ (by simp only [pickH, List.getElem?_toArray, List.getElem?_cons_succ, List.getElem?_cons_zero]; rfl) ?_
      repeat (refine HWalk.step (fun K hK => ?_); first | (apply held_yes; (focus rfl); (focus (intro w' hw; obtain ⟨hc', hf'⟩ := below_cells hw; go_simp; rfl)); (go_simp; refine hK _ ?_; clear hK K)) | (refine ite_no (by decide) ?_; go_simp; refine hK _ ?_; clear hK K))
      refine HWalk.mark ?_
      go_wp2_with fail
      refine (HX.out).mono ?_
      rintro e w2 ⟨a3, rfl, p1, p3⟩
      have B2 := Lib.hid (S1.out.trans p3)
      have H : Hid (SplitPost w ((T.node l s r).l.take k) ((T.node l s r).l.drop k) (.returned (.tuple #[.pointer a3, .pointer a2])) w2) := ⟨a3, a2, rfl, by rw [E1.out]; exact p1, by rw [E2.out]; exact P2.out.below B2.out, B1.out.trans (B2.out.mono B1.out.size)⟩
      clear p1 p3
      go_wp2_with fail
      refine ⟨B2.out, ?_⟩
      repeat (refine HWalk.step (fun K hK => ?_); first | (apply held_yes; (focus rfl); (focus (intro w' hw; obtain ⟨hc', hf'⟩ := below_cells hw; go_simp; rfl)); (go_simp; refine hK _ ?_; clear hK K)) | (refine ite_no (by decide) ?_; go_simp; refine hK _ ?_; clear hK K))
      refine HWalk.done ?_
      go_wp2_with fail
      go_ret2
      exact H.out
    · have E1 : Hid ((T.node l s r).l.take k = l.l.take k) := by
        show _ = _
        rw [T.l_node, List.take_append_of_le_length (by omega)]
      have E2 : Hid ((T.node l s r).l.drop k = l.l.drop k ++ s :: r.l) := by
        show _ = _
        rw [T.l_node, List.drop_append_of_le_length (by omega)]
      have K1 := Lib.hid (ihl w al k (k : Int) h1 q1 okn.left (by omega) rfl)
      have K2 : Hid (∀ W a2, Below w.heap.size w W → Rp W a2 (l.l.drop k) → Calls Tryz.prog 139 #[.pointer a2, .int .i64 s, .pointer ar] W (fun e w' => ∃ a, e = .returned (.pointer a) ∧ Rp w' a (l.l.drop k ++ s :: r.l) ∧ Below W.heap.size W w')) := fun W a2 hb h3 => joinRp W a2 ar _ r.l s h3 ⟨r, h2.below hb, q2, rfl⟩ (by
        have := ok.drop k
        rwa [E2.out] at this)
      rw [← hm] at CL
      have hci : ¬ (m : Int) < (k : Int) := by omega
      have n3 : m ≤ 8192 := by omega
      have n4 : k ≤ 8192 := by omega
      clear ihl ihr h1 h2 hrow ok okn hlen n1 hkl n2 hm hk q1 q2 q3 q4
      go_enter Tryz.func94, Tryz.ntmps94
      go_wp2_with fail
      refine (CL.out).mono ?_
      rintro e w' ⟨rfl, rfl⟩
      go_wp2_with fail
      refine (K1.out).mono ?_
      rintro e w1 ⟨a1, a2, rfl, p1, p2, p3⟩
      have B1 := Lib.hid p3
      have c1 := (p3.cell (p := ⟨b, 1, none⟩) ltb).trans d1
      have c2 := (p3.cell (p := ⟨b, 2, none⟩) ltb).trans d2
      have ltb1 : b < w1.heap.size := Nat.lt_of_lt_of_le ltb p3.size
      have S1 : Hid (Below w1.heap.size w1 w1.drew) := (Below.refl _ _).drew
      have HX := Lib.hid (K2.out w1.drew a2 (p3.drew) (p2.drawn ⟨1, rfl⟩))
      have P1 := Lib.hid p1
      clear p1 p2 p3
      go_wp2_with fail
      refine wp_region_plan [(false, 0), (false, 1), (false, 2), (false, 3), (false, 4), (false, 5), (false, 6), (false, 7), (false, 8), (false, 9), (true, 10), (false, 11), (false, 12)] (Below w1.heap.size w1) (by kernel_rfl) (by kernel_rfl) (S1.out) _ (by simp only [pickH, List.getElem?_toArray, List.getElem?_cons_succ, List.getElem?_cons_zero]; rfl) ?_
      repeat (refine HWalk.step (fun K hK => ?_); first | (apply held_yes; (focus rfl); (focus (intro w' hw; obtain ⟨hc', hf'⟩ := below_cells hw; go_simp; rfl)); (go_simp; refine hK _ ?_; clear hK K)) | (refine ite_no (by decide) ?_; go_simp; refine hK _ ?_; clear hK K))
      refine HWalk.mark ?_
      go_wp2_with fail
      refine (HX.out).mono ?_
      rintro e w2 ⟨a3, rfl, p2, p3⟩
      have B2 := Lib.hid (S1.out.trans p3)
      have H : Hid (SplitPost w ((T.node l s r).l.take k) ((T.node l s r).l.drop k) (.returned (.tuple #[.pointer a1, .pointer a3])) w2) := ⟨a1, a3, rfl, by rw [E1.out]; exact P1.out.below B2.out, by rw [E2.out]; exact p2, B1.out.trans (B2.out.mono B1.out.size)⟩
      clear p2 p3
      go_wp2_with fail
      refine ⟨B2.out, ?_⟩
      repeat (refine HWalk.step (fun K hK => ?_); first | (apply held_yes; (focus rfl); (focus (intro w' hw; obtain ⟨hc', hf'⟩ := below_cells hw; go_simp; rfl)); (go_simp; refine hK _ ?_; clear hK K)) | (refine ite_no (by decide) ?_; go_simp; refine hK _ ?_; clear hK K))
      refine HWalk.done ?_
      go_wp2_with fail
      go_ret2
      exact H.out
/-- split, of a root. -/
theorem split_any (w : World) (a : Option Addr) (L : List Int) (k : Nat) (x : Int) (h : Rp w a L) (ok : LOk L) (hk : k ≤ L.length) (hx : x = (k : Int)) :
    Calls Tryz.prog 94 #[.pointer a, .int .i64 x] w (SplitPost w (L.take k) (L.drop k)) := by
  obtain ⟨t, h1, h2, rfl⟩ := h
  exact split_tr t w a k x h1 h2 ok hk hx

set_option maxRecDepth 100000 in
set_option maxHeartbeats 1600000 in
theorem put_any (w : World) (al ar : Option Addr) (A B : List Int) (hl : Rp w al A) (hr : Rp w ar B) (ok : LOk (A ++ B)) :
    Calls Tryz.prog 95 #[.pointer al, .pointer ar] w (fun e w' => ∃ a, e = .returned (.pointer a) ∧ Rp w' a (A ++ B) ∧ Below w.heap.size w w') := by
  cases B with
  | nil =>
    obtain ⟨t, h1, h2, h3⟩ := hr
    obtain rfl := T.l_empty h3
    obtain rfl : ar = none := h1
    have H : Hid (∃ a, Ending.returned (.pointer al) = .returned (.pointer a) ∧ Rp w a (A ++ []) ∧ Below w.heap.size w w) := ⟨al, rfl, by rw [List.append_nil]; exact hl, Below.refl _ _⟩
    clear hl h2 h3
    go_enter Tryz.func95, Tryz.ntmps95
    go_wp2_with fail
    go_ret
    exact H.out
  | cons y B =>
    obtain ⟨t, h1, h2, h3⟩ := hr
    obtain ⟨tl, ts, tr, rfl⟩ := T.l_pos (t := t) (by rw [h3]; simp)
    have hsome : ∃ ad, ar = some ad := by obtain ⟨b, _, _, e, _⟩ := h1; exact ⟨_, e⟩
    obtain ⟨ad, rfl⟩ := hsome
    have KS := Lib.hid (split_any w (some ad) (y :: B) 1 1 ⟨_, h1, h2, h3⟩ ok.right (by simp) rfl)
    have HL := Lib.hid hl
    have OK := Lib.hid ok
    clear hl ok h1 h2 h3
    go_enter Tryz.func95, Tryz.ntmps95
    go_wp2_with fail
    refine (KS.out).mono ?_
    rintro e w1 ⟨a1, a2, rfl, p1, p2, p3⟩
    obtain ⟨t1, g1, g2, g3⟩ := p1
    obtain ⟨ul, us, ur, rfl⟩ := T.l_pos (t := t1) (by rw [g3]; simp)
    obtain ⟨b, _, _, rfl, hrow, _, _⟩ := g1
    obtain ⟨_, _, c2, _, _, _⟩ := ncells_of hrow
    have e0 : us = y := by
      rw [T.l_node] at g3
      have hl0 := congrArg List.length g3
      simp at hl0
      obtain ⟨z1, z2⟩ : ul.l = [] ∧ ur.l = [] := ⟨by apply List.eq_nil_of_length_eq_zero; omega, by apply List.eq_nil_of_length_eq_zero; omega⟩
      rw [z1, z2] at g3
      simpa using g3
    subst e0
    have HJ := Lib.hid (joinRp w1 al a2 A B us (HL.out.below p3) p2 OK.out)
    have B1 := Lib.hid p3
    clear hrow g2 g3 p2 p3
    go_wp2_with fail
    refine (HJ.out).mono ?_
    rintro e w2 ⟨a3, rfl, p1, p2⟩
    have H : Hid (∃ a, Ending.returned (.pointer a3) = .returned (.pointer a) ∧ Rp w2 a (A ++ us :: B) ∧ Below w.heap.size w w2) := ⟨a3, rfl, p1, B1.out.trans (p2.mono B1.out.size)⟩
    clear p1 p2
    go_wp2_with fail
    go_ret
    exact H.out
end Go.Proofs.YtfmfmeiaekknbaaGreat
end

section
/-
  Contracts of package ropes, sixth: grown, Of, and the methods that only look at the root.
-/
namespace Go.Proofs.YtfmfmeiaekknbaaGreat
open Go.RowKit
set_option linter.unusedVariables false
set_option linter.unusedSimpArgs false

theorem toL_split (l : Nat → Int) (n m : Nat) (h : m < n) : toL l n = toL l m ++ l m :: toL (fun j => l (m + 1 + j)) (n - (m + 1)) := by
  apply List.ext_getElem
  · simp [toL]; omega
  · intro i h1 h2
    simp only [toL, List.length_map, List.length_range] at h1
    rw [List.getElem_append]
    simp only [toL, List.length_map, List.length_range, List.getElem_map, List.getElem_range]
    by_cases c : i < m
    · rw [dif_pos c]
    · rw [dif_neg c]
      by_cases d : i = m
      · subst d; simp
      · obtain ⟨k, rfl⟩ : ∃ k, i = m + 1 + k := ⟨i - m - 1, by omega⟩
        simp only [show m + 1 + k - m = k + 1 from by omega, List.getElem_cons_succ, List.getElem_map, List.getElem_range]
theorem Sees.sub {w : World} {B n : Nat} {b o : Nat} {f : Nat → Value} (h : Sees w B (some ⟨b, o, none⟩) n f) {k : Nat} (hk : k ≤ n) : Sees w B (some ⟨b, o + k, none⟩) (n - k) (fun j => f (k + j)) := by
  intro hn
  obtain ⟨b', o', e, hb, hc⟩ := h (by omega)
  injection e with e; injection e with e1 e2
  subst e1 e2
  exact ⟨b, o + k, rfl, hb, fun j hj => by rw [Nat.add_assoc]; exact hc (k + j) (by omega)⟩
theorem Sees.first {w : World} {B n : Nat} {A : Option Addr} {f : Nat → Value} (h : Sees w B A n f) {k : Nat} (hk : k ≤ n) : Sees w B A k f := by
  intro hn
  obtain ⟨b', o', e, hb, hc⟩ := h (by omega)
  exact ⟨b', o', e, hb, fun j hj => hc j (by omega)⟩

/-- What grown leaves. -/
def GrownPost (w : World) (L : List Int) (e : Ending) (w' : World) : Prop := ∃ a t, e = .returned (.pointer a) ∧ Tr w' a t ∧ t.Bal ∧ t.l = L ∧ 2 ^ t.ht ≤ 2 * L.length + 1 ∧ Below w.heap.size w w'

theorem pow_half {h : Nat} {m : Nat} (h1 : 2 ^ h ≤ 2 * m + 1) (h0 : 0 < h) : 2 ^ h ≤ 2 * m := by
  obtain ⟨k, rfl⟩ : ∃ k, h = k + 1 := ⟨h - 1, by omega⟩
  rw [Nat.pow_succ] at h1 ⊢
  omega
theorem pow_cmp {a b : Nat} (h : 2 ^ a < 2 * 2 ^ b) : a ≤ b := by
  rcases Nat.lt_or_ge b a with c | c
  · have := Nat.pow_le_pow_right (show 0 < 2 by decide) (show b + 1 ≤ a from c)
    rw [Nat.pow_succ] at this
    omega
  · exact c

set_option maxRecDepth 100000 in
set_option maxHeartbeats 1600000 in
theorem grown_any : ∀ (n : Nat) (w : World) (A : Option Addr) (c : Nat) (l : Nat → Int) (B : Nat), Sees w B A n (i64s l) → B ≤ w.heap.size → n ≤ c → c ≤ maxLen → n ≤ 8192 → LOk (toL l n) →
    Calls Tryz.prog 50 #[.slice A n c] w (GrownPost w (toL l n)) := by
  intro n
  induction n using Nat.strongRecOn with
  | ind n ih =>
    intro w A c l B hs hB hnc hc hn ok
    by_cases n0 : n = 0
    · subst n0
      have H : Hid (GrownPost w (toL l 0) (.returned (.pointer none)) w) := ⟨none, .nil, rfl, rfl, trivial, rfl, (by show 1 ≤ 1; decide), Below.refl _ _⟩
      go_enter Tryz.func50, Tryz.ntmps50
      go_wp2_with fail
      go_ret
      exact H.out
    obtain ⟨b, o, rfl, hb, hcell⟩ := hs (by omega)
    have hne : ((n : Int) == 0) = false := by simp; omega
    unfold maxLen at hc
    obtain ⟨m, hm⟩ : ∃ m, m = n / 2 := ⟨_, rfl⟩
    have hmi : (n : Int) / 2 = (m : Int) := by omega
    have hmn : m < n := by omega
    have hx := hcell m hmn
    rw [i64s_at] at hx
    have hbw : b < w.heap.size := by omega
    have EL := Lib.hid (toL_split l n m hmn)
    have S1 : Hid (Below w.heap.size w w.drew) := (Below.refl _ _).drew
    have ok2 : LOk (toL l m ++ l m :: toL (fun j => l (m + 1 + j)) (n - (m + 1))) := by rw [← EL.out]; exact ok
    have K1 : Hid (∀ W c', Below w.heap.size w W → m ≤ c' → c' ≤ maxLen → Calls Tryz.prog 50 #[.slice (some ⟨b, o, none⟩) m c'] W (GrownPost W (toL l m))) := fun W c' hbW hc1 hc2 =>
      ih m hmn W _ c' l B ((hs.first (by omega)).below (hbW.mono hB)) (by have := hbW.size; omega) hc1 hc2 (by omega) ok2.left
    have hki : (m : Int) < (n : Int) := by omega
    have hk0 : (0 : Int) ≤ (m : Int) := by omega
    have hi1 : (m : Int) ≤ (c : Int) := by omega
    have hi2 : (m : Int) + 1 ≤ (n : Int) := by omega
    have hi3 : (n : Int) ≤ (c : Int) := by omega
    have hi4 : (0 : Int) ≤ (m : Int) + 1 := by omega
    have hi5 : (m : Int) ≤ 8192 := by omega
    have hi6 : IntKind.i64.wrap ((m : Int) + 1) = (m : Int) + 1 := IntWalk.i64_in _ (by omega)
    have hi7 : ((m : Int) + 1).toNat = m + 1 := by omega
    have K2 : Hid (∀ W A' c', Below w.heap.size w W → (0 < n - (m + 1) → A' = some ⟨b, o + (m + 1), none⟩) → n - (m + 1) ≤ c' → c' ≤ maxLen → Calls Tryz.prog 50 #[.slice A' (n - (m + 1)) c'] W (GrownPost W (toL (fun j => l (m + 1 + j)) (n - (m + 1))))) := fun W A' c' hbW hA' hc' hm' =>
      ih (n - (m + 1)) (by omega) W A' c' _ B (fun h0 => by rw [hA' h0]; exact ((hs.sub (show m + 1 ≤ n by omega)).below (hbW.mono hB)) (by omega)) (by have := hbW.size; omega) hc' hm' (by omega) ok2.right.tail
    have K3 : Hid (∀ W a1 a2 t1 t2, Tr W a1 t1 → Tr W a2 t2 → t1.l = toL l m → t2.l = toL (fun j => l (m + 1 + j)) (n - (m + 1)) → Calls Tryz.prog 113 #[.pointer a1, .int .i64 (l m), .pointer a2] W (TrPost W (.node t1 (l m) t2))) := fun W a1 a2 t1 t2 h1 h2 e1 e2 => over_any W a1 a2 t1 t2 (l m) h1 h2 (by rw [T.l_node, e1, e2]; exact ok2)
    have KF : Hid (∀ t1 t2 : T, t1.Bal → t2.Bal → t1.l = toL l m → t2.l = toL (fun j => l (m + 1 + j)) (n - (m + 1)) → 2 ^ t1.ht ≤ 2 * (toL l m).length + 1 → 2 ^ t2.ht ≤ 2 * (toL (fun j => l (m + 1 + j)) (n - (m + 1))).length + 1 → (T.node t1 (l m) t2).Bal ∧ (T.node t1 (l m) t2).l = toL l n ∧ 2 ^ (T.node t1 (l m) t2).ht ≤ 2 * (toL l n).length + 1) := by
      intro t1 t2 b1 b2 e1 e2 p1 p2
      have g1 := t1.len_lt
      have g2 := t2.len_lt
      rw [e1] at g1
      rw [e2] at g2
      rw [toL_length] at g1 g2 p1 p2
      have f1 : t2.ht ≤ t1.ht := pow_cmp (by omega)
      have f2 : t1.ht ≤ t2.ht + 1 := pow_cmp (by rw [Nat.pow_succ]; omega)
      refine ⟨⟨b1, b2, by omega, by omega⟩, by rw [T.l_node, e1, e2, EL.out], ?_⟩
      rw [T.ht_node, Nat.max_eq_left f1, Nat.pow_succ, toL_length]
      by_cases z : t1.ht = 0
      · rw [z]; omega
      · have := pow_half p1 (by omega); omega
    clear ih hs hm EL ok ok2 hcell hb
    by_cases hcap : c = m + 1
    · have hcn : (c : Int) = (m : Int) + 1 := by omega
      have hz1 : (m : Int) ≤ (m : Int) + 1 := by omega
      have hz2 : (n : Int) ≤ (m : Int) + 1 := by omega
      have hz3 : n - (m + 1) ≤ 0 := by omega
      go_enter Tryz.func50, Tryz.ntmps50
      go_wp2_with fail
      refine wp_region_plan [(false, 0), (false, 1), (false, 2), (false, 4), (false, 5), (false, 6), (false, 7), (false, 8), (false, 9), (false, 10), (false, 11), (true, 3), (true, 12), (true, 13), (false, 14)] (Below w.heap.size w) (by kernel_rfl) (by kernel_rfl) (S1.out) _ (by simp only [pickH, List.getElem?_toArray, List.getElem?_cons_succ, List.getElem?_cons_zero]; rfl) ?_
      repeat (refine HWalk.step (fun K hK => ?_); first | (apply held_yes; (focus rfl); (focus (intro w' hw; obtain ⟨hc', hf'⟩ := below_cells hw; go_simp; rfl)); (go_simp; refine hK _ ?_; clear hK K)) | (refine ite_no (by decide) ?_; go_simp; refine hK _ ?_; clear hK K))
      refine HWalk.mark ?_
      go_wp2_with fail
      refine (K1.out _ _ S1.out (by omega) (by unfold maxLen; omega)).mono ?_
      rintro e w1 ⟨a1, t1, rfl, p1, p2, p3, p4, p5⟩
      have B1 := Lib.hid (S1.out.trans (p5.mono S1.out.size))
      have P1 := Lib.hid (And.intro p1 (And.intro p2 (And.intro p3 p4)))
      clear p1 p2 p3 p4 p5
      go_wp2_with fail
      refine ⟨B1.out, ?_⟩
      repeat (refine HWalk.step (fun K hK => ?_); first | (apply held_yes; (focus rfl); (focus (intro w' hw; obtain ⟨hc', hf'⟩ := below_cells hw; go_simp; rfl)); (go_simp; refine hK _ ?_; clear hK K)) | (refine ite_no (by decide) ?_; go_simp; refine hK _ ?_; clear hK K))
      refine HWalk.mark ?_
      go_wp2_with fail
      refine (K2.out _ _ _ B1.out (fun h => absurd h (by omega)) (by omega) (by unfold maxLen; omega)).mono ?_
      rintro e w2 ⟨a2, t2, rfl, p1, p2, p3, p4, p5⟩
      have B2 := Lib.hid (B1.out.trans (p5.mono B1.out.size))
      have HO := Lib.hid (K3.out w2 a1 a2 t1 t2 (P1.out.1.below p5) p1 P1.out.2.2.1 p3)
      have HT := Lib.hid (KF.out t1 t2 P1.out.2.1 p2 P1.out.2.2.1 p3 P1.out.2.2.2 p4)
      clear p1 p2 p3 p4 p5
      go_wp2_with fail
      refine ⟨B2.out, ?_⟩
      repeat (refine HWalk.step (fun K hK => ?_); first | (apply held_yes; (focus rfl); (focus (intro w' hw; obtain ⟨hc', hf'⟩ := below_cells hw; go_simp; rfl)); (go_simp; refine hK _ ?_; clear hK K)) | (refine ite_no (by decide) ?_; go_simp; refine hK _ ?_; clear hK K))
      refine HWalk.mark ?_
      go_wp2_with fail
      refine (HO.out).mono ?_
      rintro e w3 ⟨a3, rfl, p1, p2⟩
      have B3 := Lib.hid (B2.out.trans (p2.mono B2.out.size))
      have H : Hid (GrownPost w (toL l n) (.returned (.pointer a3)) w3) := ⟨a3, _, rfl, p1, HT.out.1, HT.out.2.1, HT.out.2.2, B3.out⟩
      clear p1 p2
      go_wp2_with fail
      refine ⟨B3.out, ?_⟩
      repeat (refine HWalk.step (fun K hK => ?_); first | (apply held_yes; (focus rfl); (focus (intro w' hw; obtain ⟨hc', hf'⟩ := below_cells hw; go_simp; rfl)); (go_simp; refine hK _ ?_; clear hK K)) | (refine ite_no (by decide) ?_; go_simp; refine hK _ ?_; clear hK K))
      refine HWalk.done ?_
      go_wp2_with fail
      go_ret
      exact H.out
    · have hcn : ¬ (c : Int) = (m : Int) + 1 := by omega
      go_enter Tryz.func50, Tryz.ntmps50
      go_wp2_with fail
      refine wp_region_plan [(false, 0), (false, 1), (false, 2), (false, 4), (false, 5), (false, 6), (false, 7), (false, 8), (false, 9), (false, 10), (false, 11), (true, 3), (true, 12), (true, 13), (false, 14)] (Below w.heap.size w) (by kernel_rfl) (by kernel_rfl) (S1.out) _ (by simp only [pickH, List.getElem?_toArray, List.getElem?_cons_succ, List.getElem?_cons_zero]; rfl) ?_
      repeat (refine HWalk.step (fun K hK => ?_); first | (apply held_yes; (focus rfl); (focus (intro w' hw; obtain ⟨hc', hf'⟩ := below_cells hw; go_simp; rfl)); (go_simp; refine hK _ ?_; clear hK K)) | (refine ite_no (by decide) ?_; go_simp; refine hK _ ?_; clear hK K))
      refine HWalk.mark ?_
      go_wp2_with fail
      refine (K1.out _ _ S1.out (by omega) (by unfold maxLen; omega)).mono ?_
      rintro e w1 ⟨a1, t1, rfl, p1, p2, p3, p4, p5⟩
      have B1 := Lib.hid (S1.out.trans (p5.mono S1.out.size))
      have P1 := Lib.hid (And.intro p1 (And.intro p2 (And.intro p3 p4)))
      clear p1 p2 p3 p4 p5
      go_wp2_with fail
      refine ⟨B1.out, ?_⟩
      repeat (refine HWalk.step (fun K hK => ?_); first | (apply held_yes; (focus rfl); (focus (intro w' hw; obtain ⟨hc', hf'⟩ := below_cells hw; go_simp; rfl)); (go_simp; refine hK _ ?_; clear hK K)) | (refine ite_no (by decide) ?_; go_simp; refine hK _ ?_; clear hK K))
      refine HWalk.mark ?_
      go_wp2_with fail
      refine (K2.out _ _ _ B1.out (fun _ => rfl) (by omega) (by unfold maxLen; omega)).mono ?_
      rintro e w2 ⟨a2, t2, rfl, p1, p2, p3, p4, p5⟩
      have B2 := Lib.hid (B1.out.trans (p5.mono B1.out.size))
      have HO := Lib.hid (K3.out w2 a1 a2 t1 t2 (P1.out.1.below p5) p1 P1.out.2.2.1 p3)
      have HT := Lib.hid (KF.out t1 t2 P1.out.2.1 p2 P1.out.2.2.1 p3 P1.out.2.2.2 p4)
      clear p1 p2 p3 p4 p5
      go_wp2_with fail
      refine ⟨B2.out, ?_⟩
      repeat (refine HWalk.step (fun K hK => ?_); first | (apply held_yes; (focus rfl); (focus (intro w' hw; obtain ⟨hc', hf'⟩ := below_cells hw; go_simp; rfl)); (go_simp; refine hK _ ?_; clear hK K)) | (refine ite_no (by decide) ?_; go_simp; refine hK _ ?_; clear hK K))
      refine HWalk.mark ?_
      go_wp2_with fail
      refine (HO.out).mono ?_
      rintro e w3 ⟨a3, rfl, p1, p2⟩
      have B3 := Lib.hid (B2.out.trans (p2.mono B2.out.size))
      have H : Hid (GrownPost w (toL l n) (.returned (.pointer a3)) w3) := ⟨a3, _, rfl, p1, HT.out.1, HT.out.2.1, HT.out.2.2, B3.out⟩
      clear p1 p2
      go_wp2_with fail
      refine ⟨B3.out, ?_⟩
      repeat (refine HWalk.step (fun K hK => ?_); first | (apply held_yes; (focus rfl); (focus (intro w' hw; obtain ⟨hc', hf'⟩ := below_cells hw; go_simp; rfl)); (go_simp; refine hK _ ?_; clear hK K)) | (refine ite_no (by decide) ?_; go_simp; refine hK _ ?_; clear hK K))
      refine HWalk.done ?_
      go_wp2_with fail
      go_ret
      exact H.out
end Go.Proofs.YtfmfmeiaekknbaaGreat
end

section
/-
  Contract of fenwicks.Check.
-/
namespace Go.Proofs.YtfmfmeiaekknbaaGreat
open Go.RowKit
set_option linter.unusedVariables false

set_option maxHeartbeats 800000 in
theorem fcheck_any (A : Option Addr) (n c : Nat) (l : Nat → Int) (w : World) (B : Nat) (hs : Sees w B A n (i64s l)) (hf : ∀ k, Fits (l k)) (hn : n ≤ 1000000000000000) :
    Calls Tryz.prog 49 #[.slice A n c] w fun e w' => e = .returned (.int .i64 (chk l n)) ∧ w = w' := by
  by_cases hbig : 4096 < n
  · go_enter Tryz.func49, Tryz.ntmps49
    go_wp2
    go_ret
    exact ⟨ret_int (by unfold chk; rw [if_pos hbig]), rfl⟩
  · have hfin : Hid (chk l n = chkTo l n) := by show chk l n = _; unfold chk; rw [if_neg hbig]
    have hle : n ≤ 4096 := by omega
    clear hbig
    go_enter Tryz.func49, Tryz.ntmps49
    go_wp2
    go_loop [3, 11] (fun s k => ∃ j : Nat, j ≤ n ∧ k = .int .i64 j ∧ s = .int .i64 (psum l j) ∧ Hid (chkTo l j = 0)) (fun _ k => n - (intOf k).toNat)
    case atStart => exact ⟨0, Nat.zero_le _, rfl, rfl, rfl⟩
    case round =>
      obtain ⟨j, hj, rfl, rfl, h0⟩ := hrel
      by_cases hlt : j < n
      · obtain ⟨b, o, rfl, hb, hcell⟩ := hs.at_ (k := j) hlt
        obtain ⟨p1, p2⟩ := psum_bd l h0.out
        obtain ⟨f1, f2⟩ := hf j
        rw [i64s_at] at hcell
        by_cases c1 : l j < 0
        · have H : Hid (chk l n = 12) := hfin.out.trans ((chkTo_stays l (by rw [chkTo_12 l h0.out (.inl c1)]; decide) hlt).trans (chkTo_12 l h0.out (.inl c1)))
          go_wp2
          go_ret
          exact ⟨ret_int H.out.symm, rfl⟩
        · by_cases c2 : 2305843009213693952 < l j
          · have H : Hid (chk l n = 12) := hfin.out.trans ((chkTo_stays l (by rw [chkTo_12 l h0.out (.inr c2)]; decide) hlt).trans (chkTo_12 l h0.out (.inr c2)))
            go_wp2
            go_ret
            exact ⟨ret_int H.out.symm, rfl⟩
          · by_cases c3 : 4611686018427387904 - psum l j < l j
            · have H : Hid (chk l n = 13) := hfin.out.trans ((chkTo_stays l (by rw [chkTo_13 l h0.out (by omega) (by omega) (by omega)]; decide) hlt).trans (chkTo_13 l h0.out (by omega) (by omega) (by omega)))
              go_wp2
              go_ret
              exact ⟨ret_int H.out.symm, rfl⟩
            · have H0 : Hid (chkTo l (j + 1) = 0) := chkTo_0 l h0.out (by omega) (by omega) (by omega)
              have H : Hid (psum l (j + 1) = psum l j + l j) := psum_succ l j
              go_wp2
              go_round
              case rel => exact ⟨j + 1, by omega, by go_num, by rw [H.out], H0⟩
              case measure => simp [intOf]; omega
      · obtain rfl : j = n := by omega
        have H : Hid (chk l j = 0) := hfin.out.trans h0.out
        go_wp2
        go_ret
        exact ⟨ret_int H.out.symm, rfl⟩

end Go.Proofs.YtfmfmeiaekknbaaGreat
end

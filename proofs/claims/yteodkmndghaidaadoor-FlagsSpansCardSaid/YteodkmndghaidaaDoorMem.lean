/-
  Words for memory: a slice that came in and is seen as a function of the index; a row of the call's own ('World.rowIs'); sums of sizes. Plain lemmas, no Go text.
-/
import Derived.WalkKit
import Derived.WalkSpells
import Derived.WalkLawsBesides
import Derived.Lib.MinMax
import Derived.Lib.Hide
import Derived.Deep.OwnRows
import Derived.Deep.Draws
import Derived.Laws.Entries
namespace Go.Proofs.YteodkmndghaidaaDoor
open Go.RowKit

theorem ret_int {k : IntKind} {a b : Int} (h : a = b) : Ending.returned (.int k a) = .returned (.int k b) := by rw [h]
theorem ret_bool {a b : Bool} (h : a = b) : Ending.returned (.bool a) = .returned (.bool b) := by rw [h]
theorem ret_int2 {k k' : IntKind} {a b a' b' : Int} (h : a = b) (h' : a' = b') : Ending.returned (.tuple #[.int k a, .int k' a']) = .returned (.tuple #[.int k b, .int k' b']) := by rw [h, h']
theorem ret_agg2 {k k' : IntKind} {a b a' b' : Int} (h : a = b) (h' : a' = b') : Ending.returned (.agg #[.int k a, .int k' a']) = .returned (.agg #[.int k b, .int k' b']) := by rw [h, h']
theorem hidden {p : Prop} (h : p) : Hid p := h

/-- The slice value '.slice A n _' shows the n values f 0, f 1, .. in world w; its memory lies below block B. -/
def Sees (w : World) (B : Nat) (A : Option Addr) (n : Nat) (f : Nat → Value) : Prop :=
  0 < n → ∃ b o, A = some ⟨b, o, none⟩ ∧ b < B ∧ ∀ j, j < n → w.cell? ⟨b, o + j, none⟩ = some (f j)

theorem Sees.at_ {w : World} {B n : Nat} {A : Option Addr} {f : Nat → Value} (h : Sees w B A n f) {k : Nat} (hk : k < n) :
    ∃ b o, A = some ⟨b, o, none⟩ ∧ b < B ∧ w.cell? ⟨b, o + k, none⟩ = some (f k) := by
  obtain ⟨b, o, e, hb, hc⟩ := h (by omega)
  exact ⟨b, o, e, hb, hc k hk⟩
theorem Sees.below {w w' : World} {B n : Nat} {A : Option Addr} {f : Nat → Value} (h : Sees w B A n f) (hb : Below B w w') : Sees w' B A n f := by
  intro hn
  obtain ⟨b, o, e, hbB, hc⟩ := h hn
  exact ⟨b, o, e, hbB, fun j hj => (hb.cell (p := ⟨b, o + j, none⟩) hbB).trans (hc j hj)⟩
theorem Sees.more {w : World} {B B' n : Nat} {A : Option Addr} {f : Nat → Value} (h : Sees w B A n f) (hB : B ≤ B') : Sees w B' A n f := by
  intro hn
  obtain ⟨b, o, e, hbB, hc⟩ := h hn
  exact ⟨b, o, e, by omega, hc⟩
theorem Sees.congr {w : World} {B n : Nat} {A : Option Addr} {f g : Nat → Value} (h : Sees w B A n f) (e : ∀ j, j < n → f j = g j) : Sees w B A n g := by
  intro hn
  obtain ⟨b, o, ea, hbB, hc⟩ := h hn
  exact ⟨b, o, ea, hbB, fun j hj => by rw [hc j hj, e j hj]⟩
theorem Sees.nil {w : World} {B : Nat} {A : Option Addr} {f : Nat → Value} : Sees w B A 0 f := fun h => absurd h (by omega)
/-- A row of the call's own is seen, too. -/
theorem Sees.row {w : World} {g : Nat} {t : TypeId} {n m : Nat} {f : Nat → Value} (h : w.rowIs g t m f) (hn : n ≤ m) : Sees w w.heap.size (some ⟨g, 0, none⟩) n f := by
  intro _
  exact ⟨g, 0, rfl, h.lt, fun j hj => by rw [Nat.zero_add]; exact h.cell (by omega)⟩

/-- A literal is seen. -/
theorem Sees.lit (w : World) (cs : Array Value) (t : TypeId) (f : Nat → Value) (n : Nat) (hn : cs.size = n) (hc : ∀ j, j < n → cs[j]? = some (f j)) :
    Sees (w.alloc (.cells cs t)) (w.alloc (.cells cs t)).heap.size (some ⟨w.heap.size, 0, none⟩) n f := by
  subst hn
  exact Sees.row (World.rowIs_alloc w cs t f hc) (Nat.le_refl _)

theorem rowIs_below {w w' : World} {B g : Nat} {t : TypeId} {n : Nat} {f : Nat → Value} (h : w.rowIs g t n f) (hb : Below B w w') (hg : g < B) : w'.rowIs g t n f := h.of_block (hb.block g hg)
theorem below_cells {W w1 : World} {B : Nat} (hb : Below B W w1) : (∀ b o, b < B → w1.cell? ⟨b, o, none⟩ = W.cell? ⟨b, o, none⟩) ∧ (∀ b o, b < B → w1.frozen? ⟨b, o, none⟩ = W.frozen? ⟨b, o, none⟩) :=
  ⟨fun b o h => hb.cell (p := ⟨b, o, none⟩) h, fun b o h => hb.frozen (p := ⟨b, o, none⟩) h⟩

/-- Only the count of answers drawn has moved. -/
def Drawn (w w' : World) : Prop := ∃ q, w' = w.drewN q
theorem Drawn.refl (w : World) : Drawn w w := ⟨0, rfl⟩
theorem Drawn.drewN {w w' : World} (h : Drawn w w') (n : Nat) : Drawn w (w'.drewN n) := by
  obtain ⟨q, rfl⟩ := h
  exact ⟨q + n, World.drewN_drewN ..⟩
theorem Drawn.below {w w' : World} (h : Drawn w w') (B : Nat) : Below B w w' := by
  obtain ⟨q, rfl⟩ := h
  exact below_drewN (Below.refl _ _) q
theorem Drawn.size {w w' : World} (h : Drawn w w') : w'.heap.size = w.heap.size := by obtain ⟨q, rfl⟩ := h; rfl
theorem Drawn.cell {w w' : World} (h : Drawn w w') (a : Addr) : w'.cell? a = w.cell? a := by obtain ⟨q, rfl⟩ := h; rfl
theorem Sees.drawn {w w' : World} {B n : Nat} {A : Option Addr} {f : Nat → Value} (h : Sees w B A n f) (hd : Drawn w w') : Sees w' B A n f := by obtain ⟨q, rfl⟩ := hd; exact h
theorem rowIs_drewN' {w : World} {g : Nat} {t : TypeId} {n : Nat} {f : Nat → Value} (h : w.rowIs g t n f) (k : Nat) : (w.drewN k).rowIs g t n f := h

theorem run_store_complex' (P : Program) (w : World) (a : Addr) (m : Mode) (k : FloatKind) (x y : Nat) : (store a (.complex k x y) m).run P w = stored P w a (.complex k x y) m := run_store P w a _ m rfl

/-- Integers as values. -/
def i64s (l : Nat → Int) : Nat → Value := fun j => .int .i64 (l j)
theorem i64s_at (l : Nat → Int) (k : Nat) : i64s l k = .int .i64 (l k) := rfl

/-- A number that fits int64. -/
def Fits (x : Int) : Prop := -9223372036854775808 ≤ x ∧ x ≤ 9223372036854775807

/-- The sum of the first sizes. -/
def psum (l : Nat → Int) : Nat → Int
  | 0 => 0
  | k + 1 => psum l k + l k
theorem psum_succ (l : Nat → Int) (k : Nat) : psum l (k + 1) = psum l k + l k := rfl

/-- The error of the first k sizes: 0; 12: one is out of its range; 13: the sum is too great. -/
def chkTo (l : Nat → Int) : Nat → Int
  | 0 => 0
  | k + 1 => if chkTo l k = 0 then (if l k < 0 ∨ 2305843009213693952 < l k then 12 else if 4611686018427387904 - psum l k < l k then 13 else 0) else chkTo l k
/-- The error of n sizes. -/
def chk (l : Nat → Int) (n : Nat) : Int := if 4096 < n then 3 else chkTo l n

theorem chkTo_cases (l : Nat → Int) (k : Nat) : chkTo l k = 0 ∨ chkTo l k = 12 ∨ chkTo l k = 13 := by
  induction k with
  | zero => exact .inl rfl
  | succ k ih =>
    unfold chkTo
    split
    · split
      · exact .inr (.inl rfl)
      · split
        · exact .inr (.inr rfl)
        · exact .inl rfl
    · exact ih
theorem chkTo_stays (l : Nat → Int) {k : Nat} (h : chkTo l k ≠ 0) : ∀ {m}, k ≤ m → chkTo l m = chkTo l k := by
  intro m hm
  induction m with
  | zero => rw [show k = 0 from by omega]
  | succ m ih =>
    by_cases e : k = m + 1
    · rw [e]
    · have := ih (by omega)
      rw [← this] at h ⊢
      show (if chkTo l m = 0 then _ else chkTo l m) = _
      rw [if_neg h]
theorem chkTo_zero (l : Nat → Int) {k m : Nat} (h : chkTo l m = 0) (hk : k ≤ m) : chkTo l k = 0 := by
  rcases Decidable.em (chkTo l k = 0) with e | e
  · exact e
  · rw [chkTo_stays l e hk] at h; exact absurd h e
/-- What a valid size is. -/
theorem chkTo_step (l : Nat → Int) {k : Nat} (h : chkTo l (k + 1) = 0) : chkTo l k = 0 ∧ 0 ≤ l k ∧ l k ≤ 2305843009213693952 ∧ psum l k + l k ≤ 4611686018427387904 := by
  have h0 := chkTo_zero l h (Nat.le_succ k)
  unfold chkTo at h
  rw [if_pos h0] at h
  by_cases a : l k < 0 ∨ 2305843009213693952 < l k
  · rw [if_pos a] at h; exact absurd h (by decide)
  · rw [if_neg a] at h
    by_cases b : 4611686018427387904 - psum l k < l k
    · rw [if_pos b] at h; exact absurd h (by decide)
    · exact ⟨h0, by omega, by omega, by omega⟩
theorem psum_bd (l : Nat → Int) {k : Nat} (h : chkTo l k = 0) : 0 ≤ psum l k ∧ psum l k ≤ 4611686018427387904 := by
  induction k with
  | zero => exact ⟨Int.le_refl _, by show (0 : Int) ≤ _; omega⟩
  | succ k ih =>
    obtain ⟨h0, h1, h2, h3⟩ := chkTo_step l h
    have := ih h0
    rw [psum_succ]
    omega
theorem chkTo_12 (l : Nat → Int) {k : Nat} (h : chkTo l k = 0) (hb : l k < 0 ∨ 2305843009213693952 < l k) : chkTo l (k + 1) = 12 := by
  unfold chkTo; rw [if_pos h, if_pos hb]
theorem chkTo_13 (l : Nat → Int) {k : Nat} (h : chkTo l k = 0) (h1 : 0 ≤ l k) (h2 : l k ≤ 2305843009213693952) (hb : 4611686018427387904 - psum l k < l k) : chkTo l (k + 1) = 13 := by
  unfold chkTo; rw [if_pos h, if_neg (by omega), if_pos hb]
theorem chkTo_0 (l : Nat → Int) {k : Nat} (h : chkTo l k = 0) (h1 : 0 ≤ l k) (h2 : l k ≤ 2305843009213693952) (hb : l k ≤ 4611686018427387904 - psum l k) : chkTo l (k + 1) = 0 := by
  unfold chkTo; rw [if_pos h, if_neg (by omega), if_neg (by omega)]
theorem psum_mono (l : Nat → Int) {k m : Nat} (h : chkTo l m = 0) (hk : k ≤ m) : psum l k ≤ psum l m := by
  induction m with
  | zero => rw [show k = 0 from by omega]; exact Int.le_refl _
  | succ m ih =>
    by_cases e : k = m + 1
    · rw [e]; exact Int.le_refl _
    · obtain ⟨h0, h1, _, _⟩ := chkTo_step l h
      have := ih h0 (by omega)
      rw [psum_succ]; omega
theorem psum_congr {l l' : Nat → Int} {n : Nat} (h : ∀ j, j < n → l j = l' j) : psum l n = psum l' n := by
  induction n with
  | zero => rfl
  | succ n ih => rw [psum_succ, psum_succ, ih (fun j hj => h j (by omega)), h n (by omega)]
theorem chkTo_congr {l l' : Nat → Int} {n : Nat} (h : ∀ j, j < n → l j = l' j) : chkTo l n = chkTo l' n := by
  induction n with
  | zero => rfl
  | succ n ih =>
    have e1 := ih (fun j hj => h j (by omega))
    have e2 := psum_congr (n := n) (fun j hj => h j (by omega))
    unfold chkTo
    rw [e1, e2, h n (by omega)]
end Go.Proofs.YteodkmndghaidaaDoor

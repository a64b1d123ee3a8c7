/-
  The built-in append on slices of the call's own: elements of any size, the content a function of the cell's index. Over any program.
-/
import Derived.Test.YteodkmndghaidaaDoorMem
import Derived.Test.YteodkmndghaidaaDoorCp
import Derived.Deep.Upon
namespace Go.Proofs.YteodkmndghaidaaDoor
open Go.RowKit
set_option linter.unusedVariables false

/-- A slice of the call's own: n elements of sz cells each, its blocks from B on, its cells F. -/
def Own (w : World) (B : Nat) (e : TypeId) (sz n c : Nat) (A : Option Addr) (F : Nat → Value) : Prop :=
  (A = none ∧ n = 0 ∧ c = 0) ∨ (n ≤ c ∧ ∃ g F', A = some ⟨g, 0, none⟩ ∧ B ≤ g ∧ w.rowIs g e (c * sz) F' ∧ ∀ j, j < n * sz → F' j = F j)

theorem Own.nil (w : World) (B : Nat) (e : TypeId) (sz : Nat) (F : Nat → Value) : Own w B e sz 0 0 none F := .inl ⟨rfl, rfl, rfl⟩
theorem Own.le {w : World} {B : Nat} {e : TypeId} {sz n c : Nat} {A : Option Addr} {F : Nat → Value} (h : Own w B e sz n c A F) : n ≤ c := by
  rcases h with ⟨_, rfl, rfl⟩ | ⟨h, _⟩
  · exact Nat.le_refl _
  · exact h
theorem Own.keep {w w' : World} {B : Nat} {e : TypeId} {sz n c : Nat} {A : Option Addr} {F : Nat → Value} (h : Own w B e sz n c A F) (k : ∀ b, B ≤ b → b < w.heap.size → w'.heap[b]? = w.heap[b]?) : Own w' B e sz n c A F := by
  rcases h with h | ⟨h, g, F', hA, hg, hr, hF⟩
  · exact .inl h
  · exact .inr ⟨h, g, F', hA, hg, hr.of_block (k g hg hr.lt), hF⟩
theorem Own.below {w w' : World} {B : Nat} {e : TypeId} {sz n c : Nat} {A : Option Addr} {F : Nat → Value} (h : Own w B e sz n c A F) (k : Below w.heap.size w w') : Own w' B e sz n c A F := h.keep fun b _ hb => k.block b hb
theorem Own.less {w : World} {B B' : Nat} {e : TypeId} {sz n c : Nat} {A : Option Addr} {F : Nat → Value} (h : Own w B e sz n c A F) (k : B' ≤ B) : Own w B' e sz n c A F := by
  rcases h with h | ⟨h, g, F', hA, hg, hr, hF⟩
  · exact .inl h
  · exact .inr ⟨h, g, F', hA, by omega, hr, hF⟩
theorem Own.congr {w : World} {B : Nat} {e : TypeId} {sz n c : Nat} {A : Option Addr} {F G : Nat → Value} (h : Own w B e sz n c A F) (k : ∀ j, j < n * sz → F j = G j) : Own w B e sz n c A G := by
  rcases h with h | ⟨h, g, F', hA, hg, hr, hF⟩
  · exact .inl h
  · exact .inr ⟨h, g, F', hA, hg, hr, fun j hj => (hF j hj).trans (k j hj)⟩
/-- It is seen. -/
theorem Own.sees {w : World} {B : Nat} {e : TypeId} {sz n c : Nat} {A : Option Addr} {F : Nat → Value} (h : Own w B e sz n c A F) : Sees w w.heap.size A (n * sz) F := by
  intro hn
  rcases h with ⟨_, rfl, _⟩ | ⟨h, g, F', hA, hg, hr, hF⟩
  · omega
  · exact ⟨g, 0, hA, hr.lt, fun j hj => by rw [Nat.zero_add, hr.cell (Nat.lt_of_lt_of_le hj (Nat.mul_le_mul_right _ h)), hF j hj]⟩
/-- Where it lies, if it has an element. -/
theorem Own.at_ {w : World} {B : Nat} {e : TypeId} {sz n c : Nat} {A : Option Addr} {F : Nat → Value} (h : Own w B e sz n c A F) (hn : 0 < n) :
    ∃ g, A = some ⟨g, 0, none⟩ ∧ B ≤ g ∧ g < w.heap.size ∧ (∀ j, j < n * sz → w.cell? ⟨g, j, none⟩ = some (F j)) ∧ ∀ j, w.frozen? ⟨g, j, none⟩ = false := by
  rcases h with ⟨_, rfl, _⟩ | ⟨h, g, F', hA, hg, hr, hF⟩
  · omega
  · exact ⟨g, hA, hg, hr.lt, fun j hj => by rw [hr.cell (Nat.lt_of_lt_of_le hj (Nat.mul_le_mul_right _ h)), hF j hj], fun j => hr.frozen j⟩
/-- A literal of no elements. -/
theorem Own.lit0 (w : World) (e : TypeId) (sz : Nat) (F : Nat → Value) : Own (w.alloc (.cells #[] e)) w.heap.size e sz 0 0 (some ⟨w.heap.size, 0, none⟩) F :=
  .inr ⟨Nat.le_refl _, _, F, rfl, Nat.le_refl _, by rw [Nat.zero_mul]; exact World.rowIs_alloc w #[] e F (fun i hi => absurd hi (by simp)), fun j hj => by omega⟩
/-- A row. -/
theorem Own.row {w : World} {B g : Nat} {e : TypeId} {sz n m : Nat} {F : Nat → Value} (h : w.rowIs g e m F) (hm : m = n * sz) (hg : B ≤ g) : Own w B e sz n n (some ⟨g, 0, none⟩) F := by
  subst hm; exact .inr ⟨Nat.le_refl _, g, F, rfl, hg, h, fun _ _ => rfl⟩
/-- A store into it. -/
theorem Own.set {w : World} {B : Nat} {e : TypeId} {sz n c g : Nat} {F : Nat → Value} (h : Own w B e sz n c (some ⟨g, 0, none⟩) F) (i : Nat) (v : Value) :
    Own (w.setCell ⟨g, i, none⟩ v) B e sz n c (some ⟨g, 0, none⟩) fun j => if j = i then v else F j := by
  rcases h with ⟨h, _⟩ | ⟨h, g', F', hA, hg, hr, hF⟩
  · cases h
  · injection hA with hA; injection hA with hA
    subst hA
    refine .inr ⟨h, g, _, rfl, hg, hr.set i v, fun j hj => ?_⟩
    by_cases c : j = i
    · show (if j = i then v else F' j) = if j = i then v else F j; rw [if_pos c, if_pos c]
    · show (if j = i then v else F' j) = if j = i then v else F j; rw [if_neg c, if_neg c]; exact hF j hj

theorem rowIs_setCells {g : Nat} {t : TypeId} {m : Nat} : ∀ (vs : List Value) (o : Nat) (w : World) (f : Nat → Value), w.rowIs g t m f →
    (w.setCells g o vs).rowIs g t m (fun j => if o ≤ j then (vs[j - o]?).getD (f j) else f j)
  | [], o, w, f, h => h.congr fun j _ => by simp
  | v :: r, o, w, f, h => by
    show ((w.setCell ⟨g, o, none⟩ v).setCells g (o + 1) r).rowIs _ _ _ _
    refine (rowIs_setCells r (o + 1) _ _ (h.set o v)).congr fun j _ => ?_
    show (if o + 1 ≤ j then (r[j - (o + 1)]?).getD (if j = o then v else f j) else (if j = o then v else f j)) = if o ≤ j then ((v :: r)[j - o]?).getD (f j) else f j
    by_cases c : j = o
    · subst c; simp only [if_pos, if_neg (show ¬ j + 1 ≤ j from by omega), Nat.le_refl, Nat.sub_self]; rfl
    · rw [if_neg c]
      by_cases d : o + 1 ≤ j
      · rw [if_pos d, if_pos (show o ≤ j from by omega), show j - o = (j - (o + 1)) + 1 from by omega, List.getElem?_cons_succ]
      · rw [if_neg d, if_neg (show ¬ o ≤ j from by omega)]
theorem below_setCells (w : World) (B g o : Nat) (vs : List Value) (hg : B ≤ g) (hs : B ≤ w.heap.size) : Below B w (w.setCells g o vs) := by
  induction vs generalizing o w with
  | nil => exact Below.refl _ _
  | cons v r ih =>
    refine Below.trans ?_ (ih (w.setCell ⟨g, o, none⟩ v) (o + 1) (by simpa [World.setCell] using hs))
    exact ⟨rfl, rfl, rfl, by simp [World.setCell], fun b hb => Below.heap_setCell w ⟨g, o, none⟩ v b (by show b ≠ g; omega)⟩

theorem add_none' (g o j : Nat) : (⟨g, o, none⟩ : Addr).add j = ⟨g, o + j, none⟩ := add_none g o j

section
variable {P : Program}
/-- A slice that is seen, as the source of an append. -/
theorem src_of (w : World) {sz : Nat} {tx e' : TypeId} (hk : P.underlying tx = some (.slice e')) (A : Option Addr) (k c B : Nat) (f : Nat → Value) (hs : Sees w B A (k * sz) f) (h1 : ∀ j, (f j).oneCell' = true) (hz : 0 < sz) :
    Src P sz tx (.slice A k c) k ((List.range (k * sz)).map f) w := by
  by_cases k0 : k = 0
  · subst k0
    rw [Nat.zero_mul]
    rcases A with _ | a
    · exact Src.ofNil w hk c
    · exact Src.ofSlice w hk a 0 c [] (by simp) (fun j u h => by simp at h) (fun u h => by cases h)
  · obtain ⟨b, o, rfl, _, hc⟩ := hs (Nat.mul_pos (by omega) hz)
    refine Src.ofSlice w hk ⟨b, o, none⟩ k c _ (by simp) (fun j u h => ?_) (fun u h => ?_)
    · have hj : j < k * sz := by
        rcases Nat.lt_or_ge j (k * sz) with h' | h'
        · exact h'
        · rw [List.getElem?_eq_none (by simpa using h')] at h; cases h
      rw [List.getElem?_map, List.getElem?_range hj] at h
      simp only [Option.map_some, Option.some.injEq] at h
      subst h
      rw [add_none]
      exact hc j hj
    · obtain ⟨j, _, rfl⟩ := List.mem_map.1 h
      exact h1 j

/-- append(own, src...). -/
theorem own_append (w : World) (B : Nat) {t tx e e' : TypeId} {i : TypeInfo} {z : Value} {sz by_ : Nat} (ht : P.underlying t = some (.slice e)) (hi : P.info? e = some i) (hz : i.zero = some z) (hsz : i.size = sz) (hby : i.bytes = by_) (hzs : z.cells.size = sz) (h0 : 0 < sz)
    (hk : P.underlying tx = some (.slice e')) {n c : Nat} {A : Option Addr} {F : Nat → Value} (h : Own w B e sz n c A F) (hB : B ≤ w.heap.size)
    {A2 : Option Addr} {k c2 B2 : Nat} {f : Nat → Value} (hs : Sees w B2 A2 (k * sz) f) (h1 : ∀ j, (f j).oneCell' = true) (hm : n + k ≤ 1000000000) (hbb : by_ ≤ 1024) :
    ∃ A' c' w', (∀ ty, (Builtin.append_ #[t, tx] ty #[.slice A n c, .slice A2 k c2]).run P w = .ok (.slice A' (n + k) c') w') ∧ Own w' B e sz (n + k) c' A' (fun j => if j < n * sz then F j else f (j - n * sz)) ∧ Below B w w' ∧ (c ≤ maxLen → c' ≤ maxLen) := by
  subst hsz hby
  have hsrc := src_of w hk A2 k c2 B2 f hs h1 h0
  have hl : ((List.range (k * i.size)).map f).length = k * i.size := by simp
  by_cases k0 : k = 0
  · subst k0
    refine ⟨A, c, w, fun ty => ?_, h.congr (fun j hj => (if_pos hj).symm), Below.refl _ _, fun h => h⟩
    refine run_append_nothing w t tx ty e i ht hi A n c h.le _ ?_
    simpa using hsrc
  by_cases hroom : n + k ≤ c
  · rcases h with ⟨rfl, rfl, rfl⟩ | ⟨hn, g, F', rfl, hg, hr, hF⟩
    · omega
    have hle : (n + k) * i.size ≤ c * i.size := Nat.mul_le_mul_right _ hroom
    rw [Nat.add_mul] at hle
    refine ⟨_, c, _, fun ty => run_append_room_src w t tx ty e i ht hi g 0 n c _ k _ hsrc hroom (fun j hj => ?_) (fun j hj => hr.frozen _), .inr ⟨hroom, g, _, rfl, hg, rowIs_setCells _ _ _ _ hr, fun j hj => ?_⟩, below_setCells _ _ _ _ _ hg hB, fun h => h⟩
    · rw [hl] at hj
      rw [hr.cell (by omega)]; rfl
    · rw [Nat.zero_add]
      rw [Nat.add_mul] at hj
      show (if n * i.size ≤ j then (((List.range (k * i.size)).map f)[j - n * i.size]?).getD (F' j) else F' j) = if j < n * i.size then F j else f (j - n * i.size)
      by_cases d : j < n * i.size
      · rw [if_neg (by omega), if_pos d]; exact hF j d
      · rw [if_pos (by omega), if_neg d, List.getElem?_map, List.getElem?_range (by omega)]; rfl
  · have hold : (Builtin.firstCells i.size n (.slice A n c)).run P w.drew = .ok ((List.range (n * i.size)).map F).toArray w.drew := by
      rcases h with ⟨rfl, rfl, rfl⟩ | ⟨hn, g, F', rfl, hg, hr, hF⟩
      · rw [run_firstCells_none]; simp
      · refine run_firstCells_some w.drew i.size n ⟨g, 0, none⟩ n c _ (by simp) fun j u hu => ?_
        have hj : j < n * i.size := by
          rcases Nat.lt_or_ge j (n * i.size) with h' | h'
          · exact h'
          · rw [List.getElem?_eq_none (by simpa using h')] at hu; cases hu
        rw [List.getElem?_map, List.getElem?_range hj] at hu
        simp only [Option.map_some, Option.some.injEq] at hu
        subst hu
        rw [add_none, Nat.zero_add]
        exact (hr.cell (Nat.lt_of_lt_of_le hj (Nat.mul_le_mul_right _ hn))).trans (by rw [hF j hj])
    have hle : (n + k) * i.bytes ≤ 1000000000 * 1024 := Nat.mul_le_mul hm hbb
    have hrun := fun ty => run_append_grow_src (P := P) w t tx ty e i z ht hi hz A n c _ hold _ k _ hsrc (by omega) (by omega) (growslice_fits (by omega) (by omega))
    have hge := grownCap_ge w (n + k) c e
    have hcm := grownCap_le_maxLen w (n + k) c e (by simp only [maxLen]; omega)
    refine ⟨_, _, _, hrun, .inr ⟨hge, w.heap.size, fun j => ((((List.range (n * i.size)).map F ++ (List.range (k * i.size)).map f).toArray ++ Builtin.zeroCells z.cells (grownCap w (n + k) c e - (n + k)))[j]?).getD (.bool false), rfl, hB, ?_, fun j hj => ?_⟩, ?_, fun _ => hcm⟩
    · have hrow := World.rowIs_alloc w.drew (((List.range (n * i.size)).map F ++ (List.range (k * i.size)).map f).toArray ++ Builtin.zeroCells z.cells (grownCap w (n + k) c e - (n + k))) e
        (fun j => ((((List.range (n * i.size)).map F ++ (List.range (k * i.size)).map f).toArray ++ Builtin.zeroCells z.cells (grownCap w (n + k) c e - (n + k)))[j]?).getD (.bool false)) (fun j hj => by
          rw [Array.getElem?_eq_getElem hj]; rfl)
      have hsize : (((List.range (n * i.size)).map F ++ (List.range (k * i.size)).map f).toArray ++ Builtin.zeroCells z.cells (grownCap w (n + k) c e - (n + k))).size = grownCap w (n + k) c e * i.size := by
        rw [Array.size_append, List.size_toArray, List.length_append, size_zeroCells, hzs]
        simp only [List.length_map, List.length_range]
        rw [← Nat.add_mul, ← Nat.add_mul]
        congr 1
        omega
      rw [hsize] at hrow
      exact hrow
    · show ((_ ++ _ : Array Value)[j]?).getD _ = _
      rw [Nat.add_mul] at hj
      rw [Array.getElem?_append_left (by simp; omega), List.getElem?_toArray]
      show _ = if j < n * i.size then F j else f (j - n * i.size)
      by_cases d : j < n * i.size
      · rw [if_pos d, List.getElem?_append_left (by simpa using d), List.getElem?_map, List.getElem?_range d]; rfl
      · rw [if_neg d, List.getElem?_append_right (by simp; omega), List.getElem?_map, List.getElem?_range (by simp; omega)]
        simp
    · exact ((Below.refl _ w).drew).trans ((Below.refl B w.drew).alloc hB _)
theorem own_append' (w : World) (B : Nat) {t tx e e' : TypeId} {z : Value} {sz by_ : Nat} (ht : P.underlying t = some (.slice e)) (hi : (P.info? e).map (fun i => (i.zero, i.size, i.bytes)) = some (some z, sz, by_)) (hzs : z.cells.size = sz) (h0 : 0 < sz)
    (hk : P.underlying tx = some (.slice e')) {n c : Nat} {A : Option Addr} {F : Nat → Value} (h : Own w B e sz n c A F) (hB : B ≤ w.heap.size)
    {A2 : Option Addr} {k c2 B2 : Nat} {f : Nat → Value} (hs : Sees w B2 A2 (k * sz) f) (h1 : ∀ j, (f j).oneCell' = true) (hm : n + k ≤ 1000000000) (hbb : by_ ≤ 1024) :
    ∃ A' c' w', (∀ ty, (Builtin.append_ #[t, tx] ty #[.slice A n c, .slice A2 k c2]).run P w = .ok (.slice A' (n + k) c') w') ∧ Own w' B e sz (n + k) c' A' (fun j => if j < n * sz then F j else f (j - n * sz)) ∧ Below B w w' ∧ (c ≤ maxLen → c' ≤ maxLen) := by
  obtain ⟨i, hi', he⟩ := Option.map_eq_some_iff.1 hi
  injection he with e1 e2
  injection e2 with e2 e3
  exact own_append w B ht hi' e1 e2 e3 hzs h0 hk h hB hs h1 hm hbb
end
end Go.Proofs.YteodkmndghaidaaDoor

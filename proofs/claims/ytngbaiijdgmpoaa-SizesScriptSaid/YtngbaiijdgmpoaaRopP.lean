/-
  Ropes, plain: trees whose subtrees differ in height by at most 1; lists of sizes. No Go text.
-/
import Derived.Test.YtngbaiijdgmpoaaMem
namespace Go.Proofs.Ytngbaiijdgmpoaa

inductive T where
  | nil
  | node (l : T) (s : Int) (r : T)
namespace T
/-- The sizes. -/
def l : T → List Int
  | nil => []
  | node a s b => a.l ++ s :: b.l
def ht : T → Nat
  | nil => 0
  | node a _ b => max a.ht b.ht + 1
def Bal : T → Prop
  | nil => True
  | node a _ b => a.Bal ∧ b.Bal ∧ a.ht ≤ b.ht + 1 ∧ b.ht ≤ a.ht + 1
theorem l_nil : (nil).l = [] := rfl
theorem l_node (a b : T) (s : Int) : (node a s b).l = a.l ++ s :: b.l := rfl
theorem ht_node (a b : T) (s : Int) : (node a s b).ht = max a.ht b.ht + 1 := rfl
theorem ht_pos {t : T} (h : 0 < t.ht) : ∃ a s b, t = node a s b := by
  cases t with
  | nil => exact absurd h (by decide)
  | node a s b => exact ⟨a, s, b, rfl⟩
theorem l_pos {t : T} (h : 0 < t.l.length) : ∃ a s b, t = node a s b := by
  cases t with
  | nil => exact absurd h (by decide)
  | node a s b => exact ⟨a, s, b, rfl⟩
theorem l_empty {t : T} (h : t.l = []) : t = nil := by
  cases t with
  | nil => rfl
  | node a s b => rw [l_node] at h; simp at h
theorem ht_le (t : T) : t.ht ≤ t.l.length := by
  induction t with
  | nil => exact Nat.le_refl _
  | node a s b iha ihb => rw [ht_node, l_node]; simp; omega
theorem len_lt (t : T) : t.l.length < 2 ^ t.ht := by
  induction t with
  | nil => decide
  | node a s b iha ihb =>
    rw [ht_node, l_node, Nat.pow_succ]
    have h1 : 2 ^ a.ht ≤ 2 ^ (max a.ht b.ht) := Nat.pow_le_pow_right (by decide) (Nat.le_max_left _ _)
    have h2 : 2 ^ b.ht ≤ 2 ^ (max a.ht b.ht) := Nat.pow_le_pow_right (by decide) (Nat.le_max_right _ _)
    simp; omega
end T

/-- How many sizes a tree of a height has at least. -/
def FF : Nat → Nat
  | 0 => 0
  | 1 => 1
  | d + 2 => FF d + FF (d + 1) + 1
theorem FF_step (d : Nat) : FF (d + 2) = FF d + FF (d + 1) + 1 := rfl
theorem FF_le (d : Nat) : FF d ≤ FF (d + 1) := by
  cases d with
  | zero => decide
  | succ d => rw [FF_step]; omega
theorem FF_mono {a b : Nat} (h : a ≤ b) : FF a ≤ FF b := by
  induction b with
  | zero => rw [show a = 0 from by omega]; exact Nat.le_refl _
  | succ b ih =>
    by_cases e : a = b + 1
    · rw [e]; exact Nat.le_refl _
    · exact Nat.le_trans (ih (by omega)) (FF_le b)
theorem T.FF_ht {t : T} (h : t.Bal) : FF t.ht ≤ t.l.length := by
  induction t with
  | nil => exact Nat.le_refl _
  | node a s b iha ihb =>
    obtain ⟨h1, h2, h3, h4⟩ := h
    have ia := iha h1
    have ib := ihb h2
    rw [T.ht_node, T.l_node]
    rcases Nat.lt_trichotomy a.ht b.ht with c | c | c
    · rw [Nat.max_eq_right (by omega), show b.ht = a.ht + 1 from by omega, FF_step, ← show b.ht = a.ht + 1 from by omega]; simp; omega
    · rw [c, Nat.max_self]
      rw [c] at ia
      cases hb : b.ht with
      | zero => simp [FF]; omega
      | succ d =>
        rw [FF_step]
        rw [hb] at ia ib
        have := FF_le d
        simp; omega
    · rw [Nat.max_eq_left (by omega), show a.ht = b.ht + 1 from by omega, FF_step, ← show a.ht = b.ht + 1 from by omega]; simp; omega
/-- Trees of at most 4096 sizes are not too deep. -/
theorem T.ht_bd {t : T} (h : t.Bal) (hn : t.l.length ≤ 4096) : t.ht ≤ 16 := by
  have := T.FF_ht h
  rcases Nat.lt_or_ge 16 t.ht with c | c
  · have h2 := FF_mono (show 17 ≤ t.ht from c)
    have : FF 17 = 4180 := by decide
    omega
  · exact c

/-! ### Lists of sizes -/
theorem sum_nn {L : List Int} (h : ∀ x ∈ L, 0 ≤ x) : 0 ≤ L.sum := by
  induction L with
  | nil => exact Int.le_refl _
  | cons x L ih =>
    rw [List.sum_cons]
    have := ih (fun y hy => h y (by simp [hy]))
    have := h x (by simp)
    omega
/-- Sizes that a rope may have. -/
structure LOk (L : List Int) : Prop where
  nn : ∀ x ∈ L, 0 ≤ x
  len : L.length ≤ 8192
  top : L.sum ≤ 4611686018427387904
theorem LOk.sum0 {L : List Int} (h : LOk L) : 0 ≤ L.sum := sum_nn h.nn
theorem LOk.left {A B : List Int} (h : LOk (A ++ B)) : LOk A := by
  obtain ⟨h1, h2, h3⟩ := h
  have hb : 0 ≤ B.sum := sum_nn fun x hx => h1 x (by simp [hx])
  rw [List.sum_append] at h3
  rw [List.length_append] at h2
  exact ⟨fun x hx => h1 x (by simp [hx]), by omega, by omega⟩
theorem LOk.right {A B : List Int} (h : LOk (A ++ B)) : LOk B := by
  obtain ⟨h1, h2, h3⟩ := h
  have hb : 0 ≤ A.sum := sum_nn fun x hx => h1 x (by simp [hx])
  rw [List.sum_append] at h3
  rw [List.length_append] at h2
  exact ⟨fun x hx => h1 x (by simp [hx]), by omega, by omega⟩
theorem LOk.tail {x : Int} {B : List Int} (h : LOk (x :: B)) : LOk B := LOk.right (A := [x]) h
theorem LOk.head {x : Int} {B : List Int} (h : LOk (x :: B)) : 0 ≤ x ∧ x ≤ 4611686018427387904 := by
  have h1 := h.nn x (by simp)
  have h2 := h.tail.sum0
  have h3 := h.top
  rw [List.sum_cons] at h3
  omega
theorem LOk.nil : LOk [] := ⟨fun x h => (by cases h), by decide, by decide⟩
theorem LOk.take {L : List Int} (h : LOk L) (k : Nat) : LOk (L.take k) := LOk.left (B := L.drop k) (by rw [List.take_append_drop]; exact h)
theorem LOk.drop {L : List Int} (h : LOk L) (k : Nat) : LOk (L.drop k) := LOk.right (A := L.take k) (by rw [List.take_append_drop]; exact h)

/-- A list as a function. -/
def lf (L : List Int) : Nat → Int := fun j => L.getD j 0
theorem psum_lf (L : List Int) (k : Nat) (hk : k ≤ L.length) : psum (lf L) k = (L.take k).sum := by
  induction k with
  | zero => rfl
  | succ k ih =>
    rw [psum_succ, ih (by omega), List.take_succ_eq_append_getElem (by omega), List.sum_append]
    simp [lf, List.getD_eq_getElem?_getD]
    rw [List.getElem?_eq_getElem (by omega)]; rfl
theorem psum_lf_all (L : List Int) : psum (lf L) L.length = L.sum := by rw [psum_lf L _ (Nat.le_refl _), List.take_length]
theorem lf_mem (L : List Int) {j : Nat} (h : j < L.length) : lf L j ∈ L := by
  simp [lf, List.getD_eq_getElem?_getD, List.getElem?_eq_getElem h]
theorem lf_get (L : List Int) {j : Nat} (h : j < L.length) : lf L j = L[j] := by
  simp [lf, List.getD_eq_getElem?_getD, List.getElem?_eq_getElem h]
theorem lf_fits {L : List Int} (h : ∀ x ∈ L, Fits x) (j : Nat) : Fits (lf L j) := by
  by_cases c : j < L.length
  · exact h _ (lf_mem L c)
  · unfold lf; rw [List.getD_eq_getElem?_getD, List.getElem?_eq_none (by omega)]; exact ⟨by decide, by decide⟩
/-- The sizes of a valid list. -/
theorem chk_lf {L : List Int} (h : chkTo (lf L) L.length = 0) (hn : L.length ≤ 4096) : LOk L ∧ ∀ x ∈ L, x ≤ 2305843009213693952 := by
  have hs : ∀ x ∈ L, 0 ≤ x ∧ x ≤ 2305843009213693952 := fun x hx => by
    obtain ⟨j, hj, rfl⟩ := List.mem_iff_getElem.1 hx
    have := chkTo_step (lf L) (chkTo_zero (lf L) h (show j + 1 ≤ L.length from hj))
    rw [lf_get L hj] at this
    exact ⟨this.2.1, this.2.2.1⟩
  refine ⟨⟨fun x hx => (hs x hx).1, by omega, ?_⟩, fun x hx => (hs x hx).2⟩
  have := (psum_bd (lf L) h).2
  rwa [psum_lf_all] at this
theorem chk_of_ok {L : List Int} (h : LOk L) (hb : ∀ x ∈ L, x ≤ 2305843009213693952) : ∀ k, k ≤ L.length → chkTo (lf L) k = 0 := by
  intro k
  induction k with
  | zero => intro _; rfl
  | succ k ih =>
    intro hk
    have hm := lf_mem L (show k < L.length from hk)
    have h1 := psum_lf L (k + 1) hk
    have h2 := (h.take (k + 1)).top
    rw [← h1, psum_succ] at h2
    exact chkTo_0 _ (ih (by omega)) (h.nn _ hm) (hb _ hm) (by omega)
/-- A function's first values as a list. -/
def toL (l : Nat → Int) (n : Nat) : List Int := (List.range n).map l
theorem toL_length (l : Nat → Int) (n : Nat) : (toL l n).length = n := by simp [toL]
theorem lf_toL (l : Nat → Int) (n j : Nat) (h : j < n) : lf (toL l n) j = l j := by
  simp [lf, toL, List.getD_eq_getElem?_getD, h]
end Go.Proofs.Ytngbaiijdgmpoaa

/-
  Fenwick trees, plain: the last bit of a number, its successors; sums. No Go text.
-/
import Derived.Test.YteodkmndghaidaaDoorMem
namespace Go.Proofs.YteodkmndghaidaaDoor

/-- k without its last bit. -/
def clr (k : Nat) : Nat := k &&& (k - 1)
/-- The next number whose range holds that of k. -/
def up (k : Nat) : Nat := k + (k - clr k)

theorem clr_odd (q : Nat) : clr (2 * q + 1) = 2 * q := by
  unfold clr
  rw [show 2 * q + 1 - 1 = 2 * q from by omega]
  have h1 := Nat.and_div_two (a := 2 * q + 1) (b := 2 * q)
  have h2 := Nat.and_mod_two_pow (a := 2 * q + 1) (b := 2 * q) (n := 1)
  rw [show (2 * q + 1) / 2 = q from by omega, show 2 * q / 2 = q from by omega, Nat.and_self] at h1
  rw [show (2 * q + 1) % 2 ^ 1 = 1 from by omega, show 2 * q % 2 ^ 1 = 0 from by omega] at h2
  simp at h2
  omega
theorem clr_even (q : Nat) (hq : 0 < q) : clr (2 * q) = 2 * clr q := by
  unfold clr
  have h1 := Nat.and_div_two (a := 2 * q) (b := 2 * q - 1)
  have h2 := Nat.and_mod_two_pow (a := 2 * q) (b := 2 * q - 1) (n := 1)
  rw [show 2 * q / 2 = q from by omega, show (2 * q - 1) / 2 = q - 1 from by omega] at h1
  rw [show 2 * q % 2 ^ 1 = 0 from by omega] at h2
  simp at h2
  omega
theorem parity (k : Nat) : (∃ q, k = 2 * q + 1) ∨ ∃ q, k = 2 * q := by
  rcases Nat.mod_two_eq_zero_or_one k with h | h
  · exact .inr ⟨k / 2, by omega⟩
  · exact .inl ⟨k / 2, by omega⟩
theorem clr_lt (k : Nat) (h : 0 < k) : clr k < k := by
  have : clr k ≤ k - 1 := Nat.and_le_right
  omega
theorem up_odd (q : Nat) : up (2 * q + 1) = 2 * (q + 1) := by unfold up; rw [clr_odd]; omega
theorem up_even (q : Nat) (h : 0 < q) : up (2 * q) = 2 * up q := by unfold up; rw [clr_even q h]; omega
theorem up_gt (k : Nat) (h : 0 < k) : k < up k := by have := clr_lt k h; unfold up; omega
theorem up_le (k : Nat) : up k ≤ 2 * k := by unfold up; omega
theorem clr_up (k : Nat) (h : 0 < k) : clr (up k) ≤ clr k := by
  induction k using Nat.strongRecOn with
  | ind k ih =>
    rcases parity k with ⟨q, rfl⟩ | ⟨q, rfl⟩
    · rw [up_odd, clr_even _ (by omega), clr_odd]
      have := clr_lt (q + 1) (by omega)
      omega
    · have hq : 0 < q := by omega
      rw [up_even q hq, clr_even _ (by have := up_gt q hq; omega), clr_even q hq]
      have := ih q (by omega) hq
      omega
/-- Between k and its successor. -/
theorem clr_mid (k : Nat) (h : 0 < k) : ∀ m, k < m → m < up k → k ≤ clr m := by
  induction k using Nat.strongRecOn with
  | ind k ih =>
    intro m h1 h2
    rcases parity k with ⟨q, rfl⟩ | ⟨q, rfl⟩
    · rw [up_odd] at h2; omega
    · have hq : 0 < q := by omega
      rw [up_even q hq] at h2
      rcases parity m with ⟨p, rfl⟩ | ⟨p, rfl⟩
      · rw [clr_odd]; omega
      · rw [clr_even p (by omega)]
        have := ih q (by omega) hq p (by omega) (by omega)
        omega
theorem clr_step (t : Nat) : ∀ a, clr (a * 2 ^ (t + 1) + 2 ^ t) = a * 2 ^ (t + 1) := by
  induction t with
  | zero => intro a; rw [show a * 2 ^ (0 + 1) + 2 ^ 0 = 2 * a + 1 from by omega, clr_odd]; omega
  | succ t ih =>
    intro a
    have hp := Nat.two_pow_pos t
    have e : a * 2 ^ (t + 1 + 1) + 2 ^ (t + 1) = 2 * (a * 2 ^ (t + 1) + 2 ^ t) := by rw [Nat.pow_succ 2 (t + 1), Nat.pow_succ 2 t, Nat.mul_add, ← Nat.mul_assoc a, Nat.mul_comm _ 2, Nat.mul_comm (2 ^ t) 2]
    rw [e, clr_even _ (by omega), ih, Nat.pow_succ 2 (t + 1), ← Nat.mul_assoc a, Nat.mul_comm _ 2]
/-- The last bit, by the two's complement. -/
theorem and_neg (t : Nat) : ∀ k, 0 < k → k < 2 ^ t → k &&& (2 ^ t - k) = k - clr k := by
  induction t with
  | zero => intro k h1 h2; omega
  | succ t ih =>
    intro k h1 h2
    rw [Nat.pow_succ] at h2 ⊢
    have h3 := Nat.and_div_two (a := k) (b := 2 ^ t * 2 - k)
    have h4 := Nat.and_mod_two_pow (a := k) (b := 2 ^ t * 2 - k) (n := 1)
    rcases parity k with ⟨q, rfl⟩ | ⟨q, rfl⟩
    · rw [clr_odd]
      rw [show (2 * q + 1) / 2 = q from by omega, show (2 ^ t * 2 - (2 * q + 1)) / 2 = 2 ^ t - 1 - q from by omega] at h3
      rw [show (2 * q + 1) % 2 ^ 1 = 1 from by omega, show (2 ^ t * 2 - (2 * q + 1)) % 2 ^ 1 = 1 from by omega] at h4
      have h4 : ((2 * q + 1) &&& (2 ^ t * 2 - (2 * q + 1))) % 2 = 1 := h4
      have h5 : q &&& (2 ^ t - 1 - q) = 0 := by
        apply Nat.eq_of_testBit_eq
        intro i
        rw [Nat.testBit_and, Nat.zero_testBit, show 2 ^ t - 1 - q = 2 ^ t - (q + 1) from by omega, Nat.testBit_two_pow_sub_succ (by omega)]
        cases q.testBit i <;> simp
      omega
    · have hq : 0 < q := by omega
      rw [clr_even q hq]
      rw [show 2 * q / 2 = q from by omega, show (2 ^ t * 2 - 2 * q) / 2 = 2 ^ t - q from by omega, ih q hq (by omega)] at h3
      rw [show 2 * q % 2 ^ 1 = 0 from by omega] at h4
      simp at h4
      omega

/-! ### Sums -/
/-- The list with by more at i. -/
def plusAt (l : Nat → Int) (i : Nat) (b : Int) : Nat → Int := fun j => if j = i then l i + b else l j
theorem psum_plusAt (l : Nat → Int) (i : Nat) (b : Int) (k : Nat) : psum (plusAt l i b) k = psum l k + if i < k then b else 0 := by
  induction k with
  | zero => rw [if_neg (by omega)]; rfl
  | succ k ih =>
    rw [psum_succ, psum_succ, ih]
    unfold plusAt
    by_cases c : k = i
    · subst c; rw [if_pos rfl, if_neg (by omega), if_pos (by omega)]; omega
    · rw [if_neg c]
      by_cases d : i < k
      · rw [if_pos d, if_pos (by omega)]; omega
      · rw [if_neg d, if_neg (by omega)]; omega
/-- Sizes that a tree may have. -/
structure Sizes (l : Nat → Int) (n : Nat) : Prop where
  nn : ∀ j, j < n → 0 ≤ l j
  top : psum l n ≤ 4611686018427387904
  le : n ≤ 4096
theorem Sizes.mono {l : Nat → Int} {n : Nat} (h : Sizes l n) {a b : Nat} (hab : a ≤ b) (hb : b ≤ n) : psum l a ≤ psum l b := by
  induction b with
  | zero => rw [show a = 0 from by omega]; exact Int.le_refl _
  | succ b ih =>
    by_cases c : a = b + 1
    · subst c; exact Int.le_refl _
    · have := ih (by omega) (by omega)
      have := h.nn b (by omega)
      rw [psum_succ]; omega
theorem Sizes.bd {l : Nat → Int} {n : Nat} (h : Sizes l n) {a : Nat} (ha : a ≤ n) : 0 ≤ psum l a ∧ psum l a ≤ 4611686018427387904 := by
  have h1 := h.mono (Nat.zero_le a) ha
  have h2 := h.mono ha (Nat.le_refl n)
  have h3 := h.top
  have h4 : psum l 0 = 0 := rfl
  omega
/-- What the sums of a tree are. -/
def fsum (l : Nat → Int) (k : Nat) : Int := psum l k - psum l (clr k)
theorem Sizes.fsum_bd {l : Nat → Int} {n : Nat} (h : Sizes l n) {k : Nat} (hk : k ≤ n) : 0 ≤ fsum l k ∧ fsum l k ≤ 4611686018427387904 := by
  have hc : clr k ≤ k := Nat.and_le_left
  have h1 := h.mono hc hk
  have h2 := h.bd hk
  have h3 := h.bd (Nat.le_trans hc hk)
  unfold fsum; omega
theorem fsum_plusAt (l : Nat → Int) (i : Nat) (b : Int) (k : Nat) : fsum (plusAt l i b) k = fsum l k + if clr k ≤ i ∧ i < k then b else 0 := by
  have hc : clr k ≤ k := Nat.and_le_left
  unfold fsum
  rw [psum_plusAt, psum_plusAt]
  by_cases c : i < k
  · rw [if_pos c]
    by_cases d : i < clr k
    · rw [if_pos d, if_neg (by omega)]; omega
    · rw [if_neg d, if_pos (by omega)]; omega
  · rw [if_neg c, if_neg (by omega), if_neg (by omega)]; omega
end Go.Proofs.YteodkmndghaidaaDoor

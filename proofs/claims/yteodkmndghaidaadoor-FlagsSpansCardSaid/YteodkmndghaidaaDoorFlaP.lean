/-
  Flags, plainly: counting bits, words made of bits, the steps of the library's OnesCount64, the lowest bit of a word.
-/
import Derived.Test.YteodkmndghaidaaDoorMem
import Derived.Test.YteodkmndghaidaaDoorFenP
namespace Go.Proofs.YteodkmndghaidaaDoor
set_option linter.unusedVariables false

/-- How many of the first k hold. -/
def cnt (b : Nat → Bool) : Nat → Nat
  | 0 => 0
  | k + 1 => cnt b k + (if b k then 1 else 0)
theorem cnt_zero (b : Nat → Bool) : cnt b 0 = 0 := rfl
theorem cnt_succ (b : Nat → Bool) (k : Nat) : cnt b (k + 1) = cnt b k + (if b k then 1 else 0) := rfl
theorem cnt_le (b : Nat → Bool) : ∀ k, cnt b k ≤ k := by
  intro k
  induction k with
  | zero => exact Nat.le_refl _
  | succ k ih => rw [cnt_succ]; split <;> omega
theorem cnt_mono (b : Nat → Bool) {k m : Nat} (h : k ≤ m) : cnt b k ≤ cnt b m := by
  induction m with
  | zero => rw [show k = 0 from by omega]; exact Nat.le_refl _
  | succ m ih =>
    by_cases c : k = m + 1
    · rw [c]; exact Nat.le_refl _
    · have := ih (by omega); rw [cnt_succ]; omega
theorem cnt_congr {x y : Nat → Bool} : ∀ {k : Nat}, (∀ j, j < k → x j = y j) → cnt x k = cnt y k := by
  intro k
  induction k with
  | zero => intro _; rfl
  | succ k ih => intro h; rw [cnt_succ, cnt_succ, ih (fun j hj => h j (by omega)), h k (by omega)]
theorem cnt_add (b : Nat → Bool) (m : Nat) : ∀ k, cnt b (m + k) = cnt b m + cnt (fun j => b (m + j)) k := by
  intro k
  induction k with
  | zero => rfl
  | succ k ih => rw [← Nat.add_assoc, cnt_succ, ih, cnt_succ]; omega
theorem cnt_none {b : Nat → Bool} {k : Nat} (h : ∀ j, j < k → b j = false) : cnt b k = 0 := by
  induction k with
  | zero => rfl
  | succ k ih => rw [cnt_succ, ih (fun j hj => h j (by omega)), h k (by omega)]; rfl
theorem cnt_zero_none {b : Nat → Bool} {k : Nat} (h : cnt b k = 0) : ∀ j, j < k → b j = false := by
  intro j hj
  have h1 := cnt_mono b (show j + 1 ≤ k from hj)
  rw [cnt_succ] at h1
  cases e : b j with
  | false => rfl
  | true => rw [e] at h1; simp at h1; omega
theorem cnt_hit {b : Nat → Bool} {k : Nat} (h : b k = true) : cnt b (k + 1) = cnt b k + 1 := by rw [cnt_succ, h]; rfl
theorem cnt_miss {b : Nat → Bool} {k : Nat} (h : b k = false) : cnt b (k + 1) = cnt b k := by rw [cnt_succ, h]; rfl
/-- The place of a number of hits. -/
theorem cnt_uniq {b : Nat → Bool} {i j : Nat} (hi : b i = true) (hj : b j = true) (h : cnt b i = cnt b j) : i = j := by
  rcases Nat.lt_trichotomy i j with c | c | c
  · have h1 := cnt_mono b (show i + 1 ≤ j from c); rw [cnt_hit hi] at h1; omega
  · exact c
  · have h1 := cnt_mono b (show j + 1 ≤ i from c); rw [cnt_hit hj] at h1; omega
theorem cnt_find {b : Nat → Bool} {k : Nat} : ∀ {n}, k < cnt b n → ∃ i, i < n ∧ b i = true ∧ cnt b i = k := by
  intro n
  induction n with
  | zero => intro h; exact absurd h (Nat.not_lt_zero _)
  | succ n ih =>
    intro h
    by_cases c : k < cnt b n
    · obtain ⟨i, h1, h2⟩ := ih c; exact ⟨i, by omega, h2⟩
    · rw [cnt_succ] at h
      cases e : b n with
      | false => rw [e] at h; simp at h; omega
      | true => rw [e] at h; simp at h; exact ⟨n, by omega, e, by omega⟩
/-- The first hit from i on. -/
theorem first_hit (b : Nat → Bool) (i : Nat) : ∀ n, (∀ j, i ≤ j → j < n → b j = false) ∨ ∃ t, i ≤ t ∧ t < n ∧ b t = true ∧ ∀ j, i ≤ j → j < t → b j = false := by
  intro n
  induction n with
  | zero => exact .inl fun j _ h => absurd h (Nat.not_lt_zero _)
  | succ n ih =>
    rcases ih with h | ⟨t, h1, h2, h3⟩
    · by_cases c : i ≤ n
      · cases e : b n with
        | false =>
          refine .inl fun j h1 h2 => ?_
          by_cases d : j = n
          · rw [d]; exact e
          · exact h j h1 (by omega)
        | true => exact .inr ⟨n, c, Nat.lt_succ_self n, e, h⟩
      · exact .inl fun j h1 h2 => by omega
    · exact .inr ⟨t, h1, by omega, h3⟩

/-- The number with given bits. -/
def ofB (f : Nat → Bool) : Nat → Nat
  | 0 => 0
  | k + 1 => ofB f k + (if f k then 2 ^ k else 0)
theorem ofB_lt (f : Nat → Bool) : ∀ k, ofB f k < 2 ^ k := by
  intro k
  induction k with
  | zero => exact Nat.one_pos
  | succ k ih => unfold ofB; rw [Nat.pow_succ]; split <;> omega
theorem testBit_ofB (f : Nat → Bool) : ∀ k j, (ofB f k).testBit j = (decide (j < k) && f j) := by
  intro k
  induction k with
  | zero => intro j; show Nat.testBit 0 j = _; rw [Nat.zero_testBit]; simp
  | succ k ih =>
    intro j
    have hl := ofB_lt f k
    unfold ofB
    cases e : f k with
    | false =>
      simp only [Bool.false_eq_true, if_false, Nat.add_zero, ih]
      by_cases c : j = k
      · subst c; simp [e]
      · by_cases d : j < k
        · simp [d, show j < k + 1 by omega]
        · simp [d, show ¬ j < k + 1 by omega]
    | true =>
      simp only [if_true]
      rw [Nat.add_comm]
      by_cases c : j = k
      · subst c
        rw [Nat.testBit_two_pow_add_eq, ih]; simp [e]
      · by_cases d : j < k
        · rw [Nat.testBit_two_pow_add_gt d, ih]; simp [d, show j < k + 1 by omega]
        · rw [Nat.testBit_lt_two_pow (Nat.lt_of_lt_of_le (show 2 ^ k + ofB f k < 2 ^ (k + 1) by rw [Nat.pow_succ]; omega) (Nat.pow_le_pow_right (by omega) (show k + 1 ≤ j by omega)))]
          simp [show ¬ j < k + 1 by omega]
theorem ofB_congr {f g : Nat → Bool} : ∀ {k : Nat}, (∀ j, j < k → f j = g j) → ofB f k = ofB g k := by
  intro k
  induction k with
  | zero => intro _; rfl
  | succ k ih => intro h; unfold ofB; rw [ih (fun j hj => h j (by omega)), h k (by omega)]
theorem eq_ofB {x k : Nat} {f : Nat → Bool} (hx : x < 2 ^ k) (h : ∀ j, j < k → x.testBit j = f j) : x = ofB f k := by
  apply Nat.eq_of_testBit_eq
  intro j
  rw [testBit_ofB]
  by_cases c : j < k
  · simp [c, h j c]
  · rw [Nat.testBit_lt_two_pow (Nat.lt_of_lt_of_le hx (Nat.pow_le_pow_right (by omega) (by omega)))]; simp [c]
theorem cnt_ofB (f : Nat → Bool) (k : Nat) : cnt (ofB f k).testBit k = cnt f k := cnt_congr fun j hj => by rw [testBit_ofB]; simp [hj]

/-- A word without its lowest bit. -/
theorem clr_testBit : ∀ (j x : Nat), (clr x).testBit j = (x.testBit j && decide (0 < cnt x.testBit j)) := by
  intro j
  induction j with
  | zero =>
    intro x
    rcases parity x with ⟨q, rfl⟩ | ⟨q, rfl⟩
    · rw [clr_odd]; simp [cnt, Nat.testBit_zero]
    · rcases Nat.eq_zero_or_pos q with rfl | hq
      · simp [clr]
      · rw [clr_even q hq]; simp [cnt, Nat.testBit_zero]
  | succ j ih =>
    intro x
    have hc : cnt x.testBit (j + 1) = cnt x.testBit 1 + cnt (x / 2).testBit j := by
      rw [Nat.add_comm j 1, cnt_add]
      congr 1
      exact cnt_congr fun i _ => by rw [Nat.add_comm 1 i, Nat.testBit_succ]
    rw [Nat.testBit_succ, Nat.testBit_succ, hc]
    rcases parity x with ⟨q, rfl⟩ | ⟨q, rfl⟩
    · rw [clr_odd, show 2 * q / 2 = q from by omega, show (2 * q + 1) / 2 = q from by omega]
      have : cnt (2 * q + 1).testBit 1 = 1 := by rw [cnt_hit (by simp [Nat.testBit_zero])]; rfl
      rw [this, decide_eq_true (by omega), Bool.and_true]
    · rcases Nat.eq_zero_or_pos q with rfl | hq
      · simp [clr]
      · rw [clr_even q hq, show 2 * clr q / 2 = clr q from by omega, show 2 * q / 2 = q from by omega, ih]
        have : cnt (2 * q).testBit 1 = 0 := by rw [cnt_miss (by simp [Nat.testBit_zero])]; rfl
        rw [this, Nat.zero_add]
/-- v is x without its m lowest bits. -/
def Less (x v m : Nat) : Prop := ∀ j, v.testBit j = (x.testBit j && decide (m ≤ cnt x.testBit j))
theorem Less.cnt {x v m : Nat} (h : Less x v m) : ∀ j, Go.Proofs.YteodkmndghaidaaDoor.cnt v.testBit j = Go.Proofs.YteodkmndghaidaaDoor.cnt x.testBit j - m := by
  intro j
  induction j with
  | zero => rw [cnt_zero, cnt_zero]; omega
  | succ j ih =>
    rw [cnt_succ, cnt_succ, ih, h j]
    cases e : x.testBit j with
    | false => simp
    | true =>
      by_cases c : m ≤ Go.Proofs.YteodkmndghaidaaDoor.cnt x.testBit j
      · simp [c]; omega
      · simp [c]; omega
theorem Less.start (x : Nat) : Less x x 0 := fun j => by simp
theorem Less.step {x v m : Nat} (h : Less x v m) : Less x (clr v) (m + 1) := fun j => by
  rw [clr_testBit, h.cnt j, h j, Bool.and_assoc, ← Bool.decide_and]
  congr 1
  exact decide_eq_decide.2 ⟨fun ⟨a, b⟩ => by omega, fun a => ⟨by omega, by omega⟩⟩
/-- The lowest bit of a word. -/
theorem low_bit {v t : Nat} (h : v.testBit t = true) (h0 : ∀ j, j < t → v.testBit j = false) : v - clr v = 2 ^ t := by
  have h1 : v % 2 ^ t = 0 := by
    apply Nat.eq_of_testBit_eq
    intro j
    rw [Nat.testBit_mod_two_pow, Nat.zero_testBit]
    by_cases c : j < t
    · simp [c, h0 j c]
    · simp [c]
  have h2 : v / 2 ^ t % 2 = 1 := by
    have h3 := Nat.testBit_div_two_pow (n := t) v 0
    rw [Nat.zero_add, h, Nat.testBit_zero] at h3
    exact of_decide_eq_true h3
  have h3 := Nat.div_add_mod v (2 ^ t)
  rw [h1, Nat.add_zero] at h3
  obtain ⟨a, ha⟩ : ∃ a, v / 2 ^ t = 2 * a + 1 := ⟨v / 2 ^ t / 2, by omega⟩
  rw [ha] at h3
  have e : v = a * 2 ^ (t + 1) + 2 ^ t := by
    rw [← h3, Nat.pow_succ, Nat.mul_add, Nat.mul_one, Nat.mul_comm 2 a, ← Nat.mul_assoc, Nat.mul_comm (2 ^ t) a, Nat.mul_assoc]
  rw [e, clr_step]
  omega

/-- The and of two numbers, byte by byte. -/
theorem and_byte (a b c d : Nat) (ha : a < 256) (hc : c < 256) : (a + 256 * b) &&& (c + 256 * d) = (a &&& c) + 256 * (b &&& d) := by
  apply Nat.eq_of_testBit_eq
  intro j
  have hac : a &&& c < 256 := Nat.lt_of_le_of_lt Nat.and_le_left ha
  have e1 : a + 256 * b = 2 ^ 8 * b + a := by omega
  have e2 : c + 256 * d = 2 ^ 8 * d + c := by omega
  have e3 : (a &&& c) + 256 * (b &&& d) = 2 ^ 8 * (b &&& d) + (a &&& c) := by omega
  rw [e1, e2, e3, Nat.testBit_and, Nat.testBit_two_pow_mul_add _ ha, Nat.testBit_two_pow_mul_add _ hc, Nat.testBit_two_pow_mul_add _ hac]
  by_cases h : j < 8
  · rw [if_pos h, if_pos h, if_pos h, Nat.testBit_and]
  · rw [if_neg h, if_neg h, if_neg h, Nat.testBit_and]
def q1 (b : Nat) : Nat := ((b / 2) &&& 0x55) + (b &&& 0x55)
def q2 (b : Nat) : Nat := ((b / 4) &&& 0x33) + (b &&& 0x33)
set_option maxRecDepth 100000 in
theorem byte_facts : ∀ b, b < 256 → q2 (q1 b) ≤ 68 ∧ q2 (q1 b) % 16 ≤ 4 ∧ q1 b < 256 ∧ q2 (q1 b) / 16 + q2 (q1 b) % 16 = cnt b.testBit 8 := by decide
set_option maxRecDepth 100000 in
theorem byte_and1 : ∀ b, b < 256 → ∀ h, h < 2 → (b / 2 + 128 * h) &&& 0x55 = (b / 2) &&& 0x55 := by decide
set_option maxRecDepth 100000 in
theorem byte_and2 : ∀ b, b < 256 → ∀ h, h < 4 → (b / 4 + 64 * h) &&& 0x33 = (b / 4) &&& 0x33 := by decide
theorem step1 (b x M : Nat) (hb : b < 256) : (((b + 256 * x) / 2) &&& (0x55 + 256 * M)) + ((b + 256 * x) &&& (0x55 + 256 * M)) = q1 b + 256 * (((x / 2) &&& M) + (x &&& M)) := by
  rw [show (b + 256 * x) / 2 = (b / 2 + 128 * (x % 2)) + 256 * (x / 2) from by omega, and_byte _ _ _ _ (by omega) (by omega), and_byte _ _ _ _ hb (by omega), byte_and1 b hb _ (Nat.mod_lt _ (by omega))]
  unfold q1
  omega
theorem step2 (b x M : Nat) (hb : b < 256) : (((b + 256 * x) / 4) &&& (0x33 + 256 * M)) + ((b + 256 * x) &&& (0x33 + 256 * M)) = q2 b + 256 * (((x / 4) &&& M) + (x &&& M)) := by
  rw [show (b + 256 * x) / 4 = (b / 4 + 64 * (x % 4)) + 256 * (x / 4) from by omega, and_byte _ _ _ _ (by omega) (by omega), and_byte _ _ _ _ hb (by omega), byte_and2 b hb _ (Nat.mod_lt _ (by omega))]
  unfold q2
  omega
theorem step1z (M : Nat) : ((0 / 2) &&& M) + (0 &&& M) = 0 := by simp
theorem step2z (M : Nat) : ((0 / 4) &&& M) + (0 &&& M) = 0 := by simp
/-- Eight bytes. -/
def B8 (a b c d e f g h : Nat) : Nat := a + 256 * (b + 256 * (c + 256 * (d + 256 * (e + 256 * (f + 256 * (g + 256 * h))))))
theorem bytes8 (x : Nat) (hx : x < 2 ^ 64) : ∃ a b c d e f g h, x = B8 a b c d e f g h ∧ a < 256 ∧ b < 256 ∧ c < 256 ∧ d < 256 ∧ e < 256 ∧ f < 256 ∧ g < 256 ∧ h < 256 :=
  ⟨x % 256, x / 256 % 256, x / 256 / 256 % 256, x / 256 / 256 / 256 % 256, x / 256 / 256 / 256 / 256 % 256, x / 256 / 256 / 256 / 256 / 256 % 256, x / 256 / 256 / 256 / 256 / 256 / 256 % 256, x / 256 / 256 / 256 / 256 / 256 / 256 / 256, by unfold B8; omega, by omega, by omega, by omega, by omega, by omega, by omega, by omega, by omega⟩
theorem cnt_byte (b x k : Nat) (hb : b < 256) : cnt (b + 256 * x).testBit (8 + k) = cnt b.testBit 8 + cnt x.testBit k := by
  rw [cnt_add]
  congr 1
  · refine cnt_congr fun j hj => ?_
    rw [show b + 256 * x = 2 ^ 8 * x + b from by omega, Nat.testBit_two_pow_mul_add _ hb, if_pos hj]
  · refine cnt_congr fun j _ => ?_
    rw [show b + 256 * x = 2 ^ 8 * x + b from by omega, Nat.testBit_two_pow_mul_add _ hb, if_neg (by omega), Nat.add_sub_cancel_left]
def M0 : Nat := 0x5555555555555555
def M1 : Nat := 0x3333333333333333
def M2 : Nat := 0x0f0f0f0f0f0f0f0f
def S1 (x : Nat) : Nat := ((x / 2) &&& M0) + (x &&& M0)
def S2 (x : Nat) : Nat := ((x / 4) &&& M1) + (x &&& M1)
def S3 (x : Nat) : Nat := (x / 16 + x) &&& M2
theorem S1_B8 (a b c d e f g h : Nat) (ha : a < 256) (hb : b < 256) (hc : c < 256) (hd : d < 256) (he : e < 256) (hf : f < 256) (hg : g < 256) (hh : h < 256) : S1 (B8 a b c d e f g h) = B8 (q1 a) (q1 b) (q1 c) (q1 d) (q1 e) (q1 f) (q1 g) (q1 h) := by
  unfold S1 B8
  rw [show M0 = 0x55 + 256 * (0x55 + 256 * (0x55 + 256 * (0x55 + 256 * (0x55 + 256 * (0x55 + 256 * (0x55 + 256 * 0x55)))))) from rfl,
    step1 a _ _ ha, step1 b _ _ hb, step1 c _ _ hc, step1 d _ _ hd, step1 e _ _ he, step1 f _ _ hf, step1 g _ _ hg]
  rfl
theorem S2_B8 (a b c d e f g h : Nat) (ha : a < 256) (hb : b < 256) (hc : c < 256) (hd : d < 256) (he : e < 256) (hf : f < 256) (hg : g < 256) (hh : h < 256) : S2 (B8 a b c d e f g h) = B8 (q2 a) (q2 b) (q2 c) (q2 d) (q2 e) (q2 f) (q2 g) (q2 h) := by
  unfold S2 B8
  rw [show M1 = 0x33 + 256 * (0x33 + 256 * (0x33 + 256 * (0x33 + 256 * (0x33 + 256 * (0x33 + 256 * (0x33 + 256 * 0x33)))))) from rfl,
    step2 a _ _ ha, step2 b _ _ hb, step2 c _ _ hc, step2 d _ _ hd, step2 e _ _ he, step2 f _ _ hf, step2 g _ _ hg]
  rfl
theorem and15 (x : Nat) : x &&& 15 = x % 16 := by
  have := Nat.and_two_pow_sub_one_eq_mod x 4
  simpa using this
theorem S3_B8 (a b c d e f g h : Nat) (ha : a ≤ 68) (hb : b ≤ 68) (hc : c ≤ 68) (hd : d ≤ 68) (he : e ≤ 68) (hf : f ≤ 68) (hg : g ≤ 68) (hh : h ≤ 68)
    (ka : a % 16 ≤ 4) (kb : b % 16 ≤ 4) (kc : c % 16 ≤ 4) (kd : d % 16 ≤ 4) (ke : e % 16 ≤ 4) (kf : f % 16 ≤ 4) (kg : g % 16 ≤ 4) (kh : h % 16 ≤ 4) :
    S3 (B8 a b c d e f g h) = B8 (a / 16 + a % 16) (b / 16 + b % 16) (c / 16 + c % 16) (d / 16 + d % 16) (e / 16 + e % 16) (f / 16 + f % 16) (g / 16 + g % 16) (h / 16 + h % 16) := by
  have hs : B8 a b c d e f g h / 16 + B8 a b c d e f g h = B8 (a + a / 16 + 16 * (b % 16)) (b + b / 16 + 16 * (c % 16)) (c + c / 16 + 16 * (d % 16)) (d + d / 16 + 16 * (e % 16)) (e + e / 16 + 16 * (f % 16)) (f + f / 16 + 16 * (g % 16)) (g + g / 16 + 16 * (h % 16)) (h + h / 16) := by
    unfold B8; omega
  unfold S3
  rw [hs, show M2 = 15 + 256 * (15 + 256 * (15 + 256 * (15 + 256 * (15 + 256 * (15 + 256 * (15 + 256 * 15)))))) from rfl]
  unfold B8
  rw [and_byte _ _ _ _ (by omega) (by omega), and_byte _ _ _ _ (by omega) (by omega), and_byte _ _ _ _ (by omega) (by omega), and_byte _ _ _ _ (by omega) (by omega), and_byte _ _ _ _ (by omega) (by omega), and_byte _ _ _ _ (by omega) (by omega), and_byte _ _ _ _ (by omega) (by omega)]
  simp only [and15]
  have k1 : ∀ x y : Nat, x ≤ 68 → x % 16 ≤ 4 → (x + x / 16 + 16 * y) % 16 = x / 16 + x % 16 := fun x y h1 h2 => by omega
  have k2 : ∀ x : Nat, x ≤ 68 → x % 16 ≤ 4 → (x + x / 16) % 16 = x / 16 + x % 16 := fun x h1 h2 => by omega
  rw [k1 a _ ha ka, k1 b _ hb kb, k1 c _ hc kc, k1 d _ hd kd, k1 e _ he ke, k1 f _ hf kf, k1 g _ hg kg, k2 h hh kh]
/-- The sum of eight small bytes, as the library makes it. -/
theorem S4_B8 (a b c d e f g h y1 y2 y3 : Nat) (ha : a ≤ 8) (hb : b ≤ 8) (hc : c ≤ 8) (hd : d ≤ 8) (he : e ≤ 8) (hf : f ≤ 8) (hg : g ≤ 8) (hh : h ≤ 8)
    (h1 : y1 = B8 a b c d e f g h + B8 a b c d e f g h / 256) (h2 : y2 = y1 + y1 / 65536) (h3 : y3 = y2 + y2 / 4294967296) :
    y1 < 2 ^ 64 ∧ y2 < 2 ^ 64 ∧ y3 < 2 ^ 63 ∧ y3 % 128 = a + b + c + d + e + f + g + h := by
  have e1 : y1 = B8 (a + b) (b + c) (c + d) (d + e) (e + f) (f + g) (g + h) h := by rw [h1]; unfold B8; omega
  have e2 : y2 = B8 (a + b + (c + d)) (b + c + (d + e)) (c + d + (e + f)) (d + e + (f + g)) (e + f + (g + h)) (f + g + h) (g + h) h := by rw [h2, e1]; unfold B8; omega
  have e3 : y3 = B8 (a + b + (c + d) + (e + f + (g + h))) (b + c + (d + e) + (f + g + h)) (c + d + (e + f) + (g + h)) (d + e + (f + g) + h) (e + f + (g + h)) (f + g + h) (g + h) h := by rw [h3, e2]; unfold B8; omega
  refine ⟨?_, ?_, ?_, ?_⟩
  · rw [e1]; unfold B8; omega
  · rw [e2]; unfold B8; omega
  · rw [e3]; unfold B8; omega
  · rw [e3]; unfold B8; omega
theorem B8_lt {a b c d e f g h : Nat} (ha : a < 256) (hb : b < 256) (hc : c < 256) (hd : d < 256) (he : e < 256) (hf : f < 256) (hg : g < 256) (hh : h < 256) : B8 a b c d e f g h < 2 ^ 64 := by unfold B8; omega
theorem B8_lt63 {a b c d e f g h : Nat} (ha : a ≤ 68) (hb : b ≤ 68) (hc : c ≤ 68) (hd : d ≤ 68) (he : e ≤ 68) (hf : f ≤ 68) (hg : g ≤ 68) (hh : h ≤ 68) : B8 a b c d e f g h < 2 ^ 63 := by unfold B8; omega
theorem B8_lt60 {a b c d e f g h : Nat} (ha : a ≤ 8) (hb : b ≤ 8) (hc : c ≤ 8) (hd : d ≤ 8) (he : e ≤ 8) (hf : f ≤ 8) (hg : g ≤ 8) (hh : h ≤ 8) : B8 a b c d e f g h < 2 ^ 60 := by unfold B8; omega
theorem cnt_B8 {a b c d e f g h : Nat} (ha : a < 256) (hb : b < 256) (hc : c < 256) (hd : d < 256) (he : e < 256) (hf : f < 256) (hg : g < 256) (hh : h < 256) :
    cnt (B8 a b c d e f g h).testBit 64 = cnt a.testBit 8 + cnt b.testBit 8 + cnt c.testBit 8 + cnt d.testBit 8 + cnt e.testBit 8 + cnt f.testBit 8 + cnt g.testBit 8 + cnt h.testBit 8 := by
  unfold B8
  rw [show 64 = 8 + 56 from rfl, cnt_byte a _ 56 ha, show 56 = 8 + 48 from rfl, cnt_byte b _ 48 hb, show 48 = 8 + 40 from rfl, cnt_byte c _ 40 hc, show 40 = 8 + 32 from rfl, cnt_byte d _ 32 hd, show 32 = 8 + 24 from rfl, cnt_byte e _ 24 he, show 24 = 8 + 16 from rfl, cnt_byte f _ 16 hf, show 16 = 8 + 8 from rfl, cnt_byte g _ 8 hg]
  clear ha hb hc hd he hf hg hh
  omega
/-- What OnesCount64 computes. -/
theorem ones64 (x : Nat) (hx : x < 2 ^ 64) : ∀ y1 y2 y3 : Nat, y1 = S3 (S2 (S1 x)) + S3 (S2 (S1 x)) / 256 → y2 = y1 + y1 / 65536 → y3 = y2 + y2 / 4294967296 →
    S1 x < 2 ^ 64 ∧ S2 (S1 x) < 2 ^ 63 ∧ S3 (S2 (S1 x)) < 2 ^ 60 ∧ y1 < 2 ^ 64 ∧ y2 < 2 ^ 64 ∧ y3 < 2 ^ 63 ∧ y3 % 128 = cnt x.testBit 64 := by
  intro y1 y2 y3 h1 h2 h3
  obtain ⟨a, b, c, d, e, f, g, h, rfl, ha, hb, hc, hd, he, hf, hg, hh⟩ := bytes8 x hx
  obtain ⟨a1, a2, a3, a4⟩ := byte_facts a ha
  obtain ⟨b1, b2, b3, b4⟩ := byte_facts b hb
  obtain ⟨c1, c2, c3, c4⟩ := byte_facts c hc
  obtain ⟨d1, d2, d3, d4⟩ := byte_facts d hd
  obtain ⟨e1, e2, e3, e4⟩ := byte_facts e he
  obtain ⟨f1, f2, f3, f4⟩ := byte_facts f hf
  obtain ⟨g1, g2, g3, g4⟩ := byte_facts g hg
  obtain ⟨i1, i2, i3, i4⟩ := byte_facts h hh
  have E1 := S1_B8 a b c d e f g h ha hb hc hd he hf hg hh
  have E2 := S2_B8 (q1 a) (q1 b) (q1 c) (q1 d) (q1 e) (q1 f) (q1 g) (q1 h) a3 b3 c3 d3 e3 f3 g3 i3
  rw [E1, E2] at h1 ⊢
  have E3 := S3_B8 _ _ _ _ _ _ _ _ a1 b1 c1 d1 e1 f1 g1 i1 a2 b2 c2 d2 e2 f2 g2 i2
  rw [E3, a4, b4, c4, d4, e4, f4, g4, i4] at h1
  rw [E3, a4, b4, c4, d4, e4, f4, g4, i4]
  have le := fun z : Nat => cnt_le z.testBit 8
  obtain ⟨r1, r2, r3, r4⟩ := S4_B8 _ _ _ _ _ _ _ _ y1 y2 y3 (le a) (le b) (le c) (le d) (le e) (le f) (le g) (le h) h1 h2 h3
  rw [cnt_B8 ha hb hc hd he hf hg hh]
  exact ⟨B8_lt a3 b3 c3 d3 e3 f3 g3 i3, B8_lt63 a1 b1 c1 d1 e1 f1 g1 i1, B8_lt60 (le a) (le b) (le c) (le d) (le e) (le f) (le g) (le h), r1, r2, r3, r4⟩
/-- The library's table at the lowest bit. -/
def bruijn : Nat := 0x03f79d71b4ca8b09
end Go.Proofs.YteodkmndghaidaaDoor

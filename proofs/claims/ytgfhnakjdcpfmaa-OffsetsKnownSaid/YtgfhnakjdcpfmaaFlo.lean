/-
  float64 over whole numbers below 2^53 is exact: plain facts on the model's words, no Go text.
-/
import Derived.WalkKit
import Derived.WalkLawsBesides
namespace Go.Proofs.Ytgfhnakjdcpfmaa
open Ieee

theorem shl (m k : Nat) : m <<< k = m * 2 ^ k := Nat.shiftLeft_eq m k

/-- The datum d stands for the whole number n. -/
def Val (d : Datum) (n : Int) : Prop := ∃ (s : Bool) (m : Nat) (i : Int), d = .number s m i ∧ ∀ c : Nat, -i ≤ (c : Int) → signed s m (i + c).toNat = n * 2 ^ c
/-- The same, with a place that is not above 0, and no sign unless below 0. -/
def Val0 (d : Datum) (n : Int) : Prop := ∃ (m : Nat) (i : Int), d = .number (decide (n < 0)) m i ∧ i ≤ 0 ∧ m = n.natAbs * 2 ^ (-i).toNat

theorem log2_shift (n c : Nat) (h : n ≠ 0) : (n * 2 ^ c).log2 = n.log2 + c := by
  induction c with
  | zero => simp
  | succ c ih =>
    have hp := Nat.two_pow_pos c
    rw [Nat.pow_succ, ← Nat.mul_assoc, Nat.mul_comm _ 2, Nat.log2_two_mul (Nat.mul_ne_zero h (by omega)), ih]
    omega

theorem signed_mul (s : Bool) (m k : Nat) : signed s m k = (if s then -(m : Int) else (m : Int)) * 2 ^ k := by
  unfold signed
  rw [shl]
  cases s
  · simp
  · simp [Int.neg_mul]

theorem Val0.val {d : Datum} {n : Int} (h : Val0 d n) : Val d n := by
  obtain ⟨m, i, hd, hi, hm⟩ := h
  refine ⟨_, m, i, hd, fun c hc => ?_⟩
  rw [signed_mul]
  have hs : (if decide (n < 0) = true then -(m : Int) else (m : Int)) = n * 2 ^ (-i).toNat := by
    subst hm
    by_cases hn : n < 0
    · simp only [hn, decide_true, if_true]
      rw [Int.natCast_mul, Int.natCast_pow, ← Int.neg_mul]
      congr 1
      omega
    · simp only [hn, decide_false]
      rw [if_neg (by decide), Int.natCast_mul, Int.natCast_pow]
      congr 1
      omega
  rw [hs, Int.mul_assoc, ← Int.pow_add]
  congr 2
  omega

theorem order_val {x y : Datum} {a b : Int} (hx : Val0 x a) (hy : Val y b) : x.order y = some (compare a b) := by
  have hv := hx.val
  obtain ⟨m, i, rfl, hi, _⟩ := hx
  obtain ⟨s, m', i', hd, hc⟩ := hv
  simp only [Datum.number.injEq] at hd
  obtain ⟨rfl, rfl, rfl⟩ := hd
  obtain ⟨t, n, j, rfl, hc'⟩ := hy
  simp only [Datum.order]
  obtain ⟨c, hcc⟩ : ∃ c : Nat, (c : Int) = -(min i j) := ⟨(-(min i j)).toNat, by omega⟩
  have e1 : (i - min i j).toNat = (i + c).toNat := by omega
  have e2 : (j - min i j).toNat = (j + c).toNat := by omega
  rw [e1, e2, hc c (by omega), hc' c (by omega)]
  have hp : (0 : Int) < 2 ^ c := Int.pow_pos (by decide)
  congr 1
  simp only [compare, compareOfLessAndEq]
  have l1 : (a * 2 ^ c < b * 2 ^ c) ↔ a < b := ⟨fun h => Int.lt_of_mul_lt_mul_right h (Int.le_of_lt hp), fun h => Int.mul_lt_mul_of_pos_right h hp⟩
  have l2 : (a * 2 ^ c = b * 2 ^ c) ↔ a = b := ⟨fun h => Int.eq_of_mul_eq_mul_right (by omega) h, fun h => by rw [h]⟩
  simp only [l1, l2]

/-- The word of a whole number below 2 ^ 53, however its digits are placed. -/
theorem nearest_whole (s : Bool) (n c : Nat) (h0 : 0 < n) (h : n < 9007199254740992) :
    double.nearest s (n * 2 ^ c) (-(c : Int)) = double.word s ((n.log2 + 1022) * 4503599627370496 + n * 2 ^ (52 - n.log2)) := by
  have hL : n.log2 ≤ 52 := by
    have : n.log2 < 53 := (Nat.log2_lt (by omega)).2 (by simpa using h)
    omega
  have hlog : (n * 2 ^ c).log2 = n.log2 + c := log2_shift n c (by omega)
  have hne : n * 2 ^ c ≠ 0 := by
    have := Nat.two_pow_pos c
    exact Nat.mul_ne_zero (by omega) (by omega)
  unfold Format.nearest
  rw [if_neg hne]
  simp only [hlog]
  have hlast : max (-(c : Int) + ((n.log2 + c : Nat) : Int) - (double.fractionBits : Int)) double.leastPlace = (n.log2 : Int) - 52 := by
    have h1 : (double.fractionBits : Int) = 52 := rfl
    have h2 : double.leastPlace = -1074 := by decide
    rw [h1, h2]; omega
  rw [hlast]
  have hkept : Toward.even.cut s ((n * 2 ^ c) <<< (-(c : Int) - ((n.log2 : Int) - 52)).toNat) ((n.log2 : Int) - 52 - -(c : Int)).toNat = n * 2 ^ (52 - n.log2) := by
    by_cases hc : c ≤ 52 - n.log2
    · have e1 : (-(c : Int) - ((n.log2 : Int) - 52)).toNat = 52 - n.log2 - c := by omega
      have e2 : ((n.log2 : Int) - 52 - -(c : Int)).toNat = 0 := by omega
      rw [e1, e2, shl, Nat.mul_assoc, ← Nat.pow_add, show c + (52 - n.log2 - c) = 52 - n.log2 from by omega]
      simp [Toward.cut, Nat.mod_one]
    · have e1 : (-(c : Int) - ((n.log2 : Int) - 52)).toNat = 0 := by omega
      have e2 : ((n.log2 : Int) - 52 - -(c : Int)).toNat = c - (52 - n.log2) := by omega
      rw [e1, e2, shl, Nat.pow_zero, Nat.mul_one]
      unfold Toward.cut
      have e3 : min (c - (52 - n.log2)) ((n * 2 ^ c).log2 + 2) = c - (52 - n.log2) := by rw [hlog]; omega
      rw [e3, shl, Nat.one_mul]
      have e4 : n * 2 ^ c = n * 2 ^ (52 - n.log2) * 2 ^ (c - (52 - n.log2)) := by
        rw [Nat.mul_assoc, ← Nat.pow_add, show 52 - n.log2 + (c - (52 - n.log2)) = c from by omega]
      have hp : 0 < 2 ^ (c - (52 - n.log2)) := Nat.two_pow_pos _
      rw [e4]
      simp [Nat.mul_div_cancel _ hp]
  rw [hkept]
  have hb : double.binade = 4503599627370496 := by decide
  have hi : double.infRung = 9218868437227405312 := by decide
  have hlt : n * 2 ^ (52 - n.log2) < 9007199254740992 := by
    have h1 : n < 2 ^ (n.log2 + 1) := Nat.lt_log2_self
    calc n * 2 ^ (52 - n.log2) < 2 ^ (n.log2 + 1) * 2 ^ (52 - n.log2) := Nat.mul_lt_mul_of_pos_right h1 (Nat.two_pow_pos _)
      _ = 2 ^ 53 := by rw [← Nat.pow_add, show n.log2 + 1 + (52 - n.log2) = 53 from by omega]
      _ = 9007199254740992 := by decide
  have h2 : double.leastPlace = -1074 := by decide
  rw [hb, hi, h2]
  congr 1
  have e5 : ((n.log2 : Int) - 52 - -1074).toNat = n.log2 + 1022 := by omega
  rw [e5, Nat.min_eq_left]
  omega

theorem nearest_zero (s : Bool) (p : Int) : double.nearest s 0 p = double.word s 0 := by unfold Format.nearest; rw [if_pos rfl]

/-- The word of a whole number. -/
def F (n : Int) : Nat := floatOfInt .f64 n
theorem F_zero : F 0 = 0 := by decide
theorem F_word (n : Int) (h0 : n ≠ 0) (h : n.natAbs < 9007199254740992) :
    F n = double.word (decide (n < 0)) ((n.natAbs.log2 + 1022) * 4503599627370496 + n.natAbs * 2 ^ (52 - n.natAbs.log2)) := by
  have e := nearest_whole (decide (n < 0)) n.natAbs 0 (by omega) h
  simp only [Nat.pow_zero, Nat.mul_one] at e
  exact e

/-- What that word stands for. -/
theorem read_F (n : Int) (h : n.natAbs < 9007199254740992) : Val0 (double.read (F n)) n := by
  by_cases h0 : n = 0
  · subst h0
    exact ⟨0, -1074, by rw [F_zero]; decide, by decide, by rw [Int.natAbs_zero, Nat.zero_mul]⟩
  · have hL : n.natAbs.log2 ≤ 52 := by
      have : n.natAbs.log2 < 53 := (Nat.log2_lt (by omega)).2 (by simpa using h)
      omega
    have h1 : n.natAbs < 2 ^ (n.natAbs.log2 + 1) := Nat.lt_log2_self
    have h2 : 2 ^ n.natAbs.log2 ≤ n.natAbs := Nat.log2_self_le (by omega)
    have hlo : 4503599627370496 ≤ n.natAbs * 2 ^ (52 - n.natAbs.log2) := by
      calc 4503599627370496 = 2 ^ 52 := by decide
        _ = 2 ^ n.natAbs.log2 * 2 ^ (52 - n.natAbs.log2) := by rw [← Nat.pow_add, show n.natAbs.log2 + (52 - n.natAbs.log2) = 52 from by omega]
        _ ≤ n.natAbs * 2 ^ (52 - n.natAbs.log2) := Nat.mul_le_mul_right _ h2
    have hhi : n.natAbs * 2 ^ (52 - n.natAbs.log2) < 9007199254740992 := by
      calc n.natAbs * 2 ^ (52 - n.natAbs.log2) < 2 ^ (n.natAbs.log2 + 1) * 2 ^ (52 - n.natAbs.log2) := Nat.mul_lt_mul_of_pos_right h1 (Nat.two_pow_pos _)
        _ = 2 ^ 53 := by rw [← Nat.pow_add, show n.natAbs.log2 + 1 + (52 - n.natAbs.log2) = 53 from by omega]
        _ = 9007199254740992 := by decide
    refine ⟨n.natAbs * 2 ^ (52 - n.natAbs.log2), (n.natAbs.log2 : Int) - 52, ?_, by omega, by congr 2; omega⟩
    rw [F_word n h0 h]
    generalize n.natAbs * 2 ^ (52 - n.natAbs.log2) = m at hlo hhi ⊢
    generalize n.natAbs.log2 = L at hL ⊢
    have hb : double.binade = 4503599627370496 := by decide
    have hi : double.infRung = 9218868437227405312 := by decide
    have hlp : double.leastPlace = -1074 := by decide
    have hsw : double.signWeight = 9223372036854775808 := by decide
    unfold Format.read Format.word
    rw [hb, hi, hlp, hsw]
    obtain ⟨r, hr0⟩ : ∃ r, r = (L + 1022) * 4503599627370496 + m := ⟨_, rfl⟩
    rw [← hr0]
    have hr : r < 9218868437227405312 := by omega
    have hr2 : 4503599627370496 ≤ r := by omega
    have hr3 : r / 4503599627370496 = L + 1023 := by omega
    have hr4 : r % 4503599627370496 = m - 4503599627370496 := by omega
    clear hr0
    cases decide (n < 0)
    · have e1 : r % 9223372036854775808 = r := Nat.mod_eq_of_lt (by omega)
      have e2 : r / 9223372036854775808 = 0 := by omega
      simp only [Bool.false_eq_true, if_false, e1, e2]
      rw [if_neg (by omega), if_pos hr, hr3, hr4]
      simp only [Datum.number.injEq]
      exact ⟨by decide, by omega, by omega⟩
    · have e1 : (9223372036854775808 + r) % 9223372036854775808 = r := by omega
      have e2 : (9223372036854775808 + r) / 9223372036854775808 = 1 := by omega
      simp only [if_true, e1, e2]
      rw [if_neg (by omega), if_pos hr, hr3, hr4]
      simp only [Datum.number.injEq]
      exact ⟨by decide, by omega, by omega⟩

theorem order_F (a b : Int) (ha : a.natAbs < 9007199254740992) (hb : b.natAbs < 9007199254740992) : double.order (F a) (F b) = some (compare a b) :=
  order_val (read_F a ha) (read_F b hb).val
theorem order_max (a : Int) (ha : a.natAbs < 9007199254740992) : double.order (F a) 4845873199050653696 = some (compare a 9007199254740992) := by
  refine order_val (read_F a ha) ⟨false, 4503599627370496, 1, by decide, fun c _ => ?_⟩
  rw [signed_mul, show (1 + (c : Int)).toNat = 1 + c from by omega, Int.pow_add]
  simp only [Bool.false_eq_true, if_false]
  rw [← Int.mul_assoc]
  rfl

/-- Cut towards 0. -/
theorem integral_val0 {d : Datum} {n : Int} (h : Val0 d n) : d.integral .zero = .number (decide (n < 0)) n.natAbs 0 := by
  obtain ⟨m, i, rfl, hi, rfl⟩ := h
  simp only [Datum.integral]
  have e0 : i.toNat = 0 := by omega
  rw [e0, shl, Nat.pow_zero, Nat.mul_one]
  congr 1
  unfold Toward.cut
  by_cases h0 : n.natAbs = 0
  · simp [h0]
  · have hlog : (n.natAbs * 2 ^ (-i).toNat).log2 = n.natAbs.log2 + (-i).toNat := log2_shift _ _ h0
    rw [hlog, Nat.min_eq_left (by omega), shl, Nat.one_mul]
    simp [Nat.mul_div_cancel _ (Nat.two_pow_pos _)]

theorem toInt_F (n : Int) (hn : n.natAbs < 9007199254740992) : (double.read (F n)).toInt .zero = some n := by
  unfold Datum.toInt
  rw [integral_val0 (read_F n hn)]
  simp only [signed_mul]
  congr 1
  by_cases h : n < 0
  · simp only [h, decide_true, if_true]; omega
  · simp only [h, decide_false]; rw [if_neg (by decide)]; omega
theorem trunc_F (n : Int) (hn : n.natAbs < 9007199254740992) : double.write ((double.read (F n)).integral .zero) = F n := by
  rw [integral_val0 (read_F n hn)]
  rfl

theorem add_F (a b : Int) (ha : a.natAbs < 9007199254740992) (hb : b.natAbs < 9007199254740992) (hs : (a + b).natAbs < 9007199254740992) : double.add (F a) (F b) = some (F (a + b)) := by
  have hva := (read_F a ha).val
  have hvb := (read_F b hb).val
  obtain ⟨m, i, ea, hi, _⟩ := read_F a ha
  obtain ⟨n, j, eb, hj, _⟩ := read_F b hb
  unfold Format.add
  obtain ⟨s, m', i', e, hc⟩ := hva
  rw [ea, Datum.number.injEq] at e
  obtain ⟨rfl, rfl, rfl⟩ := e
  obtain ⟨t, n', j', e, hc'⟩ := hvb
  rw [eb, Datum.number.injEq] at e
  obtain ⟨rfl, rfl, rfl⟩ := e
  rw [ea, eb]
  simp only [Datum.sum, Option.map_some, Format.write]
  obtain ⟨c, hcc⟩ : ∃ c : Nat, (c : Int) = -(min i j) := ⟨(-(min i j)).toNat, by omega⟩
  have e1 : (i - min i j).toNat = (i + c).toNat := by omega
  have e2 : (j - min i j).toNat = (j + c).toNat := by omega
  have e3 : min i j = -(c : Int) := by omega
  rw [e1, e2, hc c (by omega), hc' c (by omega), e3, ← Int.add_mul]
  congr 1
  have hp : (0 : Int) < 2 ^ c := Int.pow_pos (by decide)
  by_cases h0 : a + b = 0
  · rw [h0, Int.zero_mul, if_pos rfl, Int.natAbs_zero, nearest_zero, F_zero]
    have : (decide (a < 0) && decide (b < 0)) = false := by
      simp only [Bool.and_eq_false_iff, decide_eq_false_iff_not]; omega
    rw [this]
    decide
  · have hne : (a + b) * 2 ^ c ≠ 0 := Int.mul_ne_zero h0 (by omega)
    have hneg : decide ((a + b) * 2 ^ c < 0) = decide (a + b < 0) := by
      congr 1
      refine propext ⟨fun h => ?_, fun h => Int.mul_neg_of_neg_of_pos h hp⟩
      refine Int.lt_of_not_ge fun hge => ?_
      have := Int.mul_nonneg hge (Int.le_of_lt hp)
      omega
    rw [if_neg hne, hneg, Int.natAbs_mul, Int.natAbs_pow]
    rw [show (2 : Int).natAbs = 2 from rfl, nearest_whole _ _ _ (by omega) hs, F_word _ h0 hs]
end Go.Proofs.Ytgfhnakjdcpfmaa

/-
  Lists of bits, plainly: the bit at a place, words of sixty-four bits, how one bit that turns shows in its word and in the count.
-/
import Derived.Test.YteodkmndghaidaaDoorFlaP
namespace Go.Proofs.YteodkmndghaidaaDoor
set_option linter.unusedVariables false

/-- The bit at a place; false behind the end. -/
def bt (l : List Bool) (i : Nat) : Bool := l.getD i false
theorem bt_lt {l : List Bool} {i : Nat} (h : i < l.length) : bt l i = l[i] := by
  unfold bt; rw [List.getD_eq_getElem?_getD, List.getElem?_eq_getElem h]; rfl
theorem bt_ge {l : List Bool} {i : Nat} (h : l.length ≤ i) : bt l i = false := by
  unfold bt; rw [List.getD_eq_getElem?_getD, List.getElem?_eq_none h]; rfl
theorem bt_ext {l m : List Bool} (hl : l.length = m.length) (h : ∀ i, i < l.length → bt l i = bt m i) : l = m := by
  apply List.ext_getElem hl
  intro i h1 h2
  have := h i h1
  rwa [bt_lt h1, bt_lt h2] at this
theorem bt_set {l : List Bool} {i : Nat} (hi : i < l.length) (v : Bool) (j : Nat) : bt (l.set i v) j = if j = i then v else bt l j := by
  unfold bt
  rw [List.getD_eq_getElem?_getD, List.getD_eq_getElem?_getD, List.getElem?_set]
  by_cases c : i = j
  · subst c; simp [hi]
  · rw [if_neg c, if_neg (fun e => c e.symm)]
theorem bt_app (l m : List Bool) (j : Nat) : bt (l ++ m) j = if j < l.length then bt l j else bt m (j - l.length) := by
  unfold bt
  rw [List.getD_eq_getElem?_getD, List.getD_eq_getElem?_getD, List.getD_eq_getElem?_getD]
  by_cases c : j < l.length
  · rw [if_pos c, List.getElem?_append_left c]
  · rw [if_neg c, List.getElem?_append_right (by omega)]
theorem bt_take {l : List Bool} {k j : Nat} (h : j < k) : bt (l.take k) j = bt l j := by
  unfold bt; rw [List.getD_eq_getElem?_getD, List.getD_eq_getElem?_getD, List.getElem?_take_of_lt h]
theorem bt_drop (l : List Bool) (k j : Nat) : bt (l.drop k) j = bt l (k + j) := by
  unfold bt; rw [List.getD_eq_getElem?_getD, List.getD_eq_getElem?_getD, List.getElem?_drop]
theorem bt_rep (n : Nat) (v : Bool) (j : Nat) : bt (List.replicate n v) j = (decide (j < n) && v) := by
  unfold bt
  rw [List.getD_eq_getElem?_getD, List.getElem?_replicate]
  by_cases c : j < n
  · simp [c]
  · simp [c]
theorem bt_mem {l : List Bool} {i : Nat} (h : bt l i = true) : i < l.length := by
  rcases Nat.lt_or_ge i l.length with c | c
  · exact c
  · rw [bt_ge c] at h; exact absurd h (by decide)

/-- How many are true. -/
def cn (l : List Bool) : Nat := cnt (bt l) l.length
theorem cn_le (l : List Bool) : cn l ≤ l.length := cnt_le _ _
theorem cn_rep (n : Nat) : cn (List.replicate n false) = 0 := cnt_none fun j _ => by rw [bt_rep, Bool.and_false]
theorem cnt_put (b : Nat → Bool) (i : Nat) (v : Bool) : ∀ n, cnt (fun j => if j = i then v else b j) n + (if i < n then (if b i then 1 else 0) else 0) = cnt b n + (if i < n then (if v then 1 else 0) else 0) := by
  intro n
  induction n with
  | zero => simp [cnt]
  | succ n ih =>
    rw [cnt_succ, cnt_succ]
    by_cases c : n = i
    · subst c
      simp only [if_true, Nat.lt_irrefl, if_false, Nat.add_zero, Nat.lt_succ_self] at ih ⊢
      omega
    · simp only [if_neg c]
      by_cases d : i < n
      · rw [if_pos d, if_pos d] at ih
        rw [if_pos (show i < n + 1 by omega), if_pos (show i < n + 1 by omega)]
        omega
      · rw [if_neg d, if_neg d] at ih
        rw [if_neg (show ¬ i < n + 1 by omega), if_neg (show ¬ i < n + 1 by omega)]
        omega
theorem cn_set {l : List Bool} {i : Nat} (hi : i < l.length) (v : Bool) : cn (l.set i v) + (if bt l i then 1 else 0) = cn l + (if v then 1 else 0) := by
  have h := cnt_put (bt l) i v l.length
  rw [if_pos hi, if_pos hi] at h
  unfold cn
  rw [List.length_set, cnt_congr (y := fun j => if j = i then v else bt l j) (fun j _ => bt_set hi v j)]
  exact h
theorem cn_set_true {l : List Bool} {i : Nat} (hi : i < l.length) (h : bt l i = false) : cn (l.set i true) = cn l + 1 := by
  have := cn_set hi true; rw [h] at this; simpa using this
theorem cn_set_false {l : List Bool} {i : Nat} (hi : i < l.length) (h : bt l i = true) : cn (l.set i false) + 1 = cn l := by
  have := cn_set hi false; rw [h] at this; simpa using this
theorem set_same {l : List Bool} {i : Nat} (hi : i < l.length) (v : Bool) (h : bt l i = v) : l.set i v = l := by
  apply bt_ext (by simp)
  intro j hj
  rw [bt_set hi]
  by_cases c : j = i
  · rw [if_pos c, c, h]
  · rw [if_neg c]

/-- The word with a number. -/
def wd (l : List Bool) (k : Nat) : Nat := ofB (fun j => bt l (64 * k + j)) 64
theorem wd_lt (l : List Bool) (k : Nat) : wd l k < 18446744073709551616 := ofB_lt _ 64
theorem testBit_wd (l : List Bool) (k j : Nat) (hj : j < 64) : (wd l k).testBit j = bt l (64 * k + j) := by
  unfold wd; rw [testBit_ofB]; simp [hj]
theorem testBit_wd_ge (l : List Bool) (k j : Nat) (hj : 64 ≤ j) : (wd l k).testBit j = false := by
  unfold wd; rw [testBit_ofB]; simp [show ¬ j < 64 by omega]
theorem wd_at (l : List Bool) (i : Nat) : (wd l (i / 64)).testBit (i % 64) = bt l i := by
  rw [testBit_wd l _ _ (Nat.mod_lt _ (by omega)), Nat.div_add_mod]
theorem wd_set_other {l : List Bool} {i k : Nat} (hi : i < l.length) (v : Bool) (hk : k ≠ i / 64) : wd (l.set i v) k = wd l k := by
  unfold wd
  refine ofB_congr fun j hj => ?_
  rw [bt_set hi, if_neg (by omega)]
theorem wd_set_turn {l : List Bool} {i : Nat} (hi : i < l.length) (v : Bool) (h : bt l i = !v) : wd (l.set i v) (i / 64) = wd l (i / 64) ^^^ 2 ^ (i % 64) := by
  apply Nat.eq_of_testBit_eq
  intro j
  rw [Nat.testBit_xor, Nat.testBit_two_pow]
  by_cases c : j < 64
  · rw [testBit_wd _ _ _ c, testBit_wd _ _ _ c, bt_set hi]
    by_cases d : j = i % 64
    · have e : 64 * (i / 64) + j = i := by omega
      rw [e, if_pos rfl, h, decide_eq_true d.symm]; cases v <;> rfl
    · rw [if_neg (by omega), decide_eq_false (fun e => d e.symm), Bool.xor_false]
  · rw [testBit_wd_ge _ _ _ (by omega), testBit_wd_ge _ _ _ (by omega), decide_eq_false (by omega)]; rfl
theorem wd_rep (n k : Nat) : wd (List.replicate n false) k = 0 := by
  apply Nat.eq_of_testBit_eq
  intro j
  rw [Nat.zero_testBit]
  by_cases c : j < 64
  · rw [testBit_wd _ _ _ c, bt_rep, Bool.and_false]
  · exact testBit_wd_ge _ _ _ (by omega)
/-- The bits of the first words. -/
theorem cnt_wd (l : List Bool) (k : Nat) : cnt (bt l) (64 * k) + cnt (wd l k).testBit 64 = cnt (bt l) (64 * (k + 1)) := by
  rw [show 64 * (k + 1) = 64 * k + 64 from by omega, cnt_add]
  congr 1
  exact cnt_congr fun j hj => testBit_wd l k j hj
theorem cnt_wd_part (l : List Bool) (k r : Nat) (hr : r ≤ 64) : cnt (bt l) (64 * k) + cnt (wd l k).testBit r = cnt (bt l) (64 * k + r) := by
  rw [cnt_add]
  congr 1
  exact cnt_congr fun j hj => testBit_wd l k j (by omega)
/-- The lower bits of a word, moved to its top. -/
theorem cnt_shl (x r : Nat) (hr : r ≤ 64) : cnt (x * 2 ^ (64 - r) % 18446744073709551616).testBit 64 = cnt x.testBit r := by
  have e : cnt (x * 2 ^ (64 - r) % 18446744073709551616).testBit 64 = cnt (fun j => decide (64 - r ≤ j) && x.testBit (j - (64 - r))) 64 := cnt_congr fun j hj => by
    rw [show (18446744073709551616 : Nat) = 2 ^ 64 from rfl, Nat.testBit_mod_two_pow, Nat.testBit_mul_two_pow]
    simp [hj]
  rw [e]
  have h := cnt_add (fun j => decide (64 - r ≤ j) && x.testBit (j - (64 - r))) (64 - r) r
  rw [show 64 - r + r = 64 from by omega] at h
  rw [h, cnt_none (fun j hj => by rw [decide_eq_false (by omega)]; rfl), Nat.zero_add]
  exact cnt_congr fun j _ => by simp
end Go.Proofs.YteodkmndghaidaaDoor

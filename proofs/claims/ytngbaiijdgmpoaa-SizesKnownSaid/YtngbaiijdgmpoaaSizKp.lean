/-
  SizesKnown, plainly: 1024 rows, every second of which becomes known.
-/
import Derived.Test.YtngbaiijdgmpoaaSizLaw2
namespace Go.Proofs.Ytngbaiijdgmpoaa
open Go.RowKit
set_option linter.unusedVariables false
set_option linter.unusedSimpArgs false

theorem psum_le {l : Nat → Int} {n : Nat} {c : Int} (h : ∀ j, j < n → 1 ≤ l j ∧ l j ≤ c) : ∀ k, k ≤ n → 0 ≤ psum l k ∧ psum l k ≤ c * k := by
  intro k
  induction k with
  | zero => intro _; show (0 : Int) ≤ 0 ∧ (0 : Int) ≤ c * ((0 : Nat) : Int); simp
  | succ k ih =>
    intro hk
    obtain ⟨h1, h2⟩ := ih (by omega)
    obtain ⟨h3, h4⟩ := h k (by omega)
    rw [psum_succ]
    have e : c * ((k + 1 : Nat) : Int) = c * (k : Int) + c := by rw [show ((k + 1 : Nat) : Int) = (k : Int) + 1 from by omega, Int.mul_add, Int.mul_one]
    rw [e]
    omega
theorem ckZ_good {l : Nat → Int} {n : Nat} (hn : n ≤ 2000) (h : ∀ j, j < n → 1 ≤ l j ∧ l j ≤ 7) : ∀ k, k ≤ n → ckZ l k = 0 := by
  intro k
  induction k with
  | zero => intro _; rfl
  | succ k ih =>
    intro hk
    obtain ⟨h3, h4⟩ := h k (by omega)
    obtain ⟨h1, h2⟩ := psum_le h k (by omega)
    unfold ckZ
    rw [if_pos (ih (by omega)), if_neg (by omega), if_neg (by omega)]
def m3 (j : Nat) : Int := 1 + (j : Int) % 3
def zs3 (n : Nat) : List Int := toL m3 n
theorem zs3_len (n : Nat) : (zs3 n).length = n := by simp [zs3, toL]
theorem zs3_lf (n j : Nat) (h : j < n) : lf (zs3 n) j = m3 j := lf_toL _ _ _ h
theorem m3_psum : ∀ n : Nat, psum m3 n = 6 * ((n / 3 : Nat) : Int) + (if n % 3 = 0 then 0 else if n % 3 = 1 then 1 else 3) := by
  intro n
  induction n with
  | zero => rfl
  | succ n ih =>
    rw [psum_succ, ih]
    unfold m3
    have h3 : n % 3 = 0 ∨ n % 3 = 1 ∨ n % 3 = 2 := by omega
    rcases h3 with h | h | h
    · rw [if_pos h, if_neg (by omega), if_pos (by omega)]; omega
    · rw [if_neg (by omega), if_pos h, if_neg (by omega), if_neg (by omega)]; omega
    · rw [if_neg (by omega), if_neg (by omega), if_pos (by omega)]; omega
theorem zs3_sum : (zs3 1024).sum = 2047 := by
  rw [← psum_lf_all, zs3_len, psum_congr (l' := m3) (fun j hj => zs3_lf 1024 j hj), m3_psum]
  rfl
/-- The rows when those below k have been looked at. -/
def rkf (k j : Nat) : Int × Bool := if j % 2 = 0 ∧ j < k then (7, true) else (m3 j, false)
def rk (k : Nat) : Rws := upR (rkf k) 1024
theorem rk_len (k : Nat) : (rk k).length = 1024 := upR_len _ _
theorem rk_rg (k : Nat) {j : Nat} (h : j < 1024) : rg (rk k) j = rkf k j := upR_rg _ h
theorem rk_kn (k : Nat) {j : Nat} (h : j < 1024) : kn (rk k) j = decide (j % 2 = 0 ∧ j < k) := by
  rw [← rg_snd, rk_rg k h]
  unfold rkf
  by_cases c : j % 2 = 0 ∧ j < k
  · rw [if_pos c, decide_eq_true c]
  · rw [if_neg c, decide_eq_false c]
theorem rk_zero : insR [] 0 (zs3 1024) false = rk 0 := by
  have e1 : insR [] 0 (zs3 1024) false = (zs3 1024).map (·, false) := by unfold insR; simp
  rw [e1]
  unfold zs3 toL rk upR
  rw [List.map_map]
  apply List.map_congr_left
  intro j _
  show (m3 j, false) = rkf 0 j
  unfold rkf
  rw [if_neg (by omega)]
theorem rk_set {k : Nat} (h : k < 1024) (he : k % 2 = 0) : setR (rk k) k 7 true = rk (k + 2) := by
  have hl : (setR (rk k) k 7 true).length = 1024 := by
    unfold setR; rw [List.length_append, List.length_cons, List.length_take, List.length_drop, rk_len]; omega
  refine rws_ext ?_ (fun j => ?_)
  · apply List.ext_getElem
    · rw [szs_len, szs_len, hl, rk_len]
    · intro j h1 h2
      rw [szs_len, hl] at h1
      have e1 := lf_get (szs (setR (rk k) k 7 true)) (j := j) (by rw [szs_len, hl]; exact h1)
      have e2 := lf_get (szs (rk (k + 2))) (j := j) (by rw [szs_len, rk_len]; exact h1)
      rw [← e1, ← e2, ← rg_fst _ (by rw [hl]; exact h1), ← rg_fst _ (by rw [rk_len]; exact h1), rk_rg _ h1]
      have e3 : rg (setR (rk k) k 7 true) j = if j = k then (7, true) else rg (rk k) j := by
        unfold setR
        rw [rg_app, List.length_take, rk_len, Nat.min_eq_left (by omega)]
        by_cases c : j < k
        · rw [if_pos c, if_neg (by omega)]
          unfold rg
          rw [List.getD_eq_getElem?_getD, List.getD_eq_getElem?_getD, List.getElem?_take_of_lt c]
        · rw [if_neg c]
          by_cases d : j = k
          · rw [if_pos d, d, Nat.sub_self]; rfl
          · rw [if_neg d]
            unfold rg
            rw [List.getD_eq_getElem?_getD, List.getD_eq_getElem?_getD, show j - k = (j - k - 1) + 1 from by omega, List.getElem?_cons_succ, List.getElem?_drop, show k + 1 + (j - k - 1) = j from by omega]
      rw [e3]
      by_cases d : j = k
      · rw [if_pos d]
        unfold rkf
        rw [if_pos (by omega)]
      · rw [if_neg d, rk_rg _ h1]
        unfold rkf
        by_cases c : j % 2 = 0 ∧ j < k
        · rw [if_pos c, if_pos (by omega)]
        · rw [if_neg c, if_neg (by omega)]
  · rw [kn_setR _ (by rw [rk_len]; exact h)]
    unfold markF
    by_cases hj : j < 1024
    · rw [rk_kn k hj, rk_kn (k + 2) hj]
      by_cases c : k ≤ j ∧ j < k + 1
      · rw [if_pos c, decide_eq_true (by omega)]
      · rw [if_neg c]
        by_cases d : j % 2 = 0 ∧ j < k
        · rw [decide_eq_true d, decide_eq_true (by omega)]
        · rw [decide_eq_false d, decide_eq_false (by omega)]
    · rw [if_neg (by omega), kn_out (by rw [rk_len]; omega), kn_out (by rw [rk_len]; omega)]
theorem rk_le (k : Nat) : ∀ x ∈ szs (rk k), 1 ≤ x ∧ x ≤ 7 := fun x hx => by
  unfold szs rk upR at hx
  rw [List.map_map] at hx
  obtain ⟨j, _, rfl⟩ := List.mem_map.1 hx
  show 1 ≤ (rkf k j).1 ∧ (rkf k j).1 ≤ 7
  unfold rkf
  by_cases c : j % 2 = 0 ∧ j < k
  · rw [if_pos c]; decide
  · rw [if_neg c]; show 1 ≤ m3 j ∧ m3 j ≤ 7; unfold m3; omega
theorem sum_le7 : ∀ {L : List Int}, (∀ x ∈ L, 1 ≤ x ∧ x ≤ 7) → L.sum ≤ 7 * (L.length : Int) := by
  intro L
  induction L with
  | nil => intro _; decide
  | cons x r ih =>
    intro h
    have h1 := ih (fun y hy => h y (List.mem_cons_of_mem _ hy))
    have h2 := (h x (List.mem_cons.2 (.inl rfl))).2
    rw [List.sum_cons, List.length_cons]
    omega
theorem rk_iset {k : Nat} (h : k < 1024) (he : k % 2 = 0) : isetErr (rk k) k 7 = 0 ∧ isetTo (rk k) k 7 true = rk (k + 2) := by
  have hs := sum_le7 (rk_le k)
  rw [szs_len, rk_len] at hs
  have hp := rk_le k (lf (szs (rk k)) k) (lf_mem _ (by rw [szs_len, rk_len]; exact h))
  have e : isetErr (rk k) k 7 = 0 := by
    unfold isetErr
    rw [if_neg (by rw [rk_len]; omega), if_neg (by omega), Int.toNat_natCast, if_neg (by omega)]
  refine ⟨e, ?_⟩
  unfold isetTo
  rw [if_pos e, Int.toNat_natCast, rk_set h he]
theorem iins_rk0 : iinsErr [] 0 (zs3 1024) = 0 ∧ iinsTo [] 0 (zs3 1024) false = rk 0 := by
  have e : iinsErr [] 0 (zs3 1024) = 0 := by
    unfold iinsErr
    rw [if_neg (by simp), if_neg (by rw [zs3_len]; simp), zs3_len, ckZ_good (n := 1024) (by omega) (fun j hj => by rw [zs3_lf _ _ hj]; unfold m3; omega) 1024 (Nat.le_refl _), zs3_sum]
    simp [szs]
  refine ⟨e, ?_⟩
  unfold iinsTo
  rw [if_pos e]
  exact rk_zero
theorem iins_long : iinsErr [] 0 (zs3 1025) = 3 := by
  unfold iinsErr
  rw [if_neg (by simp), if_pos (by rw [zs3_len]; simp)]
theorem iins_full (k : Nat) (x : Int) : iinsErr (rk k) 0 [x] = 3 := by
  unfold iinsErr
  rw [if_neg (by rw [rk_len]; omega), if_pos (by rw [rk_len]; simp)]
theorem iins_nil (k : Nat) : iinsErr (rk k) 1024 [] = 0 ∧ iinsTo (rk k) 1024 [] true = rk k := by
  have hs := sum_le7 (rk_le k)
  rw [szs_len, rk_len] at hs
  have e : iinsErr (rk k) 1024 [] = 0 := by
    unfold iinsErr
    rw [if_neg (by rw [rk_len]; omega), if_neg (by rw [rk_len]; simp)]
    show (if ckZ (lf []) 0 ≠ 0 then _ else if 4611686018427387904 - ([] : List Int).sum < (szs (rk k)).sum then 13 else 0) = 0
    rw [if_neg (by show ¬ (0 : Int) ≠ 0; simp), if_neg (by show ¬ 4611686018427387904 - (0 : Int) < _; omega)]
  refine ⟨e, ?_⟩
  unfold iinsTo
  rw [if_pos e]
  show insR (rk k) 1024 [] true = rk k
  unfold insR
  rw [List.map_nil, List.append_nil, List.take_append_drop]
theorem rk0_sum : (szs (rk 0)).sum = 2047 := by
  rw [← rk_zero, szs_insR]
  show (insL (szs []) 0 (zs3 1024)).sum = 2047
  unfold insL
  simp [szs, zs3_sum]
end Go.Proofs.Ytngbaiijdgmpoaa

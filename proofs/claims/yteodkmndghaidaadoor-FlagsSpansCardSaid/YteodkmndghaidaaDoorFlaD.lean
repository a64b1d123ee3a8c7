/-
  Flags: Select's refusals, Next.
-/
import Derived.Test.YteodkmndghaidaaDoorFlaC
namespace Go.Proofs.YteodkmndghaidaaDoor
open Go.RowKit
set_option linter.unusedVariables false
set_option linter.unusedSimpArgs false

set_option maxRecDepth 100000 in
set_option maxHeartbeats 1600000 in
theorem fSel_bad (w : World) (p : Nat) (l : List Bool) (h : Fl w p l) (k : Int) (fk : Fits k) (hk : k < 0 ∨ (cn l : Int) ≤ k) :
    Calls Tryd.prog 14 #[.pointer (some ⟨p, 0, none⟩), .int .i64 k] w fun e w' => e = .returned (.tuple #[.int .i64 0, .int .i64 11]) ∧ w = w' := by
  obtain ⟨c0, c1, cw, fz⟩ := h.cells
  have hn := h.len
  have hcn := cn_le l
  clear c0 cw fz h
  by_cases q : k < 0
  · clear hk
    go_enter Tryd.func14, Tryd.ntmps14
    go_wp2_with fail
    go_ret2
    exact ⟨rfl, rfl⟩
  · have q2 : (cn l : Int) ≤ k := by omega
    clear hk
    go_enter Tryd.func14, Tryd.ntmps14
    go_wp2_with fail
    go_ret2
    exact ⟨rfl, rfl⟩

/-- The word from a place on: nothing there, or the first place. -/
theorem next_word (l : List Bool) (v : Bool) (a X : Nat) (hX : ∀ j, j < 64 → X.testBit j = ((wd l (a / 64)).testBit j == v)) (hX2 : X < 18446744073709551616) :
    (X / 2 ^ (a % 64) = 0 ∧ ∀ j, a ≤ j → j < a + (64 - a % 64) → bt l j = !v) ∨
    (∃ t, t < 64 ∧ 0 < X / 2 ^ (a % 64) ∧ (X / 2 ^ (a % 64)).testBit t = true ∧ (∀ q, q < t → (X / 2 ^ (a % 64)).testBit q = false) ∧ bt l (a + t) = v ∧ ∀ j, a ≤ j → j < a + t → bt l j = !v) := by
  have hm : a % 64 < 64 := Nat.mod_lt _ (by omega)
  have hb : ∀ j, j < 64 - a % 64 → (X / 2 ^ (a % 64)).testBit j = (bt l (a + j) == v) := fun j hj => by
    rw [Nat.testBit_div_two_pow, hX _ (by omega), testBit_wd _ _ _ (by omega), show 64 * (a / 64) + (j + a % 64) = a + j from by omega]
  have hb2 : ∀ j, 64 - a % 64 ≤ j → (X / 2 ^ (a % 64)).testBit j = false := fun j hj => by
    rw [Nat.testBit_div_two_pow]
    exact Nat.testBit_lt_two_pow (Nat.lt_of_lt_of_le hX2 (show 2 ^ 64 ≤ 2 ^ (j + a % 64) from Nat.pow_le_pow_right (by omega) (by omega)))
  have hne : ∀ j, j < 64 - a % 64 → (X / 2 ^ (a % 64)).testBit j = false → bt l (a + j) = !v := fun j hj e => by
    rw [hb j hj] at e
    cases v <;> cases q : bt l (a + j) <;> simp_all
  rcases first_hit (X / 2 ^ (a % 64)).testBit 0 64 with h | ⟨t, _, h1, h2, h3⟩
  · left
    refine ⟨?_, fun j h1 h2 => ?_⟩
    · apply Nat.eq_of_testBit_eq
      intro j
      rw [Nat.zero_testBit]
      by_cases c : j < 64
      · exact h j (Nat.zero_le _) c
      · exact hb2 j (by omega)
    · have := hne (j - a) (by omega) (h _ (Nat.zero_le _) (by omega))
      rwa [show a + (j - a) = j from by omega] at this
  · right
    have ht : t < 64 - a % 64 := by
      rcases Nat.lt_or_ge t (64 - a % 64) with c | c
      · exact c
      · rw [hb2 t c] at h2; exact absurd h2 (by decide)
    refine ⟨t, h1, ?_, h2, fun q hq => h3 q (Nat.zero_le _) hq, ?_, fun j h4 h5 => ?_⟩
    · rcases Nat.eq_zero_or_pos (X / 2 ^ (a % 64)) with e | e
      · rw [e, Nat.zero_testBit] at h2; exact absurd h2 (by decide)
      · exact e
    · rw [hb t ht] at h2; exact eq_of_beq h2
    · have := hne (j - a) (by omega) (h3 _ (Nat.zero_le _) (by omega))
      rwa [show a + (j - a) = j from by omega] at this
/-- The word, or its complement. -/
def wdv (l : List Bool) (v : Bool) (k : Nat) : Nat := if v then wd l k else 18446744073709551615 - wd l k
theorem wdv_lt (l : List Bool) (v : Bool) (k : Nat) : wdv l v k < 18446744073709551616 := by
  have := wd_lt l k
  unfold wdv; split <;> omega
theorem wdv_bit (l : List Bool) (v : Bool) (k j : Nat) (hj : j < 64) : (wdv l v k).testBit j = ((wd l k).testBit j == v) := by
  unfold wdv
  cases v with
  | true => rw [if_pos rfl]; cases (wd l k).testBit j <;> rfl
  | false =>
    rw [if_neg (by decide), show 18446744073709551615 - wd l k = 2 ^ 64 - (wd l k + 1) from by have := wd_lt l k; omega, Nat.testBit_two_pow_sub_succ (wd_lt l k), decide_eq_true hj]
    cases (wd l k).testBit j <;> rfl
theorem comp_u64 (x : Nat) (hx : x < 18446744073709551616) : bits .xor .u64 IntKind.u64.max (x : Int) = ((18446744073709551615 - x : Nat) : Int) := by
  have a := bits_xor_u64 18446744073709551615 x (by decide) hx
  rw [show IntKind.u64.max = ((18446744073709551615 : Nat) : Int) from rfl, a]
  congr 1
  apply Nat.eq_of_testBit_eq
  intro j
  rw [Nat.testBit_xor, show 18446744073709551615 - x = 2 ^ 64 - (x + 1) from by omega, Nat.testBit_two_pow_sub_succ hx, show (18446744073709551615 : Nat) = 2 ^ 64 - 1 from rfl, Nat.testBit_two_pow_sub_one]
  by_cases c : j < 64
  · simp [c]
  · rw [Nat.testBit_lt_two_pow (Nat.lt_of_lt_of_le hx (show 2 ^ 64 ≤ 2 ^ j from Nat.pow_le_pow_right (by omega) (by omega)))]; simp [c]
theorem div_cast (X k : Nat) : (X : Int) / 2 ^ k = ((X / 2 ^ k : Nat) : Int) := by rw [Int.natCast_ediv, Int.natCast_pow]; rfl
set_option maxRecDepth 100000 in
set_option maxHeartbeats 3200000 in
theorem fNext_any (w : World) (p : Nat) (l : List Bool) (h : Fl w p l) (i : Nat) (hi : i ≤ l.length) (v : Bool) :
    Calls Tryd.prog 16 #[.pointer (some ⟨p, 0, none⟩), .int .i64 i, .bool v] w fun e w' => ((∃ t : Nat, e = .returned (.tuple #[.int .i64 t, .int .i64 0]) ∧ i ≤ t ∧ t < l.length ∧ bt l t = v ∧ ∀ j, i ≤ j → j < t → bt l j = !v) ∨ (e = .returned (.tuple #[.int .i64 0, .int .i64 11]) ∧ ∀ j, i ≤ j → j < l.length → bt l j = !v)) ∧ w = w' := by
  have hn := h.len
  have KC := Lib.hid (fcheck_any w p l h i 0 ⟨by omega, by omega⟩ ⟨by omega, by omega⟩)
  rw [flErr_0 (by omega)] at KC
  have HT := Lib.hid h.tab
  obtain ⟨c0, c1, cw, fz⟩ := h.cells
  have CW := Lib.hid cw
  obtain ⟨n, en⟩ : ∃ n, n = l.length := ⟨_, rfl⟩
  rw [← en] at hn hi c0 ⊢
  clear c1 cw fz h en
  go_enter Tryd.func16, Tryd.ntmps16
  go_wp2_with fail
  refine (KC.out).mono ?_
  rintro e w' ⟨rfl, rfl⟩
  go_wp2_with fail
  go_loopw [1] (fun i' wr => ∃ a : Nat, i ≤ a ∧ a ≤ 4200 ∧ i' = .int .i64 a ∧ Hid (∀ j, i ≤ j → j < a → j < n → bt l j = !v) ∧ Hid (w = wr)) (fun i' _ => n - (intOf i').toNat)
  case atStart => exact ⟨i, Nat.le_refl _, by omega, rfl, fun j h1 h2 _ => by omega, rfl⟩
  case round =>
    obtain ⟨a, ha, ha2, rfl, hf, hw⟩ := hrel
    have hwe := hw.out
    subst hwe
    clear hw
    by_cases hlt : a < n
    · have hc := CW.out (a / 64) (by omega)
      have hai : (a : Int) < (n : Int) := by omega
      have hm : a % 64 < 64 := Nat.mod_lt _ (by omega)
      have hxl := wd_lt l (a / 64)
      cases v with
      | true =>
        have hE : ((wdv l true (a / 64) : Nat) : Int) = (wd l (a / 64) : Int) := rfl
        have NW := Lib.hid (next_word l true a (wdv l true (a / 64)) (fun j hj => wdv_bit l true _ j hj) (wdv_lt _ _ _))
        have hX := wdv_lt l true (a / 64)
        have hD := div_cast (wdv l true (a / 64)) (a % 64)
        have hle : wdv l true (a / 64) / 2 ^ (a % 64) ≤ wdv l true (a / 64) := Nat.div_le_self _ _
        rw [hE] at hD
        obtain ⟨Y, eY⟩ : ∃ Y, Y = wdv l true (a / 64) / 2 ^ (a % 64) := ⟨_, rfl⟩
        rw [← eY] at NW hD hle
        have hY : Y < 18446744073709551616 := by omega
        clear eY hX hle
        rcases NW.out with ⟨h0, hno⟩ | ⟨t, ht, h0, h1, h2, h3, h4⟩
        · subst h0
          have HN := Lib.hid hno
          clear hno NW
          go_wp2_with fail
          go_roundw
          case rel => exact ⟨a + (64 - a % 64), by omega, by omega, by go_num, fun j h1 h2 h3 => by
            by_cases c : j < a
            · exact hf.out j h1 c h3
            · exact HN.out j (by omega) h2, by first | rfl | exact trivial⟩
          case measure => simp [intOf]; omega
        · have hb : (((Y : Nat) : Int) != 0) = true := by rw [bne_iff_ne]; omega
          have KT := Lib.hid (trail_any w HT.out Y t hY ht h1 h2)
          have H3 := Lib.hid h3
          have H4 := Lib.hid h4
          clear h1 h2 h3 h4 NW
          by_cases hin : a + t < n
          · have hin2 : (a : Int) + (t : Int) < (n : Int) := by omega
            go_wp2_with fail
            refine (KT.out).mono ?_
            rintro e w' ⟨rfl, rfl⟩
            go_wp2_with fail
            go_ret2
            refine ⟨.inl ⟨a + t, ret_int2 (by omega) rfl, by omega, hin, H3.out, fun j h1 h2 => ?_⟩, rfl⟩
            by_cases c : j < a
            · exact hf.out j h1 c (by omega)
            · exact H4.out j (by omega) h2
          · have hin2 : ¬ (a : Int) + (t : Int) < (n : Int) := by omega
            go_wp2_with fail
            refine (KT.out).mono ?_
            rintro e w' ⟨rfl, rfl⟩
            go_wp2_with fail
            go_ret2
            refine ⟨.inr ⟨rfl, fun j h1 h2 => ?_⟩, rfl⟩
            by_cases c : j < a
            · exact hf.out j h1 c h2
            · exact H4.out j (by omega) (by omega)
      | false =>
        have hC := comp_u64 (wd l (a / 64)) hxl
        have hE : bits .xor .u64 IntKind.u64.max (wd l (a / 64) : Int) = ((wdv l false (a / 64) : Nat) : Int) := by rw [hC]; rfl
        have hE2 : bits .xor .u64 (if IntKind.u64.signed = true then -1 else IntKind.u64.max) (wd l (a / 64) : Int) = ((wdv l false (a / 64) : Nat) : Int) := hE
        clear hC
        have NW := Lib.hid (next_word l false a (wdv l false (a / 64)) (fun j hj => wdv_bit l false _ j hj) (wdv_lt _ _ _))
        have hX := wdv_lt l false (a / 64)
        have hD := div_cast (wdv l false (a / 64)) (a % 64)
        have hle : wdv l false (a / 64) / 2 ^ (a % 64) ≤ wdv l false (a / 64) := Nat.div_le_self _ _
        generalize wdv l false (a / 64) = XX at hE hE2 hD NW hX hle
        obtain ⟨Y, eY⟩ : ∃ Y, Y = XX / 2 ^ (a % 64) := ⟨_, rfl⟩
        rw [← eY] at NW hD hle
        have hY : Y < 18446744073709551616 := by omega
        clear eY hX hle
        rcases NW.out with ⟨h0, hno⟩ | ⟨t, ht, h0, h1, h2, h3, h4⟩
        · subst h0
          have HN := Lib.hid hno
          clear hno NW
          go_wp2_with fail
          go_roundw
          case rel => exact ⟨a + (64 - a % 64), by omega, by omega, by go_num, fun j h1 h2 h3 => by
            by_cases c : j < a
            · exact hf.out j h1 c h3
            · exact HN.out j (by omega) h2, by first | rfl | exact trivial⟩
          case measure => simp [intOf]; omega
        · have hb : (((Y : Nat) : Int) != 0) = true := by rw [bne_iff_ne]; omega
          have KT := Lib.hid (trail_any w HT.out Y t hY ht h1 h2)
          have H3 := Lib.hid h3
          have H4 := Lib.hid h4
          clear h1 h2 h3 h4 NW
          by_cases hin : a + t < n
          · have hin2 : (a : Int) + (t : Int) < (n : Int) := by omega
            go_wp2_with fail
            refine (KT.out).mono ?_
            rintro e w' ⟨rfl, rfl⟩
            go_wp2_with fail
            go_ret2
            refine ⟨.inl ⟨a + t, ret_int2 (by omega) rfl, by omega, hin, H3.out, fun j h1 h2 => ?_⟩, rfl⟩
            by_cases c : j < a
            · exact hf.out j h1 c (by omega)
            · exact H4.out j (by omega) h2
          · have hin2 : ¬ (a : Int) + (t : Int) < (n : Int) := by omega
            go_wp2_with fail
            refine (KT.out).mono ?_
            rintro e w' ⟨rfl, rfl⟩
            go_wp2_with fail
            go_ret2
            refine ⟨.inr ⟨rfl, fun j h1 h2 => ?_⟩, rfl⟩
            by_cases c : j < a
            · exact hf.out j h1 c h2
            · exact H4.out j (by omega) (by omega)
    · have hai : ¬ (a : Int) < (n : Int) := by omega
      go_wp2_with fail
      go_ret2
      exact ⟨.inr ⟨rfl, fun j h1 h2 => hf.out j h1 (by omega) h2⟩, rfl⟩
theorem fNext_bad (w : World) (p : Nat) (l : List Bool) (h : Fl w p l) (i : Int) (fi : Fits i) (hi : i < 0 ∨ (l.length : Int) < i) (v : Bool) :
    Calls Tryd.prog 16 #[.pointer (some ⟨p, 0, none⟩), .int .i64 i, .bool v] w fun e w' => e = .returned (.tuple #[.int .i64 0, .int .i64 4]) ∧ w = w' := by
  have KC := Lib.hid (fcheck_any w p l h i 0 fi ⟨by omega, by omega⟩)
  rw [flErr_4 (by omega)] at KC
  clear h hi
  go_enter Tryd.func16, Tryd.ntmps16
  go_wp2_with fail
  refine (KC.out).mono ?_
  rintro e w' ⟨rfl, rfl⟩
  go_wp2_with fail
  go_ret2
  exact ⟨rfl, rfl⟩
end Go.Proofs.YteodkmndghaidaaDoor

/-
  FlagsKnown, walked.
-/
import Derived.Test.YteodkmndghaidaaDoorFlaOpen
namespace Go.Proofs.YteodkmndghaidaaDoor
open Go.RowKit
set_option linter.unusedVariables false
set_option linter.unusedSimpArgs false

theorem cnt_one (b : Nat → Bool) (t : Nat) : ∀ n, (∀ j, j < n → b j = decide (j = t)) → cnt b n = if t < n then 1 else 0
  | 0, _ => by rw [if_neg (show ¬ t < 0 by omega)]; rfl
  | n + 1, h => by
    rw [cnt_succ, cnt_one b t n (fun j hj => h j (by omega)), h n (by omega)]
    by_cases c : n = t
    · subst c; rw [if_neg (show ¬ n < n by omega), if_pos (show n < n + 1 by omega), decide_eq_true rfl]; rfl
    · rw [decide_eq_false c]
      by_cases d : t < n
      · rw [if_pos d, if_pos (show t < n + 1 by omega)]; rfl
      · rw [if_neg d, if_neg (show ¬ t < n + 1 by omega)]; rfl
/-- The lists of the closed statement. -/
theorem known_lists : ∃ l1 l2 l3 l4 l5 l6 : List Bool, l1 = (List.replicate 4096 false).set 4095 true ∧ l2 = l1.set 64 true ∧ l3 = fIns l2 0 0 true ∧ l4 = fMov l3 4095 1 0 ∧ l5 = fRem l4 1 4000 ∧ l6 = fIns l5 96 4000 true ∧
    l1.length = 4096 ∧ l2.length = 4096 ∧ l3.length = 4096 ∧ l4.length = 4096 ∧ l5.length = 96 ∧ l6.length = 4096 ∧
    bt l3 4095 = true ∧ cnt (bt l3) 4095 = 1 ∧ (∀ j, 65 ≤ j → j < 4095 → bt l3 j = !true) ∧ cn l5 = 1 ∧ bt l5 0 = true ∧ cn l6 = 4001 := by
  refine ⟨_, _, _, _, _, _, rfl, rfl, rfl, rfl, rfl, rfl, ?_⟩
  obtain ⟨l0, e0⟩ : ∃ l, l = List.replicate 4096 false := ⟨_, rfl⟩
  have h0 : l0.length = 4096 := by rw [e0, List.length_replicate]
  have b0 : ∀ j, bt l0 j = false := fun j => by rw [e0, bt_rep, Bool.and_false]
  rw [← e0]
  clear e0
  obtain ⟨l1, e1⟩ : ∃ l, l = l0.set 4095 true := ⟨_, rfl⟩
  have h1 : l1.length = 4096 := by rw [e1, List.length_set, h0]
  have b1 : ∀ j, bt l1 j = decide (j = 4095) := fun j => by
    rw [e1, bt_set (by omega), b0]
    by_cases c : j = 4095
    · rw [if_pos c, decide_eq_true c]
    · rw [if_neg c, decide_eq_false c]
  rw [← e1]
  clear e1
  obtain ⟨l2, e2⟩ : ∃ l, l = l1.set 64 true := ⟨_, rfl⟩
  have h2 : l2.length = 4096 := by rw [e2, List.length_set, h1]
  have b2 : ∀ j, bt l2 j = decide (j = 64 ∨ j = 4095) := fun j => by
    rw [e2, bt_set (by omega), b1]
    by_cases c : j = 64
    · rw [if_pos c, decide_eq_true (Or.inl c)]
    · rw [if_neg c]
      by_cases d : j = 4095
      · rw [decide_eq_true d, decide_eq_true (Or.inr d)]
      · rw [decide_eq_false d, decide_eq_false (fun h => h.elim c d)]
  rw [← e2]
  clear e2
  obtain ⟨l3, e3⟩ : ∃ l, l = fIns l2 0 0 true := ⟨_, rfl⟩
  have h3 : l3.length = 4096 := by rw [e3, fIns_len (Nat.zero_le _), h2]
  have b3 : ∀ j, bt l3 j = decide (j = 64 ∨ j = 4095) := fun j => by
    rw [e3, bt_fIns (Nat.zero_le _), if_neg (by omega), if_neg (by omega), b2, Nat.sub_zero]
  rw [← e3]
  clear e3
  obtain ⟨l4, e4⟩ : ∃ l, l = fMov l3 4095 1 0 := ⟨_, rfl⟩
  have h4 : l4.length = 4096 := by rw [e4, fMov_len (by omega) (by omega), h3]
  have b4 : ∀ j, j < 4096 → bt l4 j = decide (j = 0 ∨ j = 65) := fun j hj => by
    rw [e4, bt_fMov (by omega) (by omega), if_neg (by omega)]
    by_cases c : j = 0
    · subst c
      rw [if_pos (by omega), b3, decide_eq_true (by omega), decide_eq_true (by omega)]
    · rw [if_neg (by omega), bt_fRem (by omega), if_pos (by omega), b3]
      by_cases d : j = 65
      · rw [decide_eq_true (by omega), decide_eq_true (by omega)]
      · rw [decide_eq_false (by omega), decide_eq_false (by omega)]
  rw [← e4]
  clear e4
  obtain ⟨l5, e5⟩ : ∃ l, l = fRem l4 1 4000 := ⟨_, rfl⟩
  have h5 : l5.length = 96 := by rw [e5, fRem_len (by omega), h4]
  have b5 : ∀ j, j < 96 → bt l5 j = decide (j = 0) := fun j hj => by
    rw [e5, bt_fRem (by omega)]
    by_cases c : j = 0
    · subst c
      rw [if_pos (by omega), b4 _ (by omega), decide_eq_true (by omega), decide_eq_true rfl]
    · rw [if_neg (by omega), b4 _ (by omega), decide_eq_false (by omega), decide_eq_false c]
  rw [← e5]
  clear e5
  have c5 : cnt (bt l5) 96 = 1 := by rw [cnt_one (bt l5) 0 96 b5, if_pos (by omega)]
  obtain ⟨l6, e6⟩ : ∃ l, l = fIns l5 96 4000 true := ⟨_, rfl⟩
  have h6 : l6.length = 4096 := by rw [e6, fIns_len (by omega), h5]
  have c6 : cn l6 = 4001 := by
    unfold cn
    rw [h6, show 4096 = 96 + 4000 from rfl, cnt_add]
    have a1 : cnt (bt l6) 96 = 1 := by
      rw [← c5]
      exact cnt_congr fun j hj => by rw [e6, bt_fIns (by omega), if_pos hj]
    have a2 : cnt (fun j => bt l6 (96 + j)) 4000 = 4000 := by
      have : ∀ n, n ≤ 4000 → cnt (fun j => bt l6 (96 + j)) n = n := by
        intro n
        induction n with
        | zero => intro _; rfl
        | succ n ih =>
          intro hn
          rw [cnt_hit (by show bt l6 (96 + n) = true; rw [e6, bt_fIns (by omega), if_neg (by omega), if_pos (by omega)]), ih (by omega)]
      exact this 4000 (Nat.le_refl _)
    rw [a1, a2]
  rw [← e6]
  refine ⟨h1, h2, h3, h4, h5, h6, by rw [b3]; exact decide_eq_true (.inr rfl), ?_, fun j hj hk => ?_, ?_, by rw [b5 0 (by omega)]; rfl, c6⟩
  · rw [cnt_one (bt l3) 64 4095 (fun j hj => by
      rw [b3]
      by_cases c : j = 64
      · rw [decide_eq_true (Or.inl c), decide_eq_true c]
      · rw [decide_eq_false (by omega), decide_eq_false c]), if_pos (by omega)]
  · rw [b3, decide_eq_false (by omega)]; rfl
  · unfold cn; rw [h5]; exact c5

set_option maxRecDepth 100000 in
set_option maxHeartbeats 12800000 in
theorem law_known (w : World) (hT : Tab w) (h0 : 0 < w.heap.size) :
    Calls Tryd.prog 7 #[] w fun e w' => e = .returned (.bool true) ∧ Below w.heap.size w w' := by
  obtain ⟨l1, l2, l3, l4, l5, l6, e1, e2, e3, e4, e5, e6, n1, n2, n3, n4, n5, n6, b3, c3, g3, c5, b5, c6⟩ := known_lists
  have KN : Calls Tryd.prog 29 #[.int .i64 4096] w fun e w' => ∃ p, e = .returned (.tuple #[.pointer (some ⟨p, 0, none⟩), .int .i64 0]) ∧ Fl w' p (List.replicate 4096 false) ∧ w.heap.size ≤ p ∧ Below w.heap.size w w' := fnew_any w hT h0 4096 (Nat.le_refl _)
  have n0 : (List.replicate 4096 false).length = 4096 := List.length_replicate
  obtain ⟨l0, e0⟩ : ∃ l, l = List.replicate 4096 false := ⟨_, rfl⟩
  rw [← e0] at KN e1 n0
  have KN := Lib.hid KN
  have H0 := Lib.hid h0
  have E1 := Lib.hid e1
  have E2 := Lib.hid e2
  have E3 := Lib.hid e3
  have E4 := Lib.hid e4
  have E5 := Lib.hid e5
  have E6 := Lib.hid e6
  have N0 := Lib.hid n0
  have N1 := Lib.hid n1
  have N2 := Lib.hid n2
  have N3 := Lib.hid n3
  have N4 := Lib.hid n4
  have N5 := Lib.hid n5
  have N6 := Lib.hid n6
  have B3 := Lib.hid b3
  have C3 := Lib.hid c3
  have G3 := Lib.hid g3
  have C5 := Lib.hid c5
  have B5 := Lib.hid b5
  have C6 := Lib.hid c6
  clear hT h0 e0 e1 e2 e3 e4 e5 e6 n0 n1 n2 n3 n4 n5 n6 b3 c3 g3 c5 b5 c6
  go_enter Tryd.func7, Tryd.ntmps7
  go_wp2_with fail
  refine (KN.out).mono ?_
  rintro e w1 ⟨p, rfl, f1, f2, f3⟩
  have X1 : Hid (FX w w1 [(p, l0)]) := FX.add (FX.start f3) f1 f2
  have K1 : Hid (Calls Tryd.prog 19 #[.pointer (some ⟨p, 0, none⟩), .int .i64 4095, .bool true] w1 fun e w' => e = .returned (.int .i64 0) ∧ Fl w' p l1 ∧ Fr (fun b => b = p) w1 w') := by
    have := fSet_ok w1 p l0 f1 4095 (by rw [N0.out]; omega) true
    rw [← E1.out] at this
    exact this
  clear f1 f2 f3 KN
  go_wp2_with fail
  refine (K1.out).mono ?_
  rintro e w2 ⟨rfl, k1, k2⟩
  have X2 : Hid (FX w w2 [(p, l1)]) := X1.out.put (ps' := []) (.head _) k1 k2 (fun v hv => nomatch hv)
  have K2 : Hid (Calls Tryd.prog 19 #[.pointer (some ⟨p, 0, none⟩), .int .i64 64, .bool true] w2 fun e w' => e = .returned (.int .i64 0) ∧ Fl w' p l2 ∧ Fr (fun b => b = p) w2 w') := by
    have := fSet_ok w2 p l1 k1 64 (by rw [N1.out]; omega) true
    rw [← E2.out] at this
    exact this
  clear k1 k2 K1 X1
  go_wp2_with fail
  refine (K2.out).mono ?_
  rintro e w3 ⟨rfl, k1, k2⟩
  have X3 : Hid (FX w w3 [(p, l2)]) := X2.out.put (ps' := []) (.head _) k1 k2 (fun v hv => nomatch hv)
  have hE : fInsErr l2 0 1 = 3 := by unfold fInsErr; rw [N2.out, if_neg (by omega), if_pos (by omega)]
  have K3 := fins_bad w3 p l2 k1 0 1 true ⟨by decide, by decide⟩ ⟨by decide, by decide⟩ (by rw [hE]; decide)
  rw [hE] at K3
  have K3 := Lib.hid K3
  have K4 : Hid (Calls Tryd.prog 22 #[.pointer (some ⟨p, 0, none⟩), .int .i64 0, .int .i64 0, .bool true] w3 fun e w' => e = .returned (.int .i64 0) ∧ Fl w' p l3 ∧ Fr (fun b => b = p) w3 w') := by
    have := fins_ok w3 p l2 k1 0 0 true (Nat.zero_le _) (by rw [N2.out]; omega)
    rw [← E3.out] at this
    exact this
  clear k1 k2 K2 X2 hE
  go_wp2_with fail
  refine (K3.out).mono ?_
  rintro e w' ⟨rfl, rfl⟩
  go_wp2_with fail
  refine (K4.out).mono ?_
  rintro e w4 ⟨rfl, k1, k2⟩
  have X4 : Hid (FX w w4 [(p, l3)]) := X3.out.put (ps' := []) (.head _) k1 k2 (fun v hv => nomatch hv)
  have hE : fInsErr l3 4097 1 = 4 := by unfold fInsErr; rw [N3.out, if_pos (by omega)]
  have K5 := fins_bad w4 p l3 k1 4097 1 true ⟨by decide, by decide⟩ ⟨by decide, by decide⟩ (by rw [hE]; decide)
  rw [hE] at K5
  have K5 := Lib.hid K5
  have hE : fInsErr l3 0 9223372036854775807 = 3 := by unfold fInsErr; rw [N3.out, if_neg (by omega), if_pos (by omega)]
  have K6 := fins_bad w4 p l3 k1 0 9223372036854775807 true ⟨by decide, by decide⟩ ⟨by decide, by decide⟩ (by rw [hE]; decide)
  rw [hE] at K6
  have K6 := Lib.hid K6
  have K7 : Hid (Calls Tryd.prog 14 #[.pointer (some ⟨p, 0, none⟩), .int .i64 1] w4 fun e w' => e = .returned (.tuple #[.int .i64 4095, .int .i64 0]) ∧ w4 = w') := by
    have := fSel_ok w4 p l3 k1 4095 B3.out
    rw [C3.out] at this
    exact this
  have K8 : Hid (Calls Tryd.prog 16 #[.pointer (some ⟨p, 0, none⟩), .int .i64 65, .bool true] w4 fun e w' => e = .returned (.tuple #[.int .i64 4095, .int .i64 0]) ∧ w4 = w') :=
    fNext_yes w4 p l3 k1 65 4095 true (by omega) (by rw [N3.out]; omega) B3.out G3.out
  have K9 : Hid (Calls Tryd.prog 12 #[.pointer (some ⟨p, 0, none⟩), .int .i64 4095] w4 fun e w' => e = .returned (.tuple #[.int .i64 1, .int .i64 0]) ∧ w4 = w') := by
    have := fRank_ok w4 p l3 k1 4095 (by rw [N3.out]; omega)
    rw [C3.out] at this
    exact this
  have K10 : Hid (Calls Tryd.prog 16 #[.pointer (some ⟨p, 0, none⟩), .int .i64 4095, .bool false] w4 fun e w' => e = .returned (.tuple #[.int .i64 0, .int .i64 11]) ∧ w4 = w') :=
    fNext_no w4 p l3 k1 4095 false (by rw [N3.out]; omega) (fun j a b => by
      rw [N3.out] at b
      rw [show j = 4095 from by omega]
      exact B3.out)
  have K11 : Hid (Calls Tryd.prog 26 #[.pointer (some ⟨p, 0, none⟩), .int .i64 4095, .int .i64 1, .int .i64 0] w4 fun e w' => e = .returned (.int .i64 0) ∧ Fl w' p l4 ∧ Fr (fun b => b = p) w4 w') := by
    have := fmov_ok w4 p l3 k1 4095 1 0 (by rw [N3.out]; omega) (Nat.zero_le _)
    rw [← E4.out] at this
    exact this
  clear k1 k2 K3 K4 X3 hE
  go_wp2_with fail
  refine (K5.out).mono ?_
  rintro e w' ⟨rfl, rfl⟩
  go_wp2_with fail
  refine (K6.out).mono ?_
  rintro e w' ⟨rfl, rfl⟩
  go_wp2_with fail
  refine (K7.out).mono ?_
  rintro e w' ⟨rfl, rfl⟩
  go_wp2_with fail
  refine (K8.out).mono ?_
  rintro e w' ⟨rfl, rfl⟩
  go_wp2_with fail
  refine (K9.out).mono ?_
  rintro e w' ⟨rfl, rfl⟩
  go_wp2_with fail
  refine (K10.out).mono ?_
  rintro e w' ⟨rfl, rfl⟩
  go_wp2_with fail
  clear K5 K6 K7 K8 K9 K10
  refine (K11.out).mono ?_
  rintro e w5 ⟨rfl, k1, k2⟩
  have X5 : Hid (FX w w5 [(p, l4)]) := X4.out.put (ps' := []) (.head _) k1 k2 (fun v hv => nomatch hv)
  have K1 : Hid (Calls Tryd.prog 24 #[.pointer (some ⟨p, 0, none⟩), .int .i64 1, .int .i64 4000] w5 fun e w' => e = .returned (.int .i64 0) ∧ Fl w' p l5 ∧ Fr (fun b => b = p) w5 w') := by
    have := frem_ok w5 p l4 k1 1 4000 (by rw [N4.out]; omega)
    rw [← E5.out] at this
    exact this
  clear k1 k2 K11 X4
  go_wp2_with fail
  refine (K1.out).mono ?_
  rintro e w6 ⟨rfl, k1, k2⟩
  have X6 : Hid (FX w w6 [(p, l5)]) := X5.out.put (ps' := []) (.head _) k1 k2 (fun v hv => nomatch hv)
  have K2 : Hid (Calls Tryd.prog 27 #[.pointer (some ⟨p, 0, none⟩)] w6 fun e w' => e = .returned (.int .i64 96) ∧ w6 = w') := by
    have := flen_any w6 p l5 k1
    rw [N5.out] at this
    exact this
  have K3 : Hid (Calls Tryd.prog 15 #[.pointer (some ⟨p, 0, none⟩)] w6 fun e w' => e = .returned (.int .i64 1) ∧ w6 = w') := by
    have := fcount_any w6 p l5 k1
    rw [C5.out] at this
    exact this
  have K4 := Lib.hid (frem_bad w6 p l5 k1 0 9223372036854775807 ⟨by decide, by decide⟩ ⟨by decide, by decide⟩ (by unfold fRemErr; rw [N5.out, if_pos (by omega)]))
  have K5 : Hid (Calls Tryd.prog 18 #[.pointer (some ⟨p, 0, none⟩), .int .i64 0] w6 fun e w' => e = .returned (.tuple #[.bool true, .int .i64 0]) ∧ w6 = w') := by
    have := fGet_ok w6 p l5 k1 0 (by rw [N5.out]; omega)
    rw [B5.out] at this
    exact this
  have K6 : Hid (Calls Tryd.prog 22 #[.pointer (some ⟨p, 0, none⟩), .int .i64 96, .int .i64 4000, .bool true] w6 fun e w' => e = .returned (.int .i64 0) ∧ Fl w' p l6 ∧ Fr (fun b => b = p) w6 w') := by
    have := fins_ok w6 p l5 k1 96 4000 true (by rw [N5.out]; omega) (by rw [N5.out]; omega)
    rw [← E6.out] at this
    exact this
  clear k1 k2 K1 X5
  go_wp2_with fail
  refine (K2.out).mono ?_
  rintro e w' ⟨rfl, rfl⟩
  go_wp2_with fail
  refine (K3.out).mono ?_
  rintro e w' ⟨rfl, rfl⟩
  go_wp2_with fail
  refine (K4.out).mono ?_
  rintro e w' ⟨rfl, rfl⟩
  go_wp2_with fail
  refine (K5.out).mono ?_
  rintro e w' ⟨rfl, rfl⟩
  go_wp2_with fail
  clear K2 K3 K4 K5
  refine (K6.out).mono ?_
  rintro e w7 ⟨rfl, k1, k2⟩
  have X7 : Hid (FX w w7 [(p, l6)]) := X6.out.put (ps' := []) (.head _) k1 k2 (fun v hv => nomatch hv)
  have K1 : Hid (Calls Tryd.prog 15 #[.pointer (some ⟨p, 0, none⟩)] w7 fun e w' => e = .returned (.int .i64 4001) ∧ w7 = w') := by
    have := fcount_any w7 p l6 k1
    rw [C6.out] at this
    exact this
  have K2 : Hid (Calls Tryd.prog 27 #[.pointer (some ⟨p, 0, none⟩)] w7 fun e w' => e = .returned (.int .i64 4096) ∧ w7 = w') := by
    have := flen_any w7 p l6 k1
    rw [N6.out] at this
    exact this
  have KL := Lib.hid (lives_yes w7 (X7.out.get (.head _)).tab (Nat.lt_of_lt_of_le H0.out X7.out.bl.size))
  clear k1 k2 K6 X6
  go_wp2_with fail
  refine (K1.out).mono ?_
  rintro e w' ⟨rfl, rfl⟩
  go_wp2_with fail
  refine (K2.out).mono ?_
  rintro e w' ⟨rfl, rfl⟩
  go_wp2_with fail
  refine (KL.out).mono ?_
  rintro e w8 ⟨rfl, b8⟩
  have B8' := Lib.hid (X7.out.below b8).bl
  clear b8 KL X7 K1 K2
  go_wp2_with fail
  go_ret
  exact ⟨rfl, B8'.out⟩
end Go.Proofs.YteodkmndghaidaaDoor

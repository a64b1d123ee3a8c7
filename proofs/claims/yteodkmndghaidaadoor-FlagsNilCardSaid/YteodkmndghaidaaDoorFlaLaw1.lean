/-
  FlagsNil and FlagsKnown, walked.
-/
import Derived.Test.YteodkmndghaidaaDoorFlaL
namespace Go.Proofs.YteodkmndghaidaaDoor
open Go.RowKit
set_option linter.unusedVariables false
set_option linter.unusedSimpArgs false

theorem zc_flc (j : Nat) (hj : j < 66) : Tryd.zeroCells56[j]? = some (flc (List.replicate 0 false) j) := by
  rw [zc_at j hj, flc_rep]
  by_cases c : j = 0
  · subst c; rfl
  · by_cases d : j = 1
    · subst d; rfl
    · rw [if_neg (by omega), if_neg c, if_neg d]
set_option maxRecDepth 100000 in
set_option maxHeartbeats 12800000 in
theorem law_nil (i k : Int) (w : World) (fi : Fits i) (fk : Fits k) (hT : Tab w) (h0 : 0 < w.heap.size) :
    Calls Tryd.prog 6 #[.int .i64 i, .int .i64 k] w fun e w' => e = .returned (.bool true) ∧ Below w.heap.size w w' := by
  have K1 := Lib.hid (nGet w i)
  have K2 := Lib.hid (nRank w i)
  have K3 := Lib.hid (nSel w i)
  have K4 := Lib.hid (nNext w i true)
  have K5 := Lib.hid (nSet w i true)
  have K6 := Lib.hid (nIns w i k true)
  have K7 := Lib.hid (nRem w i k)
  have K8 := Lib.hid (nMov w i k 0)
  have K9 := Lib.hid (flen_nil w)
  have K10 := Lib.hid (fcount_nil w)
  have K11 := Lib.hid (nSpans w)
  have K12 := Lib.hid (fcopy_nil w)
  have X0 : Hid (FX w (w.alloc (.cells Tryd.zeroCells56 56)) [(w.heap.size, List.replicate 0 false)]) :=
    ((FX.start (Below.refl _ w)).alloc _).add (Fl.alloc' w hT h0 _ (by decide) _ zc_size zc_flc) (Nat.le_refl _)
  have HT := Lib.hid hT
  have H0 := Lib.hid h0
  clear hT h0
  go_enter Tryd.func6, Tryd.ntmps6
  go_wp2_with fail
  refine (K1.out).mono ?_
  rintro e w' ⟨rfl, rfl⟩
  go_wp2_with fail
  refine (K2.out).mono ?_
  rintro e w' ⟨rfl, rfl⟩
  go_wp2_with fail
  refine (K3.out).mono ?_
  rintro e w' ⟨rfl, rfl⟩
  go_wp2_with fail
  refine (K4.out).mono ?_
  rintro e w' ⟨rfl, rfl⟩
  go_wp2_with fail
  refine (K5.out).mono ?_
  rintro e w' ⟨rfl, rfl⟩
  go_wp2_with fail
  refine (K6.out).mono ?_
  rintro e w' ⟨rfl, rfl⟩
  go_wp2_with fail
  refine (K7.out).mono ?_
  rintro e w' ⟨rfl, rfl⟩
  go_wp2_with fail
  refine (K8.out).mono ?_
  rintro e w' ⟨rfl, rfl⟩
  go_wp2_with fail
  refine (K9.out).mono ?_
  rintro e w' ⟨rfl, rfl⟩
  go_wp2_with fail
  refine (K10.out).mono ?_
  rintro e w' ⟨rfl, rfl⟩
  go_wp2_with fail
  refine (K11.out).mono ?_
  rintro e w' ⟨rfl, rfl⟩
  go_wp2_with fail
  refine (K12.out).mono ?_
  rintro e w' ⟨rfl, rfl⟩
  go_wp2_with fail
  clear K1 K2 K3 K4 K5 K6 K7 K8 K9 K10 K11 K12
  obtain ⟨p, ep⟩ : ∃ p, p = w.heap.size := ⟨_, rfl⟩
  rw [← ep] at X0 ⊢
  obtain ⟨w1, e1⟩ : ∃ w1, w1 = w.alloc (.cells Tryd.zeroCells56 56) := ⟨_, rfl⟩
  rw [← e1] at X0 ⊢
  clear ep e1
  have G1 := Lib.hid (fGet_bad w1 p _ (X0.out.get (.head _)) 0 ⟨by decide, by decide⟩ (.inr (by decide)))
  have G2 : Hid (Calls Tryd.prog 12 #[.pointer (some ⟨p, 0, none⟩), .int .i64 0] w1 fun e w' => e = .returned (.tuple #[.int .i64 0, .int .i64 0]) ∧ w1 = w') := fRank_ok w1 p _ (X0.out.get (.head _)) 0 (by decide)
  have G3 := Lib.hid (fins_ok w1 p _ (X0.out.get (.head _)) 0 3 true (by decide) (by decide))
  refine (G1.out).mono ?_
  rintro e w' ⟨rfl, rfl⟩
  go_wp2_with fail
  refine (G2.out).mono ?_
  rintro e w' ⟨rfl, rfl⟩
  go_wp2_with fail
  refine (G3.out).mono ?_
  rintro e w2 ⟨rfl, k1, k2⟩
  have X2 : Hid (FX w w2 [(p, fIns (List.replicate 0 false) 0 3 true)]) := X0.out.put (ps' := []) (.head _) k1 k2 (fun v hv => nomatch hv)
  have G4 : Hid (Calls Tryd.prog 15 #[.pointer (some ⟨p, 0, none⟩)] w2 fun e w' => e = .returned (.int .i64 3) ∧ w2 = w') := fcount_any w2 p _ (X2.out.get (.head _))
  clear k1 k2 G1 G2 G3 X0
  go_wp2_with fail
  refine (G4.out).mono ?_
  rintro e w' ⟨rfl, rfl⟩
  go_wp2_with fail
  have KL := Lib.hid (lives_yes w2 (X2.out.get (.head _)).tab (Nat.lt_of_lt_of_le H0.out X2.out.bl.size))
  refine (KL.out).mono ?_
  rintro e w3 ⟨rfl, b3⟩
  have B3 := Lib.hid (X2.out.below b3).bl
  clear b3 KL X2 G4
  go_wp2_with fail
  go_ret
  exact ⟨rfl, B3.out⟩
end Go.Proofs.YteodkmndghaidaaDoor

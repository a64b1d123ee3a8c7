/-
  The reference of layer 1: Marks.
-/
import Derived.Test.YtglgkbocmnkokaaSpaR
import Derived.Test.YtglgkbocmnkokaaHeld
namespace Go.Proofs.Ytglgkbocmnkokaa
open Go.RowKit
set_option linter.unusedVariables false
set_option linter.unusedSimpArgs false

set_option maxRecDepth 100000 in
set_option maxHeartbeats 1600000 in
theorem refMarks_any (w : World) (B : Nat) (A : Option Addr) (c : Nat) (L : Sp) (t : Nat) (m : Nat → Bool) (hm : ∀ i : Nat, m i = anyS L i) (h : SeesP w B A L) (hB : B ≤ w.heap.size) (hn : L.length ≤ 100000) (ht : t ≤ 100000) :
    Calls Try.prog 24 #[.slice A L.length c, .int .i64 t] w fun e w' => ∃ A' c', e = .returned (.slice A' t c') ∧ OwnB w' w.heap.size t c' A' m ∧ Below w.heap.size w w' ∧ c' ≤ maxLen := by
  have HS := Lib.hid (h.more hB)
  have HM := Lib.hid hm
  obtain ⟨n, en⟩ : ∃ n, n = L.length := ⟨_, rfl⟩
  have EN := Lib.hid en
  rw [← en] at hn ⊢
  clear h en hm
  go_enter Try.func24, Try.ntmps24
  go_wp2_with fail
  go_loopw [5, 6] (fun o i wr => ∃ (k : Nat) (Ao : Option Addr) (co : Nat), k ≤ t ∧ o = .slice Ao k co ∧ i = .int .i64 k ∧ Hid (OwnB wr w.heap.size k co Ao m) ∧ Hid (Below w.heap.size w wr) ∧ Hid (co ≤ maxLen)) (fun _ i _ => t - (intOf i).toNat)
  case atStart => exact ⟨0, none, 0, Nat.zero_le _, rfl, rfl, Own.nil _ _ _ _ _, Below.refl _ _, Nat.zero_le _⟩
  case round =>
    obtain ⟨k, Ao, co, hk, rfl, rfl, hO, hD, hcm⟩ := hrel
    by_cases hlt : k < t
    · have K := Lib.hid (refHas_any wr w.heap.size A c L (k : Int) (HS.out.below hD.out) (by rw [← EN.out]; omega))
      rw [← EN.out, ← HM.out] at K
      obtain ⟨b, eb⟩ : ∃ b, b = m k := ⟨_, rfl⟩
      rw [← eb] at K
      obtain ⟨A2, c2, w2, run, O2, fr, _, mx⟩ := pushB wr w.heap.size hO.out hD.out.size b eb.symm (by omega)
      have D2 : Hid (Below w.heap.size w w2) := hD.out.trans (fr.below hD.out.size fun b hb => (hO.out.blk b hb).1)
      have RUN := Lib.hid run
      have O3 := Lib.hid O2
      have MX := Lib.hid (mx hcm.out)
      have hki : (k : Int) < (t : Int) := by omega
      clear run O2 fr mx eb hO hD hcm
      go_wp2_with fail
      refine (K.out).mono ?_
      rintro e w' ⟨rfl, rfl⟩
      go_wp2_with (at_builtin; refine Hid.out ?_)
      refine Lib.hid (Lib.wpList_append_run _ rfl _ _ _ _ rfl _ _ rfl rfl _ _ (RUN.out _) ?_)
      go_wp2_with fail
      go_roundw
      case rel => exact ⟨k + 1, A2, c2, by omega, rfl, by go_num, O3, D2, MX⟩
      case measure => simp [intOf]; omega
    · obtain rfl : k = t := by omega
      go_wp2_with fail
      go_ret
      exact ⟨Ao, co, rfl, hO.out, hD.out, hcm.out⟩
end Go.Proofs.Ytglgkbocmnkokaa

/-
  SpansKnown: the contracts of its calls.
-/
import Derived.Test.YtglgkbocmnkokaaSpaKo
import Derived.Test.YtglgkbocmnkokaaSpaLaw1
import Derived.Test.YtglgkbocmnkokaaSpaLaw2
import Derived.Test.YtglgkbocmnkokaaSliceL
import Derived.BigQuiet
namespace Go.Proofs.Ytglgkbocmnkokaa
open Go.RowKit
set_option linter.unusedVariables false
set_option linter.unusedSimpArgs false

theorem seesP_pre {w : World} {B : Nat} {A : Option Addr} {o : Int} {n k : Nat} (h : SeesP w B A (fr4 o n)) (hk : k ≤ n) : SeesP w B A (fr4 o k) := by
  have e : SeesP w B A (fr4 o k) ↔ Sees w B A (k * 2) (spf (fr4 o k)) := by unfold SeesP; rw [fr4_len]
  have e2 : SeesP w B A (fr4 o n) ↔ Sees w B A (n * 2) (spf (fr4 o n)) := by unfold SeesP; rw [fr4_len]
  rw [e]
  rw [e2] at h
  intro h0
  obtain ⟨b, q, h1, h2, h3⟩ := h (by omega)
  refine ⟨b, q, h1, h2, fun j hj => ?_⟩
  rw [h3 j (by omega)]
  have hd := Nat.div_add_mod j 2
  have hm := Nat.mod_lt j (show 0 < 2 by decide)
  have : sg (fr4 o n) (j / 2) = sg (fr4 o k) (j / 2) := by
    rw [← fr4_take o hk]
    unfold sg
    rw [List.getD_eq_getElem?_getD, List.getD_eq_getElem?_getD, List.getElem?_take_of_lt (by omega)]
  unfold spf
  rw [this]
theorem slP_h (A : Option Addr) (n c hi : Nat) (h2 : hi ≤ c) : ∀ wx, (Instr.sliceAt 22 (.slice A n c) none (some (.int .i64 hi)) none).run Try.prog wx = .ok (.slice A hi c) wx :=
  slice_h Try.underlying22 infoSp1 A n c hi h2
theorem infoI1 : (Try.prog.info? 3).map (·.size) = some 1 := by kernel_rfl
theorem slI_h (A : Option Addr) (n c hi : Nat) (h2 : hi ≤ c) : ∀ wx, (Instr.sliceAt 34 (.slice A n c) none (some (.int .i64 hi)) none).run Try.prog wx = .ok (.slice A hi c) wx :=
  slice_h Try.underlying34 infoI1 A n c hi h2
/-- Union of two sets of every fourth place. -/
theorem un4_any (w : World) (A A2 : Option Addr) (c c2 k n : Nat) (h : SeesP w w.heap.size A (fr4 0 k)) (h2 : SeesP w w.heap.size A2 (fr4 2 n)) (hk : k ≤ 4096) (hn : n ≤ 4096) :
    Calls Try.prog 20 #[.slice A k c, .slice A2 n c2] w fun e w' => ∃ U, SPost w (dS U) (dE U) e w' ∧ U.length = k + n := by
  have f1 := fr4_nf 0 (by omega) k (by omega)
  have f2 := fr4_nf 2 (by omega) n (by omega)
  have K := union_any w A A2 c c2 _ _ (fr4 0 k) (fr4 2 n) h h2 (Nat.le_refl _) (Nat.le_refl _) (NF.fits f1.1) (NF.fits f2.1) (by rw [fr4_len]; omega) (by rw [fr4_len]; omega)
  rw [fr4_len, fr4_len] at K
  refine K.mono ?_
  rintro e w' (⟨_, _, R, hR, hS⟩ | ⟨hx, _⟩)
  · exact ⟨R, hS, fr4_union (by omega) rfl (by omega) (by omega) hR⟩
  · rw [if_pos (chkS_zero.2 ⟨f1.1, by rw [fr4_len]; omega⟩)] at hx
    exact absurd (chkS_zero.2 ⟨f2.1, by rw [fr4_len]; omega⟩) hx
/-- Of, of every fourth place. -/
theorem of4_any (w : World) (A : Option Addr) (c k : Nat) (h : Sees w w.heap.size A k pl4) (hk : k ≤ 5000) :
    Calls Try.prog 16 #[.slice A k c] w fun e w' => ∃ U, SPost w (dS U) (dE U) e w' ∧ U.length = k := by
  have hI : IntsAt w.heap.size w (.slice A (zs (fun j => 4 * (j : Int)) k).length c) (zs (fun j => 4 * (j : Int)) k) := by
    rw [zs_len]
    cases k with
    | zero => exact .inl ⟨⟨_, _, rfl⟩, rfl⟩
    | succ k =>
      obtain ⟨b, o, rfl, h2, h3⟩ := h (by omega)
      exact .inr ⟨b, o, c, by rw [zs_len], h2, fun j hj => by rw [zs_len] at hj; rw [zs_at _ _ hj]; exact h3 j hj⟩
  have K := sof_any w A c (zs (fun j => 4 * (j : Int)) k) hI (by rw [zs_len]; omega) (fun x hx => by
    obtain ⟨j, hj, rfl⟩ := (zs_mem _ _ _).1 hx
    constructor <;> omega)
  rw [zs_len] at K
  refine K.mono ?_
  rintro e w' (⟨⟨x, hx, hb⟩, _⟩ | ⟨_, R, hR, hme, hS⟩)
  · exfalso
    obtain ⟨j, hj, rfl⟩ := (zs_mem _ _ _).1 hx
    omega
  · refine ⟨R, hS, ?_⟩
    have f := fr4_nf 0 (by omega) k (by omega)
    have e : R = fr4 0 k := NFfrom.unique hR f.1 fun i => by
      rw [hme, zs_mem, fr4_mem]
      constructor
      · rintro ⟨j, hj, rfl⟩; exact ⟨j, hj, by omega⟩
      · rintro ⟨j, hj, rfl⟩; exact ⟨j, hj, by omega⟩
    rw [e, fr4_len]
theorem dSE_big {U : Sp} (h : 4096 < U.length) : dS U = [] ∧ dE U = 3 := by
  unfold dS dE
  rw [if_pos h, if_pos h]
  exact ⟨rfl, rfl⟩
end Go.Proofs.Ytglgkbocmnkokaa

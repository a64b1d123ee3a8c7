/-
  The walk of the law RopesOf.
-/
import Derived.Test.YtafgdknfhchnpaaRopLives
namespace Go.Proofs.Ytafgdknfhchnpaa
open Go.RowKit
set_option linter.unusedVariables false
set_option linter.unusedSimpArgs false

theorem toL_len (l : Nat → Int) (n : Nat) : (toL l n).length = n := by simp [toL]
theorem sees_congr {w : World} {B : Nat} {A : Option Addr} {n : Nat} {f g : Nat → Value} (h : Sees w B A n f) (k : ∀ j, j < n → f j = g j) : Sees w B A n g := by
  intro hn
  obtain ⟨b, o, h1, h2, h3⟩ := h hn
  exact ⟨b, o, h1, h2, fun j hj => by rw [h3 j hj, k j hj]⟩
theorem seesL_of {w : World} {B : Nat} {A : Option Addr} {n : Nat} {l : Nat → Int} (h : Sees w B A n (i64s l)) : SeesL w B A (toL l n) := by
  unfold SeesL
  rw [toL_len]
  exact sees_congr h fun j hj => by rw [i64s_at, i64s_at, lf_toL _ _ _ hj]
theorem seesL_nil (w : World) (B : Nat) : SeesL w B none [] := fun h => absurd h (by decide)

set_option maxRecDepth 100000 in
set_option maxHeartbeats 3200000 in
theorem law_of (A : Option Addr) (n c : Nat) (l : Nat → Int) (w : World) (hs : Sees w w.heap.size A n (i64s l)) (hf : ∀ k, Fits (l k)) (hnc : n ≤ c) (hc : c ≤ maxLen) :
    Calls Try.prog 3 #[.slice A n c] w fun e w' => e = .returned (.bool true) ∧ Below w.heap.size w w' := by
  by_cases hbig : 100 < n
  · clear hs hf hnc hc
    go_enter Try.func3, Try.ntmps3
    go_wp2_with fail
    refine (lives_yes _).mono ?_
    rintro e w2 ⟨rfl, hb2⟩
    have HB := Lib.hid hb2
    clear hb2
    go_wp2_with fail
    go_ret
    exact ⟨rfl, HB.out⟩
  obtain ⟨L, eL⟩ : ∃ L, L = toL l n := ⟨_, rfl⟩
  have hl : L.length = n := by rw [eL, toL_len]
  have HS : Hid (SeesL w w.heap.size A L) := by rw [eL]; exact seesL_of hs
  have hfx : ∀ x ∈ L, Fits x := fun x hx => by
    obtain ⟨j, hj, rfl⟩ := List.mem_iff_getElem.1 hx
    rw [← lf_get L hj, eL, lf_toL _ _ _ (by rw [hl] at hj; exact hj)]
    exact hf j
  have HF := Lib.hid hfx
  subst hl
  clear hs hf eL hfx
  have hck : chk (lf L) L.length = chkL L := rfl
  have K1 := Lib.hid (check_any A L.length c (lf L) w _ HS.out (lf_fits HF.out) (by omega))
  have K2 := Lib.hid (of_any w A c _ L HS.out (Nat.le_refl _) hnc hc (by omega) HF.out)
  rw [hck] at K1
  clear hck
  obtain ⟨x, ex⟩ : ∃ x, x = chkL L := ⟨_, rfl⟩
  rw [← ex] at K1 K2
  by_cases c0 : x = 0
  · rw [if_pos c0] at K2
    have OK := Lib.hid (LOk.of_chk (by rw [← ex]; exact c0))
    subst c0
    clear ex
    obtain ⟨n, en⟩ : ∃ n, n = L.length := ⟨_, rfl⟩
    have EN := Lib.hid en
    rw [← en] at K1 K2 hbig ⊢
    clear en hnc
    go_enter Try.func3, Try.ntmps3
    go_wp2_with fail
    refine (K1.out).mono ?_
    rintro e w' ⟨rfl, rfl⟩
    go_wp2_with fail
    refine (K2.out).mono ?_
    rintro e w1 ⟨r, rfl, p1, hb⟩
    have V1 := Lib.hid (LV.cons ((LV.start w).below hb) p1)
    have g := V1.out.get (.head _)
    have d1 := g.c
    have K3 := Lib.hid (same_any _ r A L c _ 0 0 rfl g.r OK.out ((HS.out.below hb).below ((Below.refl _ w1).alloc hb.size (.cells #[.pointer r] 27))) (by rw [World.size_alloc]; have := hb.size; omega))
    rw [← EN.out] at K3
    clear hb p1 g K1 K2
    go_wp2_with fail
    refine (K3.out).mono ?_
    rintro e w2 ⟨rfl, hb⟩
    have V2 := Lib.hid (V1.out.below hb)
    clear hb K3 V1 d1
    go_wp2_with fail
    refine (lives_yes _).mono ?_
    rintro e w3 ⟨rfl, hb⟩
    have V3 := Lib.hid (V2.out.below hb)
    clear hb
    go_wp2_with fail
    go_ret
    exact ⟨rfl, V3.out.bl⟩
  · rw [if_neg c0] at K2
    clear ex
    obtain ⟨n, en⟩ : ∃ n, n = L.length := ⟨_, rfl⟩
    rw [← en] at K1 K2 hbig ⊢
    clear en hnc
    go_enter Try.func3, Try.ntmps3
    go_wp2_with fail
    refine (K1.out).mono ?_
    rintro e w' ⟨rfl, rfl⟩
    go_wp2_with fail
    refine (K2.out).mono ?_
    rintro e w1 ⟨r, rfl, p1, hb⟩
    have V1 := Lib.hid (LV.cons ((LV.start w).below hb) p1)
    have g := V1.out.get (.head _)
    have d1 := g.c
    have K3 := Lib.hid (same_any _ r none [] 0 0 x x rfl g.r LOk.nil (seesL_nil _ _) (Nat.zero_le _))
    clear hb p1 g K1 K2
    go_wp2_with fail
    refine (K3.out).mono ?_
    rintro e w2 ⟨rfl, hb⟩
    have V2 := Lib.hid (V1.out.below hb)
    clear hb K3 V1 d1
    go_wp2_with fail
    refine (lives_yes _).mono ?_
    rintro e w3 ⟨rfl, hb⟩
    have V3 := Lib.hid (V2.out.below hb)
    clear hb
    go_wp2_with fail
    go_ret
    exact ⟨rfl, V3.out.bl⟩
end Go.Proofs.Ytafgdknfhchnpaa

/-
  Contracts of package sizes, second: marked, Set, Remove, Unknown.
-/
import Derived.Test.YtngbaiijdgmpoaaSizA
namespace Go.Proofs.Ytngbaiijdgmpoaa
open Go.RowKit
set_option linter.unusedVariables false
set_option linter.unusedSimpArgs false

/-- Spans of known rows that were returned. -/
def KPost (w : World) (p : Nat → Bool) (e : Ending) (w' : World) : Prop := ∃ A S, e = .returned (.slice A S.length S.length) ∧ SeesP w' w'.heap.size A S ∧ KnS S p ∧ Below w.heap.size w w'
/-- .. with an error. -/
def KEPost (w : World) (p : Nat → Bool) (e : Ending) (w' : World) : Prop := ∃ A S, e = .returned (.tuple #[.slice A S.length S.length, .int .i64 0]) ∧ SeesP w' w'.heap.size A S ∧ KnS S p ∧ Below w.heap.size w w'
theorem lit_one (w : World) (f t : Int) : SeesP (w.alloc (.cells #[.int .i64 f, .int .i64 t] 75)) (w.heap.size + 1) (some ⟨w.heap.size, 0, none⟩) [(f, t)] := by
  have := Sees.lit w #[.int .i64 f, .int .i64 t] 75 (spf [(f, t)]) 2 rfl (fun j hj => by
    have : j = 0 ∨ j = 1 := by omega
    rcases this with rfl | rfl <;> rfl)
  rw [World.size_alloc] at this
  exact this
theorem markF_lt {p : Nat → Bool} {n f t : Nat} {b : Bool} (hn : ∀ j, p j = true → j < n) (ht : t ≤ n) : ∀ j, markF p f t b j = true → j < n := by
  intro j hj
  unfold markF at hj
  by_cases c : f ≤ j ∧ j < t
  · omega
  · rw [if_neg c] at hj; exact hn j hj
theorem union_small (w : World) (A A2 : Option Addr) (B B2 : Nat) (S : Sp) (p : Nat → Bool) (n f t : Nat) (h : SeesP w B A S) (h2 : SeesP w B2 A2 [((f : Int), (t : Int))]) (hB : B ≤ w.heap.size) (hB2 : B2 ≤ w.heap.size) (hk : KnS S p) (hn : ∀ j, p j = true → j < n) (h8 : n ≤ 8000) (hft : f < t) (ht : t ≤ n) :
    Calls Try.prog 61 #[.slice A S.length S.length, .slice A2 1 1] w (KEPost w (markF p f t true)) := by
  have hS := hk.len hn
  refine (union_any w A A2 S.length 1 B B2 S [((f : Int), (t : Int))] h h2 hB hB2 hk.nf.fits (one_nf hft (by omega)).fits (by omega) (by show 1 ≤ 1000000000000000; decide)).mono ?_
  rintro e w' (⟨_, _, R, hm, A', h1, h2, h3⟩ | ⟨hx, _⟩)
  · have hkr := union_kn hk hm
    have hl := hkr.len (markF_lt hn ht)
    obtain ⟨e1, e2⟩ := dE_ok (R := R) (by omega)
    rw [e1, e2] at h1
    rw [e2] at h2
    exact ⟨A', R, h1, h2, hkr, h3⟩
  · rw [hk.chk hn h8, one_chk hft (by omega)] at hx
    exact absurd rfl hx
theorem without_small (w : World) (A A2 : Option Addr) (B B2 : Nat) (S : Sp) (p : Nat → Bool) (n f t : Nat) (h : SeesP w B A S) (h2 : SeesP w B2 A2 [((f : Int), (t : Int))]) (hB : B ≤ w.heap.size) (hB2 : B2 ≤ w.heap.size) (hk : KnS S p) (hn : ∀ j, p j = true → j < n) (h8 : n ≤ 8000) (hft : f < t) (ht : t ≤ n) :
    Calls Try.prog 60 #[.slice A S.length S.length, .slice A2 1 1] w (KEPost w (markF p f t false)) := by
  have hS := hk.len hn
  refine (without_any w A A2 S.length 1 B B2 S [((f : Int), (t : Int))] h h2 hB hB2 hk.nf.fits (one_nf hft (by omega)).fits (by omega) (by show 1 ≤ 1000000000000000; decide)).mono ?_
  rintro e w' (⟨_, _, R, hm, A', h1, h2, h3⟩ | ⟨hx, _⟩)
  · have hkr := without_kn hk hm
    have hl := hkr.len (markF_lt hn ht)
    obtain ⟨e1, e2⟩ := dE_ok (R := R) (by omega)
    rw [e1, e2] at h1
    rw [e2] at h2
    exact ⟨A', R, h1, h2, hkr, h3⟩
  · rw [hk.chk hn h8, one_chk hft (by omega)] at hx
    exact absurd rfl hx
set_option maxRecDepth 100000 in
set_option maxHeartbeats 800000 in
theorem marked_any (w : World) (A : Option Addr) (B : Nat) (S : Sp) (p : Nat → Bool) (n f t : Nat) (b : Bool) (h : SeesP w B A S) (hB : B ≤ w.heap.size) (hk : KnS S p) (hn : ∀ j, p j = true → j < n) (h8 : n ≤ 8000) (hft : f ≤ t) (ht : t ≤ n) :
    Calls Try.prog 39 #[.slice A S.length S.length, .int .i64 f, .int .i64 t, .bool b] w (KPost w (markF p f t b)) := by
  by_cases c : f = t
  · subst c
    have H : Hid (KPost w (markF p f f b) (.returned (.slice A S.length S.length)) w) := ⟨A, S, rfl, h.more hB, hk.congr (fun j => by unfold markF; rw [if_neg (by omega)]), Below.refl _ _⟩
    obtain ⟨sn, esn⟩ : ∃ sn, sn = S.length := ⟨_, rfl⟩
    rw [← esn] at H ⊢
    clear h hB hk hn esn
    go_enter Try.func39, Try.ntmps39
    go_wp2_with fail
    go_ret
    exact H.out
  · have ne : ((f : Int) == (t : Int)) = false := by rw [beq_eq_false_iff_ne]; omega
    have L0 : Hid (Below w.heap.size w (w.alloc (.cells #[.int .i64 (f : Int), .int .i64 (t : Int)] 75))) := (Below.refl _ w).alloc (Nat.le_refl _) _
    have hl := lit_one w f t
    have L1 : Hid (KEPost w (markF p f t b) = KEPost w (markF p f t b)) := rfl
    cases b with
    | true =>
      have K := Lib.hid (union_small _ A (some ⟨w.heap.size, 0, none⟩) B _ S p n f t (h.below (L0.out.mono hB)) hl (by rw [World.size_alloc]; omega) (by rw [World.size_alloc]; exact Nat.le_refl _) hk hn h8 (by omega) ht)
      obtain ⟨sn, esn⟩ : ∃ sn, sn = S.length := ⟨_, rfl⟩
      rw [← esn] at K ⊢
      clear h hB hk hn esn hl L1
      go_enter Try.func39, Try.ntmps39
      go_wp2_with fail
      refine (K.out).mono ?_
      rintro e w1 ⟨A', S', rfl, h1, h2, h3⟩
      have H : Hid (KPost w (markF p f t true) (.returned (.slice A' S'.length S'.length)) w1) := ⟨A', S', rfl, h1, h2, L0.out.trans (h3.mono L0.out.size)⟩
      clear h1 h2 h3
      go_wp2_with fail
      go_ret
      exact H.out
    | false =>
      have K := Lib.hid (without_small _ A (some ⟨w.heap.size, 0, none⟩) B _ S p n f t (h.below (L0.out.mono hB)) hl (by rw [World.size_alloc]; omega) (by rw [World.size_alloc]; exact Nat.le_refl _) hk hn h8 (by omega) ht)
      obtain ⟨sn, esn⟩ : ∃ sn, sn = S.length := ⟨_, rfl⟩
      rw [← esn] at K ⊢
      clear h hB hk hn esn hl L1
      go_enter Try.func39, Try.ntmps39
      go_wp2_with fail
      refine (K.out).mono ?_
      rintro e w1 ⟨A', S', rfl, h1, h2, h3⟩
      have H : Hid (KPost w (markF p f t false) (.returned (.slice A' S'.length S'.length)) w1) := ⟨A', S', rfl, h1, h2, L0.out.trans (h3.mono L0.out.size)⟩
      clear h1 h2 h3
      go_wp2_with fail
      go_ret
      exact H.out
end Go.Proofs.Ytngbaiijdgmpoaa

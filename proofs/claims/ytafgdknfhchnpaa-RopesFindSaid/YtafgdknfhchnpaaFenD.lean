/-
  Contracts of package fenwicks, fourth: the length in bits, Find.
-/
import Derived.Test.YtafgdknfhchnpaaFenC
import Derived.Test.YtafgdknfhchnpaaLibLen
import Derived.LoopTactic
import Derived.BigQuiet
import Derived.WalkMore
import Derived.Scope
namespace Go.Proofs.Ytafgdknfhchnpaa
open Go.RowKit
set_option linter.unusedVariables false

theorem bitLenAux_bd : ∀ (f x : Nat), x < 2 ^ f → x < 2 ^ (Lib.bitLenAux f x) ∧ Lib.bitLenAux f x ≤ f
  | 0, x, h => by simp at h; subst h; exact ⟨by decide, Nat.le_refl _⟩
  | f + 1, x, h => by
    unfold Lib.bitLenAux
    by_cases c : x = 0
    · rw [if_pos c]; subst c; exact ⟨by decide, by omega⟩
    · rw [if_neg c]
      rw [Nat.pow_succ] at h
      obtain ⟨h1, h2⟩ := bitLenAux_bd f (x / 2) (by omega)
      refine ⟨?_, by omega⟩
      rw [Nat.add_comm 1, Nat.pow_succ]
      omega
theorem bitLen_bd (n : Nat) (hn : n ≤ 4096) : n < 2 ^ (Lib.bitLen n) ∧ Lib.bitLen n ≤ 13 := by
  unfold Lib.bitLen
  rw [Lib.bitLenAux_fuel 13 n (by omega) 64 (by omega)]
  exact bitLenAux_bd 13 n (by omega)

/-- Where the descent stands. -/
def At (l : Nat → Int) (x : Int) (n s c : Nat) : Prop := ∃ t a, s = 2 ^ t / 2 ∧ c = a * 2 ^ t ∧ psum l c ≤ x ∧ ∀ m, c + 2 ^ t ≤ m → m ≤ n → x < psum l m
theorem At.start {l : Nat → Int} {x : Int} {n T : Nat} (h0 : 0 ≤ x) (hT : n < 2 ^ T) : At l x n (2 ^ T) 0 :=
  ⟨T + 1, 0, by rw [Nat.pow_succ]; omega, by omega, h0, fun m h1 h2 => by rw [Nat.pow_succ] at h1; omega⟩
theorem At.stop {l : Nat → Int} {x : Int} {n c i : Nat} (h : At l x n 0 c) (ok : Sizes l n) (hc : c ≤ n) (hi : i < n) (h1 : psum l i ≤ x) (h2 : x < psum l (i + 1)) : c = i := by
  obtain ⟨t, a, e1, e2, e3, e4⟩ := h
  have ht : t = 0 := by
    rcases t with _ | t
    · rfl
    · rw [Nat.pow_succ] at e1; have := Nat.two_pow_pos t; omega
  subst ht
  rcases Nat.lt_trichotomy c i with h | h | h
  · have := e4 (c + 1) (by omega) (by omega)
    have := ok.mono (a := c + 1) (b := i) (by omega) (by omega)
    omega
  · exact h
  · have := ok.mono (a := i + 1) (b := c) (by omega) hc
    omega
theorem At.clr {l : Nat → Int} {x : Int} {n s c : Nat} (h : At l x n s c) (hs : 0 < s) : clr (c + s) = c := by
  obtain ⟨t, a, e1, e2, e3, e4⟩ := h
  rcases t with _ | t
  · simp at e1; omega
  · have : s = 2 ^ t := by rw [e1, Nat.pow_succ]; omega
    rw [this, e2]; exact clr_step t a
theorem At.left {l : Nat → Int} {x : Int} {n s c : Nat} (h : At l x n s c) (hs : 0 < s) (hk : ∀ m, c + s ≤ m → m ≤ n → x < psum l m) : At l x n (s / 2) c := by
  obtain ⟨t, a, e1, e2, e3, e4⟩ := h
  rcases t with _ | t
  · simp at e1; omega
  · have e : s = 2 ^ t := by rw [e1, Nat.pow_succ]; omega
    exact ⟨t, 2 * a, by rw [e], by rw [e2, Nat.pow_succ, Nat.mul_comm (2 ^ t) 2, ← Nat.mul_assoc, Nat.mul_comm a 2], e3, fun m h1 h2 => hk m (by omega) h2⟩
theorem At.right {l : Nat → Int} {x : Int} {n s c : Nat} (h : At l x n s c) (hs : 0 < s) (hk : psum l (c + s) ≤ x) : At l x n (s / 2) (c + s) := by
  obtain ⟨t, a, e1, e2, e3, e4⟩ := h
  rcases t with _ | t
  · simp at e1; omega
  · have e : s = 2 ^ t := by rw [e1, Nat.pow_succ]; omega
    refine ⟨t, 2 * a + 1, by rw [e], ?_, hk, fun m h1 h2 => e4 m (by rw [Nat.pow_succ]; omega) h2⟩
    rw [e, e2, Nat.pow_succ, Nat.add_mul, Nat.mul_comm (2 ^ t) 2, ← Nat.mul_assoc, Nat.mul_comm a 2, Nat.one_mul]

set_option maxRecDepth 100000 in
set_option maxHeartbeats 1600000 in
theorem fFind_ok (w : World) (B p n : Nat) (l : Nat → Int) (h : Fen w B p n l) (x : Int) (h0 : 0 ≤ x) (i : Nat) (hi : i < n) (h1 : psum l i ≤ x) (h2 : x < psum l (i + 1)) :
    Calls Try.prog 34 #[.pointer (some ⟨p, 0, none⟩), .int .i64 x] w fun e w' => e = .returned (.tuple #[.int .i64 i, .int .i64 (x - psum l i), .int .i64 0]) ∧ Drawn w w' := by
  have HF := Lib.hid h
  have hn := h.ok.le
  have HO := Lib.hid h.ok
  have hx1 : x < psum l n := by have := h.ok.mono (a := i + 1) (b := n) hi (Nat.le_refl n); omega
  have hx2 : psum l n ≤ 4611686018427387904 := h.ok.top
  obtain ⟨gs, gt, hg, _⟩ := h
  obtain ⟨c0, c1, c2, c3, fz⟩ := tcells_of hg.hp
  have HT := Lib.hid hg.ht
  have H1 := Lib.hid h1
  have H2 := Lib.hid h2
  obtain ⟨l1, l2⟩ := bitLen_bd n hn
  obtain ⟨T, hT⟩ : ∃ T, T = Lib.bitLen n := ⟨_, rfl⟩
  have HL : Hid (∀ W, Calls Try.prog 52 #[.int .u64 n] W fun e w' => e = .returned (.int .i64 T) ∧ W = w') := by
    intro W
    refine (Try.bits_Len n W (by omega) (by omega)).mono ?_
    rintro e w' ⟨rfl, rfl⟩
    exact ⟨by rw [hT]; simp, rfl⟩
  rw [← hT] at l1 l2
  obtain ⟨tot, htot⟩ : ∃ tot, tot = psum l n := ⟨_, rfl⟩
  rw [← htot] at c3 hx1 hx2
  have HS : Hid (At l x n (2 ^ T) 0) := At.start h0 l1
  have l3 : 2 ^ T ≤ 2 ^ 13 := Nat.pow_le_pow_right (by omega) l2
  obtain ⟨S, hS⟩ : ∃ S, S = 2 ^ T := ⟨_, rfl⟩
  have hS2 : (2 : Int) ^ T = (S : Int) := by rw [hS]; exact (Int.natCast_pow 2 T).symm
  rw [← hS] at HS l3
  have l4 : S ≤ 8192 := l3
  clear l3 hS
  clear hg fz h1 h2 hT htot l1
  go_enter Try.func34, Try.ntmps34
  go_wp2_with fail
  go_step3
  go_wp2_with fail
  refine (none_no w p c0).mono ?_
  rintro e w' ⟨rfl, rfl⟩
  go_wp2_with fail
  refine (HL.out w).mono ?_
  rintro e w' ⟨rfl, rfl⟩
  go_wp2_with fail
  go_step3
  go_wp2_with fail
  clear HL hS2
  go_loopw [4, 5, 7] (fun ci r st wr => ∃ s c : Nat, st = .int .i64 s ∧ ci = .int .i64 c ∧ r = .int .i64 (x - psum l c) ∧ c ≤ n ∧ s ≤ 8192 ∧ Hid (At l x n s c) ∧ Hid (Drawn w wr)) (fun _ _ st _ => (intOf st).toNat)
  case atStart => exact ⟨S, 0, rfl, rfl, by show _ = Value.int .i64 (x - 0); rw [Int.sub_zero], Nat.zero_le _, l4, HS, Drawn.refl _⟩
  case round =>
    obtain ⟨s, c, rfl, rfl, rfl, hc, hs, hA, hD⟩ := hrel
    clear HS
    have pc := HO.out.bd (a := c) hc
    have pc2 : psum l c ≤ x := by obtain ⟨t, a, e1, e2, e3, e4⟩ := hA.out; exact e3
    by_cases s0 : 0 < s
    · have hcl := hA.out.clr s0
      have c2' := (hD.out.cell ⟨p, 2, none⟩).trans c2
      have hdiv : (s : Int).fdiv (2 ^ min (Int.toNat 1) IntKind.i64.bits) = ((s / 2 : Nat) : Int) := by
        rw [show (2 : Int) ^ min (Int.toNat 1) IntKind.i64.bits = 2 from rfl, Int.fdiv_eq_ediv_of_nonneg _ (by omega)]; omega
      by_cases big : n < c + s
      · have hN : Hid (At l x n (s / 2) c) := hA.out.left s0 fun m h1 h2 => by omega
        have hki : (n : Int) + 1 ≤ (c : Int) + (s : Int) := by omega
        obtain ⟨v, hv⟩ : ∃ v, v = psum l c := ⟨_, rfl⟩
        rw [← hv]
        go_wp2_with fail
        go_roundw
        case rel => exact ⟨s / 2, c, by go_num, rfl, by rw [hv], hc, by omega, hN, hD⟩
        case measure => simp [intOf]; omega
      · have hk : c + s ≤ n := by omega
        have hcell : wr.cell? ⟨gt, c + s, none⟩ = some (.int .i64 (psum l (c + s) - psum l c)) := by
          have := (hD.out.cell ⟨gt, c + s, none⟩).trans (HT.out.cell (i := c + s) (by omega))
          rw [i64s_at] at this
          rw [this]
          unfold fsum
          rw [hcl]
        have hki : ¬ (n : Int) + 1 ≤ (c : Int) + (s : Int) := by omega
        have pk := HO.out.bd (a := c + s) hk
        have pm := HO.out.mono (a := c) (b := c + s) (by omega) hk
        by_cases gr : x < psum l (c + s)
        · have hN : Hid (At l x n (s / 2) c) := hA.out.left s0 fun m h1 h2 => by have := HO.out.mono h1 h2; omega
          obtain ⟨v, hv⟩ : ∃ v, v = psum l c := ⟨_, rfl⟩
          obtain ⟨P, hP⟩ : ∃ P, P = psum l (c + s) := ⟨_, rfl⟩
          rw [← hv] at hcell pc pc2 pm ⊢
          rw [← hP] at hcell pk pm gr
          clear hP hcl hA
          have HV := Lib.hid hv
          clear hv
          have g2 : x - v < P - v := by omega
          obtain ⟨pc0, pc1⟩ := pc
          obtain ⟨pk0, pk1⟩ := pk
          go_wp2_with fail
          go_roundw
          case rel => exact ⟨s / 2, c, by go_num, rfl, by rw [HV.out], hc, by omega, hN, hD⟩
          case measure => simp [intOf]; omega
        · have hN : Hid (At l x n (s / 2) (c + s)) := hA.out.right s0 (by omega)
          obtain ⟨v, hv⟩ : ∃ v, v = psum l c := ⟨_, rfl⟩
          obtain ⟨P, hP⟩ : ∃ P, P = psum l (c + s) := ⟨_, rfl⟩
          rw [← hv] at hcell pc pc2 pm ⊢
          rw [← hP] at hcell pk pm gr
          clear hv hcl hA
          have HP := Lib.hid hP
          clear hP
          have g2 : ¬ x - v < P - v := by omega
          obtain ⟨pc0, pc1⟩ := pc
          obtain ⟨pk0, pk1⟩ := pk
          go_wp2_with fail
          go_quiet (fail)
          go_wp2_with fail
          go_roundw
          case rel => exact ⟨s / 2, c + s, by go_num, by go_num, by rw [← HP.out]; go_num, hk, by omega, hN, hD.out.drewN _⟩
          case measure => simp [intOf]; omega
    · obtain rfl : s = 0 := by omega
      obtain rfl : c = i := hA.out.stop HO.out hc hi H1.out H2.out
      clear hA
      go_wp2_with fail
      rw [Exit.noGoto_ret]
      go_ret3
      exact ⟨rfl, hD.out⟩
end Go.Proofs.Ytafgdknfhchnpaa

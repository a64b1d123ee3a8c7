/-
  Ropes' law functions, first: F, Sum of the reference, same.
-/
import Derived.Test.YtafgdknfhchnpaaRopQ
import Derived.Test.YtafgdknfhchnpaaSz
namespace Go.Proofs.Ytafgdknfhchnpaa
open Go.RowKit
set_option linter.unusedVariables false
set_option linter.unusedSimpArgs false

theorem FF_pow : ∀ d, FF d < 2 ^ d ∧ FF (d + 1) < 2 ^ (d + 1)
  | 0 => by decide
  | d + 1 => by
    obtain ⟨h1, h2⟩ := FF_pow d
    refine ⟨h2, ?_⟩
    rw [FF_step, Nat.pow_succ]
    rw [Nat.pow_succ] at h2 ⊢
    omega
theorem FF_19 {d n : Nat} (h : FF d ≤ n) (hn : n ≤ 8192) : d ≤ 18 := by
  rcases Nat.lt_or_ge 18 d with c | c
  · have := FF_mono (show 19 ≤ d from c)
    have : FF 19 = 10945 := by decide
    omega
  · exact c

set_option maxRecDepth 100000 in
set_option maxHeartbeats 800000 in
theorem F_any (w : World) (d : Nat) (hd : d ≤ 40) : Calls Try.prog 40 #[.int .i64 d] w fun e w' => e = .returned (.int .i64 (FF d)) ∧ w = w' := by
  go_enter Try.func40, Try.ntmps40
  go_wp2_with fail
  go_loop [3, 4, 5] (fun a b i => ∃ k : Nat, k ≤ d ∧ i = .int .i64 k ∧ a = .int .i64 (FF k) ∧ b = .int .i64 (FF (k + 1))) (fun _ _ i => d - (intOf i).toNat)
  case atStart => exact ⟨0, Nat.zero_le _, rfl, rfl, rfl⟩
  case round =>
    obtain ⟨k, hk, rfl, rfl, rfl⟩ := hrel
    by_cases hlt : k < d
    · obtain ⟨p1, p2⟩ := FF_pow k
      have p3 : 2 ^ (k + 1) ≤ 2 ^ 41 := Nat.pow_le_pow_right (by decide) (by omega)
      have p4 : 2 ^ k ≤ 2 ^ (k + 1) := Nat.pow_le_pow_right (by decide) (by omega)
      have q1 : FF k ≤ 2199023255552 := by omega
      have q2 : FF (k + 1) ≤ 2199023255552 := by omega
      have e := Lib.hid (FF_step k)
      obtain ⟨a, ha⟩ : ∃ a, a = FF k := ⟨_, rfl⟩
      obtain ⟨b, hb⟩ : ∃ b, b = FF (k + 1) := ⟨_, rfl⟩
      rw [← ha, ← hb] at e
      rw [← ha] at q1 ⊢
      rw [← hb] at q2 ⊢
      have HB := Lib.hid hb
      clear ha hb p1 p2 p3 p4
      go_wp2_with fail
      go_round
      case rel => exact ⟨k + 1, by omega, by go_num, by rw [HB.out], by rw [e.out]; go_num⟩
      case measure => simp [intOf]; omega
    · obtain rfl : k = d := by omega
      obtain ⟨a, ha⟩ : ∃ a, a = FF k := ⟨_, rfl⟩
      rw [← ha]
      go_wp2_with fail
      go_ret
      exact ⟨rfl, rfl⟩

theorem LOk.psum_bd {L : List Int} (h : LOk L) (k : Nat) (hk : k ≤ L.length) : 0 ≤ psum (lf L) k ∧ psum (lf L) k ≤ 4611686018427387904 := by
  rw [psum_lf L k hk]
  exact ⟨(h.take k).sum0, (h.take k).top⟩
theorem LOk.lf_bd {L : List Int} (h : LOk L) (k : Nat) (hk : k < L.length) : 0 ≤ lf L k ∧ lf L k ≤ 4611686018427387904 := by
  have := lf_le_sum h k hk
  have := h.top
  omega
set_option maxRecDepth 100000 in
set_option maxHeartbeats 800000 in
theorem sumL_any (A : Option Addr) (c i : Nat) (L : List Int) (w : World) (B : Nat) (hs : SeesL w B A L) (ok : LOk L) (hi : i ≤ L.length) :
    Calls Try.prog 35 #[.slice A L.length c, .int .i64 i] w fun e w' => e = .returned (.int .i64 (psum (lf L) i)) ∧ w = w' := by
  have HO := Lib.hid ok
  have hl := ok.len
  clear ok
  obtain ⟨n, en⟩ : ∃ n, n = L.length := ⟨_, rfl⟩
  have EN := Lib.hid en
  unfold SeesL at hs
  rw [← en] at hs hi hl ⊢
  clear en
  go_enter Try.func35, Try.ntmps35
  go_wp2_with fail
  go_loop [5, 6] (fun s k => ∃ j : Nat, j ≤ i ∧ k = .int .i64 j ∧ s = .int .i64 (psum (lf L) j)) (fun _ k => i - (intOf k).toNat)
  case atStart => exact ⟨0, Nat.zero_le _, rfl, rfl⟩
  case round =>
    obtain ⟨j, hj, rfl, rfl⟩ := hrel
    by_cases hlt : j < i
    · obtain ⟨b, o, rfl, hb, hcell⟩ := hs.at_ (k := j) (by omega)
      obtain ⟨p1, p2⟩ := HO.out.psum_bd j (by rw [← EN.out]; omega)
      obtain ⟨p3, p4⟩ := HO.out.lf_bd j (by rw [← EN.out]; omega)
      rw [i64s_at] at hcell
      have H : Hid (psum (lf L) (j + 1) = psum (lf L) j + lf L j) := psum_succ _ j
      have p5 : psum (lf L) j + lf L j ≤ 4611686018427387904 := by rw [← H.out]; exact (HO.out.psum_bd (j + 1) (by rw [← EN.out]; omega)).2
      go_wp2_with fail
      go_round
      case rel => exact ⟨j + 1, by omega, by go_num, by rw [H.out]⟩
      case measure => simp [intOf]; omega
    · obtain rfl : j = i := by omega
      go_wp2_with fail
      go_ret
      exact ⟨rfl, rfl⟩
end Go.Proofs.Ytafgdknfhchnpaa

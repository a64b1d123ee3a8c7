/-
  Ropes' law functions, second: same.
-/
import Derived.Test.YtafgdknfhchnpaaRopLaw1
namespace Go.Proofs.Ytafgdknfhchnpaa
open Go.RowKit
set_option linter.unusedVariables false
set_option linter.unusedSimpArgs false

theorem below_drawn {B : Nat} {a w w' : World} (h : Below B a w) (d : Drawn w w') : Below B a w' := by obtain ⟨q, rfl⟩ := d; exact ⟨h.os, h.tape, h.output, h.size, h.block⟩
theorem lf_fits' {L : List Int} (ok : LOk L) (j : Nat) (hj : j < L.length) : -9223372036854775808 ≤ lf L j ∧ lf L j ≤ 9223372036854775807 := by have := ok.lf_bd j hj; omega
set_option maxRecDepth 100000 in
set_option maxHeartbeats 3200000 in
theorem same_any (w : World) (a A : Option Addr) (L : List Int) (c B : Nat) (e f : Int) (hef : e = f) (h : Rp w a L) (ok : LOk L) (hs : SeesL w B A L) (hB : B ≤ w.heap.size) :
    Calls Try.prog 12 #[.agg #[.pointer a], .int .i64 e, .slice A L.length c, .int .i64 f] w fun e w' => e = .returned (.bool true) ∧ Below w.heap.size w w' := by
  subst hef
  have B0 : Hid (Below w.heap.size w (w.alloc (.cells #[.pointer a] 27))) := (Below.refl _ w).alloc (Nat.le_refl _) _
  have V0 : Hid (Var (w.alloc (.cells #[.pointer a] 27)) w.heap.size 27 (.pointer a)) := Var.mk _ _ _
  have HR0 := Lib.hid (h.below B0.out)
  have HS0 := Lib.hid ((hs.more hB).below B0.out)
  have HO := Lib.hid ok
  have hl := ok.len
  have tl0 := ok.sum0
  have tl1 := ok.top
  have LL := Lib.hid (rlist_any _ a L HR0.out ok)
  have LN := Lib.hid (fun W (h : Rp W a L) => rlen_any W a L h)
  have LT := Lib.hid (fun W (h : Rp W a L) => rtotal_any W a L h)
  have LD := Lib.hid (fun W (h : Rp W a L) => rdepth_any W a L h)
  have LS := Lib.hid (fun W B (h : SeesL W B A L) => sumL_any A c L.length L W B h HO.out (Nat.le_refl _))
  have LF := Lib.hid (fun W (d : Nat) (h : d ≤ 18) => F_any W d (by omega))
  rw [psum_lf_all] at LS
  clear ok h hs
  obtain ⟨n, en⟩ : ∃ n, n = L.length := ⟨_, rfl⟩
  obtain ⟨t, et⟩ : ∃ t, t = L.sum := ⟨_, rfl⟩
  have EN := Lib.hid en
  unfold SeesL at HS0 LS
  rw [← en] at HS0 LL LN LS hl ⊢
  rw [← et] at LT LS tl0 tl1
  have HD : Hid (∀ d, FF d ≤ L.length → L.length < 2 ^ d → d ≤ 18 ∧ FF d ≤ n ∧ (0 < n → 0 < d)) := fun d h1 h2 => ⟨FF_19 h1 (by omega), by omega, fun hn => by
    cases d with
    | zero => exfalso; rw [← en] at h2; simp at h2; omega
    | succ d => omega⟩
  clear en et
  go_enter Try.func12, Try.ntmps12
  go_wp2_with fail
  obtain ⟨w0, e0⟩ : ∃ w0, w0 = w.alloc (.cells #[.pointer a] 27) := ⟨_, rfl⟩
  change Calls Try.prog _ _ (w.alloc _) _
  rw [← e0] at B0 V0 HR0 HS0 LL ⊢
  clear e0
  refine (LL.out).mono ?_
  rintro e w1 ⟨Al, rfl, ho, hb⟩
  have B1 : Hid (Below w0.heap.size w0 w1) := hb
  have O1 := Lib.hid ho
  have d1 := (V0.out.below B1.out).c
  have K1 := Lib.hid (LN.out w1 (HR0.out.below B1.out))
  clear hb ho
  go_wp2_with fail
  refine (K1.out).mono ?_
  rintro e w2 ⟨rfl, hb⟩
  have B2 : Hid (Below w0.heap.size w0 w2) := B1.out.trans (hb.mono B1.out.size)
  have O2 := Lib.hid (O1.out.below hb)
  have d2 := (V0.out.below B2.out).c
  have K2 := Lib.hid (LT.out w2 (HR0.out.below B2.out))
  clear hb d1
  go_wp2_with fail
  refine (K2.out).mono ?_
  rintro e w3 ⟨rfl, hb⟩
  have B3 : Hid (Below w0.heap.size w0 w3) := B2.out.trans (hb.mono B2.out.size)
  have O3 := Lib.hid (O2.out.below hb)
  have d3 := (V0.out.below B3.out).c
  have K3 := Lib.hid (LS.out w3 _ (HS0.out.below (B3.out.mono B0.out.size)))
  have K4 := Lib.hid (LD.out w3 (HR0.out.below B3.out))
  clear hb d2
  go_wp2_with fail
  refine (K3.out).mono ?_
  rintro e w' ⟨rfl, rfl⟩
  go_wp2_with fail
  refine (K4.out).mono ?_
  rintro e w4 ⟨d, rfl, g1, g2, hb⟩
  obtain ⟨g3, g4, g5⟩ := HD.out d g1 g2
  have B4 : Hid (Below w0.heap.size w0 w4) := B3.out.trans (hb.mono B3.out.size)
  have O4 := Lib.hid (O3.out.below hb)
  have d4 := (V0.out.below B4.out).c
  have K5 := Lib.hid (LD.out w4 (HR0.out.below B4.out))
  clear hb d3 g1 g2 g4 g5
  go_wp2_with fail
  refine (K5.out).mono ?_
  rintro e w5 ⟨d', rfl, g1, g2, hb⟩
  obtain ⟨g3', g4, g5⟩ := HD.out d' g1 g2
  have B5 : Hid (Below w0.heap.size w0 w5) := B4.out.trans (hb.mono B4.out.size)
  have O5 := Lib.hid (O4.out.below hb)
  have d5 := (V0.out.below B5.out).c
  have K6 := Lib.hid (LD.out w5 (HR0.out.below B5.out))
  clear hb d4 g1 g2 g4 g5
  go_wp2_with fail
  refine (K6.out).mono ?_
  rintro e w6 ⟨d'', rfl, g1, g2, hb⟩
  obtain ⟨g3'', g4, g5⟩ := HD.out d'' g1 g2
  have B6 : Hid (Below w0.heap.size w0 w6) := B5.out.trans (hb.mono B5.out.size)
  have O6 := Lib.hid (O5.out.below hb)
  have d6 := (V0.out.below B6.out).c
  have K7 := Lib.hid (LF.out w6 d'' g3'')
  have K8 := Lib.hid (LD.out w6 (HR0.out.below B6.out))
  clear hb d5 g1 g2 g5
  obtain ⟨ff, eff⟩ : ∃ ff, ff = FF d'' := ⟨_, rfl⟩
  rw [← eff] at K7 g4
  clear eff
  go_wp2_with fail
  by_cases n0 : n = 0
  · have B6' : Hid (Below w.heap.size w w6) := B0.out.trans (B6.out.mono B0.out.size)
    subst n0
    refine (K7.out).mono ?_
    rintro e w' ⟨rfl, rfl⟩
    go_wp2_with fail

    go_loopw [10] (fun i wr => i = .int .i64 0 ∧ wr = w6) (fun _ _ => 0)
    case atStart => exact ⟨rfl, rfl⟩
    case round =>
      obtain ⟨rfl, rfl⟩ := hrel
      go_wp2_with fail
      go_ret
      exact ⟨rfl, B6'.out⟩
  · have n1 : 0 < n := by omega
    refine (K7.out).mono ?_
    rintro e w' ⟨rfl, rfl⟩
    go_wp2_with fail
    refine (K8.out).mono ?_
    rintro e w7 ⟨d3, rfl, g1, g2, hb⟩
    obtain ⟨g3a, g4', g5⟩ := HD.out d3 g1 g2
    have d0 := g5 n1
    have B7 : Hid (Below w0.heap.size w0 w7) := B6.out.trans (hb.mono B6.out.size)
    have O7 := Lib.hid (O6.out.below hb)
    have BF : Hid (Below w.heap.size w w7) := B0.out.trans (B7.out.mono B0.out.size)
    have S7 := Lib.hid (HS0.out.below (B7.out.mono B0.out.size))
    clear hb d6 g1 g2 g5 g4' n0
    go_wp2_with fail

    go_loopw [10] (fun i wr => ∃ k : Nat, k ≤ n ∧ i = .int .i64 k ∧ Hid (Drawn w7 wr)) (fun i _ => n - (intOf i).toNat)
    case atStart => exact ⟨0, Nat.zero_le _, rfl, Drawn.refl _⟩
    case round =>
      obtain ⟨k, hk, rfl, hD⟩ := hrel
      clear K1 K2 K3 K4 K5 K6 K7 K8 LL LN LT LS LD LF
      by_cases hlt : k < n
      · obtain ⟨b, o, rfl, _, hc⟩ := (S7.out.drawn hD.out).at_ hlt
        have hs2 : Sees wr _ Al n (i64s (lf L)) := ((by have := O7.out.sees; rw [Nat.mul_one] at this; exact this : Sees w7 _ Al n (i64s (lf L)))).drawn hD.out
        obtain ⟨b2, o2, rfl, _, hc2⟩ := hs2.at_ hlt
        rw [i64s_at] at hc hc2
        go_wp2_with fail
        go_quiet (fail)
        go_wp2_with fail
        go_roundw
        case rel => exact ⟨k + 1, by omega, by go_num, hD.out.drewN _⟩
        case measure => simp [intOf]; omega
      · obtain rfl : k = n := by omega
        go_wp2_with fail
        go_ret
        exact ⟨rfl, below_drawn BF.out hD.out⟩
end Go.Proofs.Ytafgdknfhchnpaa

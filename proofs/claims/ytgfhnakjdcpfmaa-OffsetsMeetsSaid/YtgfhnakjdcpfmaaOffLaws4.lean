/-
  The walk of the law OffsetsMeets of layer 10.
-/
import Derived.Test.YtgfhnakjdcpfmaaRows
import Derived.Test.YtgfhnakjdcpfmaaMem2
import Derived.Test.YtgfhnakjdcpfmaaSz
import Derived.Test.YtgfhnakjdcpfmaaOffC
import Derived.Test.YtgfhnakjdcpfmaaOffE
import Derived.Outline
import Derived.Deep.QuietTactic
import Derived.BigQuiet
namespace Go.Proofs.Ytgfhnakjdcpfmaa
open Go.RowKit
set_option linter.unusedVariables false

theorem chk_small {l : Nat → Int} {n : Nat} (h : n ≤ 4096) : chk l n = chkTo l n := by unfold chk; rw [if_neg (by omega)]

/-- The least of the first sizes. -/
def lst (l : Nat → Int) : Nat → Int
  | 0 => 2305843009213693952
  | k + 1 => min (lst l k) (l k)
theorem lst_succ (l : Nat → Int) (k : Nat) : lst l (k + 1) = min (lst l k) (l k) := rfl
theorem lst_bd (l : Nat → Int) (k : Nat) (h : chkTo l k = 0) : 0 ≤ lst l k ∧ lst l k ≤ 2305843009213693952 := by
  induction k with
  | zero => exact ⟨by show (0 : Int) ≤ 2305843009213693952; decide, Int.le_refl _⟩
  | succ k ih =>
    obtain ⟨h0, h1, h2, _⟩ := chkTo_step l h
    have := ih h0
    rw [lst_succ]
    omega
theorem lst_le (l : Nat → Int) {j k : Nat} (h : j < k) : lst l k ≤ l j := by
  induction k with
  | zero => omega
  | succ k ih =>
    rw [lst_succ]
    by_cases e : j = k
    · subst e; omega
    · have := ih (by omega); omega

/-- Row j meets the viewport. -/
def mt (l : Nat → Int) (s v : Int) (j : Nat) : Bool := meetsB (psum l j) (l j) s v
theorem mt_iff {l : Nat → Int} {s v : Int} (h1 : 0 ≤ s) (h2 : s ≤ 4611686018427387904) (h3 : 1 ≤ v) (h4 : v ≤ 2147483648) (j : Nat) : mt l s v j = true ↔ psum l j < s + v ∧ s < psum l j + l j := by
  unfold mt meetsB
  rw [decide_eq_true_iff]
  omega

structure Inv (l : Nat → Int) (s v : Int) (k M : Nat) (L : Int) : Prop where
  cnt : M ≤ k
  lo : -1 ≤ L
  hi : L < k
  at_ : 0 ≤ L → mt l s v L.toNat = true ∧ 0 < l L.toNat
  none_ : ∀ j : Nat, L < (j : Int) → j < k → 0 < l j → mt l s v j = false
  ends : M = 0 ∨ ∃ p q : Nat, p ≤ q ∧ q < k ∧ mt l s v p = true ∧ mt l s v q = true ∧ M + p ≤ q + 1

theorem Inv.zero (l : Nat → Int) (s v : Int) : Inv l s v 0 0 (-1) := ⟨Nat.le_refl _, by decide, by decide, fun h => absurd h (by decide), fun j _ h => absurd h (by omega), .inl rfl⟩
theorem Inv.skip {l : Nat → Int} {s v : Int} {k M : Nat} {L : Int} (h : Inv l s v k M L) (hm : mt l s v k = false) : Inv l s v (k + 1) M L :=
  ⟨by have := h.cnt; omega, h.lo, by have := h.hi; omega, h.at_, fun j h1 h2 h3 => by
    by_cases e : j = k
    · subst e; exact hm
    · exact h.none_ j h1 (by omega) h3, by
    rcases h.ends with e | ⟨p, q, a, b, c, d, e⟩
    · exact .inl e
    · exact .inr ⟨p, q, a, by omega, c, d, e⟩⟩
theorem Inv.ends' {l : Nat → Int} {s v : Int} {k M : Nat} {L : Int} (h : Inv l s v k M L) (hm : mt l s v k = true) : ∃ p q : Nat, p ≤ q ∧ q < k + 1 ∧ mt l s v p = true ∧ mt l s v q = true ∧ M + 1 + p ≤ q + 1 := by
  rcases h.ends with e | ⟨p, q, a, b, c, d, e⟩
  · exact ⟨k, k, Nat.le_refl _, by omega, hm, hm, by omega⟩
  · exact ⟨p, k, by omega, by omega, c, hm, by omega⟩
theorem Inv.nought {l : Nat → Int} {s v : Int} {k M : Nat} {L : Int} (h : Inv l s v k M L) (hm : mt l s v k = true) (h0 : l k ≤ 0) : Inv l s v (k + 1) (M + 1) L :=
  ⟨by have := h.cnt; omega, h.lo, by have := h.hi; omega, h.at_, fun j h1 h2 h3 => by
    by_cases e : j = k
    · subst e; omega
    · exact h.none_ j h1 (by omega) h3, .inr (h.ends' hm)⟩
theorem Inv.here {l : Nat → Int} {s v : Int} {k M : Nat} {L : Int} (h : Inv l s v k M L) (hm : mt l s v k = true) (h0 : 0 < l k) : Inv l s v (k + 1) (M + 1) k :=
  ⟨by have := h.cnt; omega, by omega, by omega, fun _ => by rw [Int.toNat_natCast]; exact ⟨hm, h0⟩, fun j h1 h2 _ => by omega, .inr (h.ends' hm)⟩

/-- Between two rows that meet there is none that doesn't. -/
theorem between {l : Nat → Int} {s v : Int} {n p q j : Nat} (hc : chkTo l n = 0) (h1 : 0 ≤ s) (h2 : s ≤ 4611686018427387904) (h3 : 1 ≤ v) (h4 : v ≤ 2147483648) (hq : q < n) (hp : mt l s v p = true) (hm : mt l s v q = true) (a : p < j) (b : j ≤ q) : mt l s v j = true ∨ l j ≤ 0 := by
  rw [mt_iff h1 h2 h3 h4] at hp hm
  by_cases h0 : 0 < l j
  · refine .inl ((mt_iff h1 h2 h3 h4 j).2 ?_)
    have e1 := psum_mono l (chkTo_zero l hc (show j ≤ n by omega)) (show p + 1 ≤ j by omega)
    have e2 := psum_mono l (chkTo_zero l hc (show q ≤ n by omega)) b
    rw [psum_succ] at e1
    omega
  · exact .inr (by omega)

theorem psum_steps {l : Nat → Int} {b : Int} {n : Nat} (h : ∀ j, j < n → b ≤ l j) {p d : Nat} (hd : p + d ≤ n) : psum l p + d * b ≤ psum l (p + d) := by
  induction d with
  | zero => simp
  | succ d ih =>
    have e := ih (by omega)
    have g := h (p + d) (by omega)
    rw [← Nat.add_assoc, psum_succ, Int.natCast_add, Int.add_mul]
    simp only [Int.natCast_one, Int.one_mul]
    omega

/-- The bound on the rows that meet. -/
theorem many_le {l : Nat → Int} {s v : Int} {n M : Nat} {L : Int} (hc : chkTo l n = 0) (h1 : 0 ≤ s) (h2 : s ≤ 4611686018427387904) (h3 : 1 ≤ v) (h4 : v ≤ 2147483648) (hi : Inv l s v n M L) (hb : 0 < lst l n) : (M : Int) ≤ ceilDiv v (lst l n) + 1 := by
  have hcd : 1 ≤ ceilDiv v (lst l n) := by
    unfold ceilDiv
    have e := Int.mul_ediv_add_emod v (lst l n)
    have hr := Int.emod_nonneg v (by omega : lst l n ≠ 0)
    have hd := Int.ediv_nonneg (show 0 ≤ v by omega) (Int.le_of_lt hb)
    by_cases hm : v % lst l n > 0
    · rw [if_pos hm]; omega
    · rw [if_neg hm]
      rcases Int.lt_or_lt_of_ne (show v / lst l n ≠ 0 from fun h => by rw [h, Int.mul_zero] at e; omega) with h | h <;> omega
  rcases hi.ends with e | ⟨p, q, a, b, hp, hq, e⟩
  · subst e; omega
  · by_cases hpq : p = q
    · omega
    · obtain ⟨d, rfl⟩ : ∃ d, q = p + 1 + d := ⟨q - p - 1, by omega⟩
      rw [mt_iff h1 h2 h3 h4] at hp hq
      have g := psum_steps (l := l) (b := lst l n) (n := n) (fun j hj => lst_le l hj) (p := p + 1) (d := d) (by omega)
      rw [psum_succ] at g
      have hdv : (d : Int) * lst l n < v := by omega
      have hlt : (d : Int) < ceilDiv v (lst l n) := by
        unfold ceilDiv
        have e := Int.mul_ediv_add_emod v (lst l n)
        have hr := Int.emod_nonneg v (by omega : lst l n ≠ 0)
        have hr2 := Int.emod_lt_of_pos v hb
        by_cases hm : v % lst l n > 0
        · rw [if_pos hm]
          have : (d : Int) ≤ v / lst l n := (Int.le_ediv_iff_mul_le hb).2 (Int.le_of_lt hdv)
          omega
        · rw [if_neg hm]
          refine Int.lt_of_mul_lt_mul_right (a := lst l n) ?_ (Int.le_of_lt hb)
          rw [Int.mul_comm (v / lst l n)]
          omega
      omega

theorem mt_false {l : Nat → Int} {s v : Int} (h : s < 0 ∨ 4611686018427387904 < s ∨ v < 1 ∨ 2147483648 < v) (j : Nat) : mt l s v j = false := by
  unfold mt meetsB
  rw [decide_eq_false_iff_not]
  omega

set_option maxRecDepth 100000 in
set_option maxHeartbeats 3200000 in
theorem law_meets (A : Option Addr) (n c : Nat) (l : Nat → Int) (s v : Int) (w : World) (hs : Sees w w.heap.size A n (i64s l)) (hf : ∀ k, Fits (l k)) (_ : n ≤ c) (_ : c ≤ maxLen) (fs : Fits s) (fv : Fits v) :
    Calls Try.prog 7 #[.slice A n c, .int .i64 s, .int .i64 v] w fun e w' => e = .returned (.bool true) ∧ Below w.heap.size w w' := by
  obtain ⟨fs1, fs2⟩ := fs
  obtain ⟨fv1, fv2⟩ := fv
  have HF := Lib.hid hf
  clear hf
  by_cases hbig : 60 < n
  · go_enter Try.func7, Try.ntmps7
    go_wp2_with fail
    refine (lives_yes _).mono ?_
    rintro e w2 ⟨rfl, hb2⟩
    go_wp2_with fail
    go_ret
    exact ⟨rfl, hb2⟩
  have hle : n ≤ 60 := by omega
  clear hbig
  by_cases hchk : chk l n = 0
  case neg =>
    have hne : (chk l n != 0) = true := by rw [bne_iff_ne]; exact hchk
    clear hchk
    go_enter Try.func7, Try.ntmps7
    go_wp2_with fail
    refine (check_any A n c l w w.heap.size hs HF.out (by omega)).mono ?_
    rintro e w' ⟨rfl, rfl⟩
    go_wp2_with fail
    refine (lives_yes _).mono ?_
    rintro e w2 ⟨rfl, hb2⟩
    go_wp2_with fail
    go_ret
    exact ⟨rfl, hb2⟩
  case pos =>
  have HC : Hid (chkTo l n = 0) := by show _ = _; rw [← chk_small (by omega)]; exact hchk
  have HCK : ∀ W : World, Sees W W.heap.size A n (i64s l) → Calls Try.prog 20 #[.slice A n c] W fun e w' => e = .returned (.int .i64 0) ∧ W = w' := by
    intro W h; have := check_any A n c l W W.heap.size h HF.out (by omega); rwa [hchk] at this
  have HCK0 := HCK
  clear HCK
  have HCK := Lib.hid HCK0
  clear HCK0
  have HSUM : ∀ (W : World) (i : Nat), i ≤ n → Sees W W.heap.size A n (i64s l) → Calls Try.prog 22 #[.slice A n c, .int .i64 i] W fun e w' => e = .returned (.int .i64 (psum l i)) ∧ W = w' :=
    fun W i hi h => sum_any A n c i l i W rfl W.heap.size h hi (by omega) (chkTo_zero l HC.out hi)
  have HSUM0 := HSUM
  clear HSUM
  have HSUM := Lib.hid HSUM0
  clear HSUM0
  clear hchk
  by_cases hbig : 9007199254740992 ≤ psum l n
  · go_enter Try.func7, Try.ntmps7
    go_wp2_with fail
    refine (HCK.out _ hs).mono ?_
    rintro e w' ⟨rfl, rfl⟩
    go_wp2_with fail
    refine (HSUM.out _ n (Nat.le_refl _) hs).mono ?_
    rintro e w' ⟨rfl, rfl⟩
    go_wp2_with fail
    refine (lives_yes _).mono ?_
    rintro e w2 ⟨rfl, hb2⟩
    go_wp2_with fail
    go_ret
    exact ⟨rfl, hb2⟩
  have hsum : psum l n < 9007199254740992 := by omega
  clear hbig
  have HE : Hid (rowsErr l n = 0) := by
    show _ = _
    unfold rowsErr
    rw [if_neg (by rw [chk_small (by omega), HC.out]; decide), if_neg (by omega)]
  have small : ∀ k, k < n → 0 ≤ psum l k ∧ psum l k < 9007199254740992 ∧ 0 ≤ l k ∧ l k < 9007199254740992 := by
    intro k hk
    obtain ⟨h0, h1, h2, h3⟩ := chkTo_step l (chkTo_zero l HC.out (show k + 1 ≤ n by omega))
    have e := psum_mono l HC.out (show k + 1 ≤ n by omega)
    have g := psum_bd l h0
    rw [psum_succ] at e
    omega
  have SM := Lib.hid small
  clear small
  by_cases bad : s < 0 ∨ 4611686018427387904 < s ∨ v < 1 ∨ 2147483648 < v
  · have HM : Hid (∀ j, mt l s v j = false) := fun j => mt_false bad j
    have fin : (s < 0 ∨ (0 ≤ s ∧ 4611686018427387904 < s)) ∨ ((0 ≤ s ∧ s ≤ 4611686018427387904 ∧ v < 1) ∨ (0 ≤ s ∧ s ≤ 4611686018427387904 ∧ 1 ≤ v ∧ 2147483648 < v)) := by omega
    clear bad
    rcases fin with ((d | ⟨d0, d⟩) | (⟨d0, d1, d⟩ | ⟨d0, d1, d2, d⟩))
    all_goals
      try have hdv : decide (v ≤ 2147483648) = false := by simp only [decide_eq_false_iff_not]; omega
      go_enter Try.func7, Try.ntmps7
      go_wp2_with fail
      refine (HCK.out _ hs).mono ?_
      rintro e w' ⟨rfl, rfl⟩
      go_wp2_with fail
      refine (HSUM.out _ n (Nat.le_refl _) hs).mono ?_
      rintro e w' ⟨rfl, rfl⟩
      go_wp2_with fail
      refine (rows_any A n c l w hs HF.out (by omega)).mono ?_
      rintro e w1 (⟨_, R, rfl, hR, hb⟩ | ⟨h0, _⟩)
      case inr => exact absurd HE.out h0
      have hs1 : Sees w1 w1.heap.size A n (i64s l) := (hs.below hb).more hb.size
      go_wp2_with fail
      go_loop [9, 10, 11, 13] (fun m q la i => ∃ k : Nat, k ≤ n ∧ i = .int .i64 k ∧ q = .int .i64 (lst l k) ∧ m = .int .i64 0 ∧ la = .int .i64 (-1)) (fun _ _ _ i => n - (intOf i).toNat)
      case atStart => exact ⟨0, Nat.zero_le _, rfl, rfl, rfl, rfl⟩
      case round =>
        obtain ⟨k, hk, rfl, rfl, rfl, rfl⟩ := hrel
        by_cases hlt : k < n
        · obtain ⟨b, o, rfl, hbb, hcell⟩ := hs1.at_ (k := k) hlt
          rw [i64s_at] at hcell
          obtain ⟨b', o', rfl, hbb', hcell'⟩ := hR.at_ (k := k) hlt
          obtain ⟨e1, e2, e3, e4⟩ := SM.out k hlt
          have hm : meetsB (psum l k) (l k) s v = false := HM.out k
          have hst : Hid (lst l (k + 1) = min (lst l k) (l k)) := rfl
          have hcell'' : w1.cell? ⟨b', o' + k, none⟩ = some (.complex .f64 (F (psum l k)) (F (l k))) := hcell'
          clear hcell'
          have HS1 := Lib.hid hs1
          have HR1 := Lib.hid hR
          clear hs1 hR
          go_wp2_with fail
          refine (HSUM.out _ k (by omega) HS1.out).mono ?_
          rintro e w' ⟨rfl, rfl⟩
          go_wp2_with fail
          refine (meets_any _ _ s v _ e1 e2 e3 e4).mono ?_
          rintro e w' ⟨rfl, rfl⟩
          go_wp2_with fail
          go_round
          case rel => exact ⟨k + 1, by omega, by go_num, by rw [hst.out], rfl, rfl⟩
          case measure => simp [intOf]; omega
        · obtain rfl : k = n := by omega
          by_cases hl : 0 < lst l k
          · go_wp2_with fail
            refine (lives_yes _).mono ?_
            rintro e w2 ⟨rfl, hb2⟩
            go_wp2_with fail
            go_ret
            exact ⟨rfl, hb.trans (hb2.mono hb.size)⟩
          · go_wp2_with fail
            refine (lives_yes _).mono ?_
            rintro e w2 ⟨rfl, hb2⟩
            go_wp2_with fail
            go_ret
            exact ⟨rfl, hb.trans (hb2.mono hb.size)⟩
  · have s1 : 0 ≤ s := by omega
    have s2 : s ≤ 4611686018427387904 := by omega
    have v1 : 1 ≤ v := by omega
    have v2 : v ≤ 2147483648 := by omega
    clear bad
    go_enter Try.func7, Try.ntmps7
    go_wp2_with fail
    refine (HCK.out _ hs).mono ?_
    rintro e w' ⟨rfl, rfl⟩
    go_wp2_with fail
    refine (HSUM.out _ n (Nat.le_refl _) hs).mono ?_
    rintro e w' ⟨rfl, rfl⟩
    go_wp2_with fail
    refine (rows_any A n c l w hs HF.out (by omega)).mono ?_
    rintro e w1 (⟨_, R, rfl, hR, hb⟩ | ⟨h0, _⟩)
    case inr => exact absurd HE.out h0
    have hs1 : Sees w1 w1.heap.size A n (i64s l) := (hs.below hb).more hb.size
    have HS1 := Lib.hid hs1
    have HR1 := Lib.hid hR
    clear hs1 hR
    go_wp2_with fail
    go_loop [9, 10, 11, 13] (fun m q la i => ∃ k : Nat, k ≤ n ∧ i = .int .i64 k ∧ q = .int .i64 (lst l k) ∧ ∃ (M : Nat) (L : Int), m = .int .i64 M ∧ la = .int .i64 L ∧ Hid (Inv l s v k M L)) (fun _ _ _ i => n - (intOf i).toNat)
    case atStart => exact ⟨0, Nat.zero_le _, rfl, rfl, 0, -1, rfl, rfl, Inv.zero l s v⟩
    case round =>
      obtain ⟨k, hk, rfl, rfl, M, L, rfl, rfl, HI⟩ := hrel
      have i1 := HI.out.cnt
      have i2 := HI.out.lo
      have i3 := HI.out.hi
      by_cases hlt : k < n
      · obtain ⟨b, o, rfl, hbb, hcell⟩ := HS1.out.at_ (k := k) hlt
        rw [i64s_at] at hcell
        obtain ⟨b', o', rfl, hbb', hcell'⟩ := HR1.out.at_ (k := k) hlt
        obtain ⟨e1, e2, e3, e4⟩ := SM.out k hlt
        have hst : Hid (lst l (k + 1) = min (lst l k) (l k)) := rfl
        have hcell'' : w1.cell? ⟨b', o' + k, none⟩ = some (.complex .f64 (F (psum l k)) (F (l k))) := hcell'
        clear hcell'
        by_cases c1 : psum l k < s + v
        · by_cases c2 : s < psum l k + l k
          · have hm0 : mt l s v k = true := (mt_iff s1 s2 v1 v2 k).2 ⟨c1, c2⟩
            have hm : meetsB (psum l k) (l k) s v = true := hm0
            have HM0 := Lib.hid hm0
            clear hm0
            by_cases c3 : 0 < l k
            · have HI' := Lib.hid (HI.out.here HM0.out c3)
              by_cases c4 : 0 ≤ L
              · obtain ⟨q, rfl⟩ := Int.eq_ofNat_of_zero_le c4
                have hq := HI.out.at_ c4
                rw [Int.toNat_natCast] at hq
                have hno : Hid (∀ j : Nat, q < j → j < k → ¬ 0 < l j) := by
                  intro j h1 h2 h3
                  rcases between HC.out s1 s2 v1 v2 hlt hq.1 HM0.out h1 (by omega) with h | h
                  · have := HI.out.none_ j (by omega) h2 h3
                    rw [h] at this
                    exact absurd this (by decide)
                  · omega
                clear hq
                go_wp2_with fail
                refine (HSUM.out _ k (by omega) HS1.out).mono ?_
                rintro e w' ⟨rfl, rfl⟩
                go_wp2_with fail
                refine (meets_any _ _ s v _ e1 e2 e3 e4).mono ?_
                rintro e w' ⟨rfl, rfl⟩
                go_wp2_with fail
                go_loop [16] (fun i => ∃ j : Nat, q + 1 ≤ j ∧ j ≤ k ∧ i = .int .i64 j) (fun i => k - (intOf i).toNat)
                case atStart => exact ⟨q + 1, Nat.le_refl _, by omega, by go_num⟩
                case round =>
                  obtain ⟨j, hj1, hj2, rfl⟩ := hrel
                  by_cases hjk : j < k
                  · obtain ⟨b2, o2, e9, hbb2, hcell2⟩ := HS1.out.at_ (k := j) (by omega)
                    simp only [Option.some.injEq, Addr.mk.injEq, and_true] at e9
                    obtain ⟨rfl, rfl⟩ := e9
                    rw [i64s_at] at hcell2
                    have hnn := hno.out j (by omega) hjk
                    have hj3 : j < n := by omega
                    go_wp2_with fail
                    go_round
                    case rel => exact ⟨j + 1, by omega, by omega, by go_num⟩
                    case measure => simp [intOf]; omega
                  · obtain rfl : j = k := by omega
                    go_wp2_with fail
                    go_round
                    case rel => exact ⟨j + 1, by omega, by go_num, by rw [hst.out], M + 1, j, by go_num, rfl, HI'.out⟩
                    case measure => simp [intOf]; omega
              · go_wp2_with fail
                refine (HSUM.out _ k (by omega) HS1.out).mono ?_
                rintro e w' ⟨rfl, rfl⟩
                go_wp2_with fail
                refine (meets_any _ _ s v _ e1 e2 e3 e4).mono ?_
                rintro e w' ⟨rfl, rfl⟩
                go_wp2_with fail
                go_round
                case rel => exact ⟨k + 1, by omega, by go_num, by rw [hst.out], M + 1, k, by go_num, rfl, HI'.out⟩
                case measure => simp [intOf]; omega
            · have HI' := Lib.hid (HI.out.nought HM0.out (by omega))
              go_wp2_with fail
              refine (HSUM.out _ k (by omega) HS1.out).mono ?_
              rintro e w' ⟨rfl, rfl⟩
              go_wp2_with fail
              refine (meets_any _ _ s v _ e1 e2 e3 e4).mono ?_
              rintro e w' ⟨rfl, rfl⟩
              go_wp2_with fail
              go_round
              case rel => exact ⟨k + 1, by omega, by go_num, by rw [hst.out], M + 1, L, by go_num, rfl, HI'.out⟩
              case measure => simp [intOf]; omega
          · have hm0 : mt l s v k = false := by
              rw [← Bool.not_eq_true, mt_iff s1 s2 v1 v2 k]; omega
            have hm : meetsB (psum l k) (l k) s v = false := hm0
            have HI' := Lib.hid (HI.out.skip hm0)
            clear hm0
            go_wp2_with fail
            refine (HSUM.out _ k (by omega) HS1.out).mono ?_
            rintro e w' ⟨rfl, rfl⟩
            go_wp2_with fail
            refine (meets_any _ _ s v _ e1 e2 e3 e4).mono ?_
            rintro e w' ⟨rfl, rfl⟩
            go_wp2_with fail
            go_round
            case rel => exact ⟨k + 1, by omega, by go_num, by rw [hst.out], M, L, rfl, rfl, HI'.out⟩
            case measure => simp [intOf]; omega
        · have hm0 : mt l s v k = false := by
            rw [← Bool.not_eq_true, mt_iff s1 s2 v1 v2 k]; omega
          have hm : meetsB (psum l k) (l k) s v = false := hm0
          have HI' := Lib.hid (HI.out.skip hm0)
          clear hm0
          go_wp2_with fail
          refine (HSUM.out _ k (by omega) HS1.out).mono ?_
          rintro e w' ⟨rfl, rfl⟩
          go_wp2_with fail
          refine (meets_any _ _ s v _ e1 e2 e3 e4).mono ?_
          rintro e w' ⟨rfl, rfl⟩
          go_wp2_with fail
          go_round
          case rel => exact ⟨k + 1, by omega, by go_num, by rw [hst.out], M, L, rfl, rfl, HI'.out⟩
          case measure => simp [intOf]; omega
      · obtain rfl : k = n := by omega
        by_cases hl : 0 < lst l k
        · by_cases hM : 0 < M
          · have hml := many_le HC.out s1 s2 v1 v2 HI.out hl
            have hcb := ceilDiv_bd v (lst l k) (by omega) (by omega)
            obtain ⟨q, hq⟩ : ∃ q, ceilDiv v (lst l k) = q := ⟨_, rfl⟩
            have HQ : Hid (∀ W : World, Calls Try.prog 19 #[.int .i64 v, .int .i64 (lst l k)] W fun e w' => e = .returned (.int .i64 q) ∧ W = w') := by
              intro W; have := refCeil_any v (lst l k) W (by omega) (by omega) (by omega); rwa [hq] at this
            rw [hq] at hml hcb
            obtain ⟨q1, q2⟩ := hcb
            have hMi : (0 : Int) < (M : Int) := by omega
            clear hq
            go_wp2_with fail
            refine (HQ.out _).mono ?_
            rintro e w' ⟨rfl, rfl⟩
            go_wp2_with fail
            refine (lives_yes _).mono ?_
            rintro e w2 ⟨rfl, hb2⟩
            go_wp2_with fail
            go_ret
            exact ⟨rfl, hb.trans (hb2.mono hb.size)⟩
          · obtain rfl : M = 0 := by omega
            go_wp2_with fail
            refine (lives_yes _).mono ?_
            rintro e w2 ⟨rfl, hb2⟩
            go_wp2_with fail
            go_ret
            exact ⟨rfl, hb.trans (hb2.mono hb.size)⟩
        · go_wp2_with fail
          refine (lives_yes _).mono ?_
          rintro e w2 ⟨rfl, hb2⟩
          go_wp2_with fail
          go_ret
          exact ⟨rfl, hb.trans (hb2.mono hb.size)⟩
end Go.Proofs.Ytgfhnakjdcpfmaa

/-
  The law SpansOf.
-/
import Derived.Test.YtglgkbocmnkokaaSpaQ
import Derived.Test.YtglgkbocmnkokaaSpaLives
import Derived.BigQuiet
namespace Go.Proofs.Ytglgkbocmnkokaa
open Go.RowKit
set_option linter.unusedVariables false
set_option linter.unusedSimpArgs false

/-- A number is none of the first ones. -/
def fo (l : Nat → Int) (x : Int) : Nat → Bool
  | 0 => true
  | k + 1 => fo l x k && decide (l k ≠ x)
theorem fo_iff (l : Nat → Int) (x : Int) (k : Nat) : fo l x k = true ↔ ∀ j, j < k → l j ≠ x := by
  induction k with
  | zero => exact ⟨fun _ j hj => absurd hj (by omega), fun _ => rfl⟩
  | succ k ih =>
    show (fo l x k && decide (l k ≠ x)) = true ↔ _
    rw [Bool.and_eq_true, ih, decide_eq_true_iff]
    constructor
    · rintro ⟨h1, h2⟩ j hj
      by_cases c : j = k
      · rw [c]; exact h2
      · exact h1 j (by omega)
    · intro h
      exact ⟨fun j hj => h j (by omega), h k (by omega)⟩
/-- How many different ones there are. -/
def dd (l : Nat → Int) : Nat → Int
  | 0 => 0
  | k + 1 => dd l k + (if fo l (l k) k then 1 else 0)
theorem dd_rng (l : Nat → Int) (k : Nat) : 0 ≤ dd l k ∧ dd l k ≤ k := by
  induction k with
  | zero => exact ⟨Int.le_refl _, Int.le_refl _⟩
  | succ k ih =>
    show 0 ≤ dd l k + (if fo l (l k) k then (1 : Int) else 0) ∧ dd l k + (if fo l (l k) k then (1 : Int) else 0) ≤ ((k + 1 : Nat) : Int)
    push_cast
    split <;> omega
theorem dd_cI (l : Nat → Int) (N : Nat) (k : Nat) (h : ∀ j, j < k → 0 ≤ l j ∧ l j < N) : cI (fun i => !(fo l i k)) 0 N = dd l k := by
  induction k with
  | zero => exact cI_zero fun _ _ _ => rfl
  | succ k ih =>
    have e1 : cI (fun i => !(fo l i (k + 1))) 0 N = cI (fun i => (!(fo l i k)) || (decide (l k ≤ i) && decide (i < l k + 1))) 0 N := cI_congr fun i _ _ => by
      show (!(fo l i k && decide (l k ≠ i))) = _
      by_cases c : l k = i
      · rw [decide_eq_false (fun q => q c), Bool.and_false, decide_eq_true (by omega), decide_eq_true (by omega)]; simp
      · rw [decide_eq_true c, Bool.and_true]
        by_cases d : l k ≤ i
        · rw [decide_eq_false (show ¬ i < l k + 1 by omega)]; simp
        · rw [decide_eq_false d]; simp
    have e2 := cI_or (fun i => !(fo l i k)) (fun i => decide (l k ≤ i) && decide (i < l k + 1)) 0 N
    have hk := h k (by omega)
    rw [cI_seg _ _ _ _ (by omega), ih fun j hj => h j (by omega)] at e2
    rw [e1]
    show _ = dd l k + (if fo l (l k) k then (1 : Int) else 0)
    by_cases c : fo l (l k) k = true
    · have z : cI (fun i => (!(fo l i k)) && (decide (l k ≤ i) && decide (i < l k + 1))) 0 N = 0 := cI_zero fun i _ _ => by
        by_cases d : i = l k
        · rw [d, c]; rfl
        · by_cases d2 : l k ≤ i
          · rw [decide_eq_false (show ¬ i < l k + 1 by omega)]; simp
          · rw [decide_eq_false d2]; simp
      rw [if_pos c]
      omega
    · have z : cI (fun i => (!(fo l i k)) && (decide (l k ≤ i) && decide (i < l k + 1))) 0 N = cI (fun i => decide (l k ≤ i) && decide (i < l k + 1)) 0 N := cI_congr fun i _ _ => by
        by_cases d : i = l k
        · rw [d, Bool.eq_false_iff.2 c]; rfl
        · by_cases d2 : l k ≤ i
          · rw [decide_eq_false (show ¬ i < l k + 1 by omega)]; simp
          · rw [decide_eq_false d2]; simp
      rw [cI_seg _ _ _ _ (by omega)] at z
      rw [if_neg c]
      omega
theorem NFfrom.len_cnt {lo : Int} {L : Sp} (h : NFfrom lo L) : (L.length : Int) ≤ cntS L := by
  induction L generalizing lo with
  | nil => exact Int.le_refl _
  | cons s r ih =>
    obtain ⟨h1, h2, h3, h4⟩ := h
    have := ih h4
    show ((r.length + 1 : Nat) : Int) ≤ s.2 - s.1 + cntS r
    push_cast
    omega
def zs (l : Nat → Int) (n : Nat) : List Int := (List.range n).map l
theorem zs_len (l : Nat → Int) (n : Nat) : (zs l n).length = n := by simp [zs]
theorem zs_at (l : Nat → Int) (n : Nat) {j : Nat} (h : j < n) : (zs l n)[j]?.getD 0 = l j := by simp [zs, h]
theorem zs_mem (l : Nat → Int) (n : Nat) (x : Int) : x ∈ zs l n ↔ ∃ j, j < n ∧ l j = x := by simp [zs]
theorem of_cnt {l : Nat → Int} {n : Nat} {R : Sp} (hR : NF R) (hm : ∀ i, memS R i ↔ i ∈ zs l n) (hg : ¬ badPlace (zs l n)) : cntS R = dd l n := by
  have hb : ∀ j, j < n → 0 ≤ l j ∧ l j < 1073741824 := fun j hj => by
    by_cases c : l j < 0 ∨ 1073741824 ≤ l j
    · exact absurd ⟨l j, (zs_mem _ _ _).2 ⟨j, hj, rfl⟩, c⟩ hg
    · omega
  rw [NF.cnt hR (m := 1073741824) (by omega), ← dd_cI l 1073741824 n (fun j hj => by have := hb j hj; omega)]
  refine cI_congr fun i _ _ => ?_
  rw [Bool.eq_iff_iff, anyS_iff, hm, zs_mem]
  show _ ↔ (!(fo l i n)) = true
  by_cases c : fo l i n = true
  · rw [c]
    constructor
    · rintro ⟨j, hj, e⟩; exact absurd e ((fo_iff _ _ _).1 c j hj)
    · intro q; cases q
  · rw [Bool.eq_false_iff.2 c]
    refine ⟨fun _ => rfl, fun _ => ?_⟩
    rw [fo_iff] at c
    simp only [Classical.not_forall, Decidable.not_not] at c
    obtain ⟨j, hj, e⟩ := c
    exact ⟨j, hj, e⟩

set_option maxRecDepth 100000 in
set_option maxHeartbeats 6400000 in
theorem law_of (A : Option Addr) (n c : Nat) (l : Nat → Int) (w : World) (s : Sees w w.heap.size A n (i64s l)) (hf : ∀ k, Fits (l k)) (hc : n ≤ c) (hM : c ≤ maxLen) :
    Calls Try.prog 4 #[.slice A n c] w fun e w' => e = .returned (.bool true) ∧ Below w.heap.size w w' := by
  have HS := Lib.hid s
  have HF := Lib.hid hf
  have hm : n ≤ 9223372036854775807 := Nat.le_trans hc hM
  by_cases hbig : 60 < n
  · clear s hf hc hM
    go_enter Try.func4, Try.ntmps4
    go_wp2_with fail
    refine (lives_yes w).mono ?_
    rintro e w2 ⟨rfl, hb⟩
    have D := Lib.hid hb
    clear hb
    go_wp2_with fail
    go_ret
    exact ⟨rfl, D.out⟩
  have hI : IntsAt w.heap.size w (.slice A (zs l n).length c) (zs l n) := by
    rw [zs_len]
    cases n with
    | zero => exact .inl ⟨⟨_, _, rfl⟩, rfl⟩
    | succ k =>
      obtain ⟨b, o, rfl, h2, h3⟩ := s (by omega)
      exact .inr ⟨b, o, c, by rw [zs_len], h2, fun j hj => by rw [zs_len] at hj; rw [zs_at _ _ hj]; exact h3 j hj⟩
  have K1 := Lib.hid (sof_any w A c (zs l n) hI (by rw [zs_len]; omega) (fun x hx => by obtain ⟨j, _, rfl⟩ := (zs_mem _ _ _).1 hx; exact hf j))
  rw [zs_len] at K1
  clear s hf hc hM hI
  by_cases hbad : badPlace (zs l n)
  · have HB := Lib.hid hbad
    clear hbad
    go_enter Try.func4, Try.ntmps4
    go_wp2_with fail
    refine (K1.out).mono ?_
    rintro e w2 hp
    obtain ⟨A1, rfl, q1, hb⟩ := hp.bad HB.out
    have D2 := Lib.hid hb
    clear q1 hb K1
    go_wp2_with fail
    go_loopw [5] (fun i wr => ∃ k : Nat, k ≤ n ∧ i = .int .i64 k ∧ Hid (∀ j, j < k → 0 ≤ l j ∧ l j < 1073741824) ∧ Hid (Below w.heap.size w wr)) (fun i _ => n - (intOf i).toNat)
    case atStart => exact ⟨0, Nat.zero_le _, rfl, fun j hj => absurd hj (by omega), D2⟩
    case round =>
      obtain ⟨k, hk, rfl, hG, hD⟩ := hrel
      clear D2
      by_cases hlt : k < n
      · obtain ⟨b, o, rfl, _, h3⟩ := (HS.out.below hD.out) (by omega)
        have c0 := h3 k hlt
        rw [i64s_at] at c0
        obtain ⟨x, ex⟩ : ∃ x, x = l k := ⟨_, rfl⟩
        rw [← ex] at c0
        have EXX := Lib.hid ex
        clear h3 ex
        have hki : (k : Int) < (n : Int) := by omega
        by_cases t1 : x < 0
        · have K3 := Lib.hid (same_yes wr A1 none 0 _ 0 [] 4 (fun h => absurd h (by decide)) (seesP_nil _ _) (Nat.zero_le _) (Nat.zero_le _) (by decide))
          go_wp2_with fail
          refine (K3.out).mono ?_
          rintro e w3 ⟨rfl, hb⟩
          have D3 : Hid (Below w.heap.size w w3) := hD.out.trans (hb.mono hD.out.size)
          clear hb K3 hD
          go_wp2_with fail
          refine (lives_yes w3).mono ?_
          rintro e w4 ⟨rfl, hb⟩
          have D4 : Hid (Below w.heap.size w w4) := D3.out.trans (hb.mono D3.out.size)
          clear hb D3
          go_wp2_with fail
          go_ret
          exact ⟨rfl, D4.out⟩
        by_cases t2 : 1073741824 ≤ x
        · have K3 := Lib.hid (same_yes wr A1 none 0 _ 0 [] 4 (fun h => absurd h (by decide)) (seesP_nil _ _) (Nat.zero_le _) (Nat.zero_le _) (by decide))
          go_wp2_with fail
          refine (K3.out).mono ?_
          rintro e w3 ⟨rfl, hb⟩
          have D3 : Hid (Below w.heap.size w w3) := hD.out.trans (hb.mono hD.out.size)
          clear hb K3 hD
          go_wp2_with fail
          refine (lives_yes w3).mono ?_
          rintro e w4 ⟨rfl, hb⟩
          have D4 : Hid (Below w.heap.size w w4) := D3.out.trans (hb.mono D3.out.size)
          clear hb D3
          go_wp2_with fail
          go_ret
          exact ⟨rfl, D4.out⟩
        have HG : Hid (∀ j, j < k + 1 → 0 ≤ l j ∧ l j < 1073741824) := fun j hj => by
          by_cases c : j = k
          · rw [c, ← EXX.out]; omega
          · exact hG.out j (by omega)
        go_wp2_with fail
        go_roundw
        case rel => exact ⟨k + 1, by omega, by go_num, HG, hD⟩
        case measure => simp [intOf]; omega
      · obtain rfl : k = n := by omega
        exfalso
        obtain ⟨x, hx, hb⟩ := HB.out
        obtain ⟨j, hj, rfl⟩ := (zs_mem _ _ _).1 hx
        have := hG.out j hj
        omega
  · have HG : Hid (∀ j, j < n → 0 ≤ l j ∧ l j < 1073741824) := fun j hj => by
      by_cases c : l j < 0 ∨ 1073741824 ≤ l j
      · exact absurd ⟨l j, (zs_mem _ _ _).2 ⟨j, hj, rfl⟩, c⟩ hbad
      · omega
    have HB := Lib.hid hbad
    clear hbad
    go_enter Try.func4, Try.ntmps4
    go_wp2_with fail
    refine (K1.out).mono ?_
    rintro e w2 hp
    obtain ⟨R, A1, rfl, hR, hme, hcn, hln, q1, hb⟩ : ∃ R A1, e = .returned (.tuple #[.slice A1 R.length R.length, .int .i64 0]) ∧ NF R ∧ (∀ i, memS R i ↔ i ∈ zs l n) ∧ cntS R = dd l n ∧ R.length ≤ 60 ∧ SeesP w2 w2.heap.size A1 R ∧ Below w.heap.size w w2 := by
      rcases hp with ⟨h, _⟩ | ⟨h, R, hR, hme, hS⟩
      · exact absurd h HB.out
      · have hcn := of_cnt hR hme h
        have h1 := NFfrom.len_cnt hR
        have h2 := dd_rng l n
        rw [(dS_le (by omega)).1, (dS_le (by omega)).2] at hS
        obtain ⟨A1, e1, e2, e3⟩ := hS
        exact ⟨R, A1, e1, hR, hme, hcn, by omega, e2, e3⟩
    have hz : chkS R = 0 := chkS_zero.2 ⟨hR, by omega⟩
    have HZ := Lib.hid hz
    have HR := Lib.hid hR
    have HME : Hid (∀ j, j < n → anyS R (l j) = true) := fun j hj => (anyS_iff _ _).2 ((hme _).2 ((zs_mem _ _ _).2 ⟨j, hj, rfl⟩))
    have HCN := Lib.hid hcn
    have D2 := Lib.hid hb
    have S2 := Lib.hid q1
    clear q1 hb K1 hz hR hme hcn hp
    go_wp2_with fail
    go_loopw [5] (fun i wr => ∃ k : Nat, k ≤ n ∧ i = .int .i64 k ∧ Hid (Below w2.heap.size w2 wr)) (fun i _ => n - (intOf i).toNat)
    case atStart => exact ⟨0, Nat.zero_le _, rfl, Below.refl _ _⟩
    case round =>
      obtain ⟨k, hk, rfl, hD⟩ := hrel
      by_cases hlt : k < n
      · obtain ⟨b, o, rfl, _, h3⟩ := ((HS.out.below D2.out).below (hD.out.mono D2.out.size)) (by omega)
        have c0 := h3 k hlt
        rw [i64s_at] at c0
        obtain ⟨g1, g2⟩ := HG.out k hlt
        obtain ⟨x, ex⟩ : ∃ x, x = l k := ⟨_, rfl⟩
        rw [← ex] at c0 g1 g2
        clear h3 ex
        have hki : (k : Int) < (n : Int) := by omega
        go_wp2_with fail
        go_roundw
        case rel => exact ⟨k + 1, by omega, by go_num, hD⟩
        case measure => simp [intOf]; omega
      · obtain rfl : k = n := by omega
        have K3 := Lib.hid (check_any wr w2.heap.size A1 R.length R (S2.out.below hD.out) hD.out.size (NF.fits HR.out) (by omega))
        rw [HZ.out] at K3
        go_wp2_with fail
        refine (K3.out).mono ?_
        rintro e w3 ⟨rfl, hb⟩
        have D3 : Hid (Below w2.heap.size w2 w3) := hD.out.trans (hb.mono hD.out.size)
        clear hb K3 hD hk hlt
        go_wp2_with fail
        go_loopw [6, 7] (fun a i wr => ∃ q : Nat, q ≤ k ∧ i = .int .i64 q ∧ a = .int .i64 (dd l q) ∧ Hid (Below w2.heap.size w2 wr)) (fun _ i _ => k - (intOf i).toNat)
        case atStart => exact ⟨0, Nat.zero_le _, rfl, rfl, D3⟩
        case round =>
          obtain ⟨q, hq, rfl, rfl, hD⟩ := hrel
          clear D3
          obtain ⟨y0, y1⟩ := dd_rng l q
          have YE : Hid (dd l (q + 1) = dd l q + (if fo l (l q) q then 1 else 0)) := rfl
          obtain ⟨y, ey⟩ : ∃ y, y = dd l q := ⟨_, rfl⟩
          rw [← ey] at y0 y1 YE ⊢
          have EYY := Lib.hid ey
          clear ey
          by_cases hlt : q < k
          · have hqi : (q : Int) < (k : Int) := by omega
            go_wp2_with fail
            go_loopw [8, 9] (fun f j wr => ∃ m : Nat, m ≤ q ∧ j = .int .i64 m ∧ f = .bool (fo l (l q) m) ∧ Hid (Below w2.heap.size w2 wr)) (fun _ j _ => q - (intOf j).toNat)
            case atStart => exact ⟨0, Nat.zero_le _, rfl, rfl, hD⟩
            case round =>
              obtain ⟨m, hm', rfl, rfl, hD'⟩ := hrel
              clear hD
              obtain ⟨b, o, rfl, hbl, h3⟩ := ((HS.out.below D2.out).below (hD'.out.mono D2.out.size)) (by omega)
              have c1 := h3 q hlt
              rw [i64s_at] at c1
              by_cases hmq : m < q
              · have c0 := h3 m (by omega)
                rw [i64s_at] at c0
                have hmi : (m : Int) < (k : Int) := by omega
                have FE : Hid (fo l (l q) (m + 1) = (fo l (l q) m && decide (l m ≠ l q))) := rfl
                obtain ⟨x, ex⟩ : ∃ x, x = l q := ⟨_, rfl⟩
                rw [← ex] at c1 FE YE ⊢
                obtain ⟨z, ez⟩ : ∃ x, x = l m := ⟨_, rfl⟩
                rw [← ez] at c0 FE
                obtain ⟨f, ef⟩ : ∃ f, f = fo l x m := ⟨_, rfl⟩
                rw [← ef] at FE ⊢
                clear h3 ex ez ef
                cases f with
                | false =>
                  go_wp2_with fail
                  go_quiet (fail)
                  go_wp2_with fail
                  go_roundw
                  case rel => exact ⟨m + 1, by omega, by go_num, by rw [FE.out]; rfl, hD'.out.trans (((Drawn.refl _).drewN _).below _)⟩
                  case measure => simp [intOf]; omega
                | true =>
                  have c2 : ∀ v, (wr.drewN v).cell? ⟨b, o + q, none⟩ = some (.int .i64 x) := fun _ => c1
                  by_cases hzx : z = x
                  · have e1 : (z != x) = false := by rw [hzx, bne_self_eq_false]
                    go_wp2_with fail
                    go_quiet (fail)
                    go_wp2_with fail
                    go_roundw
                    case rel => exact ⟨m + 1, by omega, by go_num, by rw [FE.out, decide_eq_false (fun q => q hzx)]; simp [e1, hzx], hD'.out.trans (((Drawn.refl _).drewN _).below _)⟩
                    case measure => simp [intOf]; omega
                  · have e1 : (z != x) = true := by rw [bne_iff_ne]; exact hzx
                    go_wp2_with fail
                    go_quiet (fail)
                    go_wp2_with fail
                    go_roundw
                    case rel => exact ⟨m + 1, by omega, by go_num, by rw [FE.out, decide_eq_true hzx]; simp [e1, hzx], hD'.out.trans (((Drawn.refl _).drewN _).below _)⟩
                    case measure => simp [intOf]; omega
              · obtain rfl : m = q := by omega
                have K4 := Lib.hid (has_any wr w2.heap.size A1 R.length R (l m) (S2.out.below hD'.out) hD'.out.size (NF.fits HR.out) (by omega))
                unfold hasS at K4
                rw [HZ.out, HME.out m hlt] at K4
                rw [show (decide ((0 : Int) = 0) && true) = true from rfl] at K4
                obtain ⟨x, ex⟩ : ∃ x, x = l m := ⟨_, rfl⟩
                rw [← ex] at c1 K4 YE ⊢
                obtain ⟨f, ef⟩ : ∃ f, f = fo l x m := ⟨_, rfl⟩
                rw [← ef] at YE ⊢
                clear h3 ex ef
                have hyb : y + 1 ≤ 61 := by omega
                cases f with
                | false =>
                  have YE2 : Hid (dd l (m + 1) = y) := by show _ = _; rw [YE.out]; exact Int.add_zero y
                  clear YE
                  go_wp2_with fail
                  refine (K4.out).mono ?_
                  rintro e w5 ⟨rfl, hb⟩
                  have D5 : Hid (Below w2.heap.size w2 w5) := hD'.out.trans (hb.mono hD'.out.size)
                  clear hb K4 hD'
                  go_wp2_with fail
                  go_roundw
                  case rel => exact ⟨m + 1, by omega, by go_num, by rw [YE2.out], D5⟩
                  case measure => simp [intOf]; omega
                | true =>
                  have YE2 : Hid (dd l (m + 1) = y + 1) := by show _ = _; rw [YE.out]; rfl
                  clear YE
                  go_wp2_with fail
                  refine (K4.out).mono ?_
                  rintro e w5 ⟨rfl, hb⟩
                  have D5 : Hid (Below w2.heap.size w2 w5) := hD'.out.trans (hb.mono hD'.out.size)
                  clear hb K4 hD'
                  go_wp2_with fail
                  go_roundw
                  case rel => exact ⟨m + 1, by omega, by go_num, by rw [YE2.out], D5⟩
                  case measure => simp [intOf]; omega
          · obtain rfl : q = k := by omega
            have K4 := Lib.hid (count_any wr w2.heap.size A1 R.length R (S2.out.below hD.out) hD.out.size (NF.fits HR.out) (by omega))
            unfold countS at K4
            rw [HZ.out, if_pos rfl, HCN.out, ← EYY.out] at K4
            clear YE
            go_wp2_with fail
            refine (K4.out).mono ?_
            rintro e w5 ⟨rfl, hb⟩
            have D5 : Hid (Below w2.heap.size w2 w5) := hD.out.trans (hb.mono hD.out.size)
            clear hb K4 hD
            go_wp2_with fail
            refine (lives_yes w5).mono ?_
            rintro e w6 ⟨rfl, hb⟩
            have D6 : Hid (Below w2.heap.size w2 w6) := D5.out.trans (hb.mono D5.out.size)
            clear hb D5
            go_wp2_with fail
            go_ret
            exact ⟨rfl, D2.out.trans (D6.out.mono D2.out.size)⟩
end Go.Proofs.Ytglgkbocmnkokaa

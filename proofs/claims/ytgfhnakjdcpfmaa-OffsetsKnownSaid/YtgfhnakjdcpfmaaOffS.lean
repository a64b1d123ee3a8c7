/-
  Contract of Slide.
-/
import Derived.Test.YtgfhnakjdcpfmaaOffC
import Derived.Laws.ComplexArith
import Derived.WalkMore
import Derived.Scope
import Derived.Outline
import Derived.Test.YtgfhnakjdcpfmaaOffB
import Derived.Test.YtgfhnakjdcpfmaaOffA
namespace Go.Proofs.Ytgfhnakjdcpfmaa
open Go.RowKit
set_option linter.unusedVariables false
set_option linter.unusedSimpArgs false

/-- A top that is none. -/
def outB (t : Int) : Bool := decide (t < 0 ∨ 9007199254740992 ≤ t)
/-- One of the first k rows comes to stand too far. -/
def farTo (x : Nat → Int) (b : Int) : Nat → Bool
  | 0 => false
  | k + 1 => farTo x b k || outB (satPlus (x k) b)
theorem farTo_mono {x : Nat → Int} {b : Int} {j k : Nat} (h : farTo x b k = false) (hj : j < k) : outB (satPlus (x j) b) = false := by
  induction k with
  | zero => omega
  | succ k ih =>
    unfold farTo at h
    rw [Bool.or_eq_false_iff] at h
    by_cases e : j = k
    · subst e; exact h.2
    · exact ih h.1 (by omega)
theorem farTo_of {x : Nat → Int} {b : Int} {k : Nat} (h : ∀ j, j < k → outB (satPlus (x j) b) = false) : farTo x b k = false := by
  induction k with
  | zero => rfl
  | succ k ih => unfold farTo; rw [ih (fun j hj => h j (by omega)), h k (by omega)]; rfl
theorem outB_false {t : Int} (h : outB t = false) : 0 ≤ t ∧ t < 9007199254740992 := by
  unfold outB at h
  rw [decide_eq_false_iff_not] at h
  omega
theorem outB_true {t : Int} (h : outB t = true) : t < 0 ∨ 9007199254740992 ≤ t := by
  unfold outB at h
  rwa [decide_eq_true_iff] at h

/-- What has been written behind k rounds. -/
def slidTo (x y : Nat → Int) (b : Int) (k : Nat) : Nat → Value := fun j => if j < k then (if outB (satPlus (x j) b) then .complex .f64 0 0 else .complex .f64 (F (satPlus (x j) b)) (F (y j))) else .complex .f64 0 0

theorem slidTo_ge (x y : Nat → Int) (b : Int) {k j : Nat} (h : k ≤ j) : slidTo x y b k j = .complex .f64 0 0 := by unfold slidTo; rw [if_neg (by omega)]
theorem slidTo_lt (x y : Nat → Int) (b : Int) {k j : Nat} (h : j < k) : slidTo x y b k j = if outB (satPlus (x j) b) then .complex .f64 0 0 else .complex .f64 (F (satPlus (x j) b)) (F (y j)) := by unfold slidTo; rw [if_pos h]
theorem slidTo_out {x y : Nat → Int} {b : Int} {k : Nat} (h : outB (satPlus (x k) b) = true) (j : Nat) : slidTo x y b k j = slidTo x y b (k + 1) j := by
  rcases Nat.lt_trichotomy j k with c | c | c
  · rw [slidTo_lt _ _ _ c, slidTo_lt _ _ _ (by omega)]
  · subst c; rw [slidTo_ge _ _ _ (Nat.le_refl _), slidTo_lt _ _ _ (by omega), if_pos h]
  · rw [slidTo_ge _ _ _ (by omega), slidTo_ge _ _ _ (by omega)]
theorem slidTo_in {x y : Nat → Int} {b : Int} {k : Nat} (h : outB (satPlus (x k) b) = false) (j : Nat) : (if j = k then .complex .f64 (F (satPlus (x k) b)) (F (y k)) else slidTo x y b k j) = slidTo x y b (k + 1) j := by
  rcases Nat.lt_trichotomy j k with c | c | c
  · rw [if_neg (by omega), slidTo_lt _ _ _ c, slidTo_lt _ _ _ (by omega)]
  · subst c; rw [if_pos rfl, slidTo_lt _ _ _ (by omega), if_neg (by rw [h]; decide)]
  · rw [if_neg (by omega), slidTo_ge _ _ _ (by omega), slidTo_ge _ _ _ (by omega)]
theorem farTo_out {x : Nat → Int} {b : Int} {k : Nat} (h : outB (satPlus (x k) b) = true) : farTo x b (k + 1) = true := by unfold farTo; rw [h, Bool.or_true]
theorem farTo_in {x : Nat → Int} {b : Int} {k : Nat} (h : outB (satPlus (x k) b) = false) : farTo x b (k + 1) = farTo x b k := by
  show (farTo x b k || outB (satPlus (x k) b)) = _
  rw [h, Bool.or_false]

/-- What Slide returns. -/
def SlideOk (n : Nat) (x y : Nat → Int) (b : Int) (w : World) (e : Ending) (w' : World) : Prop :=
  ∃ A, e = .returned (.tuple #[.slice A n n, .int .i64 0]) ∧ Sees w' w'.heap.size A n (fun j => .complex .f64 (F (satPlus (x j) b)) (F (y j))) ∧ Below w.heap.size w w'
def SlideAny (n : Nat) (x y : Nat → Int) (b : Int) (w : World) (e : Ending) (w' : World) : Prop :=
  (farTo x b n = false ∧ SlideOk n x y b w e w') ∨ (farTo x b n = true ∧ RowsBad 13 w e w')

theorem sum_F (x t y : Int) (hx : x.natAbs < 9007199254740992) (ht : t.natAbs < 9007199254740992) (hd : (t - x).natAbs < 9007199254740992) (hy : y.natAbs < 9007199254740992) :
    cSumBits .add .f64 (F x) (F y) (F (t - x)) (F 0) = some (F t, F y) := by
  have h1 := add_F x (t - x) hx hd (by rw [show x + (t - x) = t from by omega]; exact ht)
  have h2 := add_F y 0 hy (by decide) (by rw [Int.add_zero]; exact hy)
  rw [show x + (t - x) = t from by omega] at h1
  rw [Int.add_zero] at h2
  have e1 : floatBits .add .f64 (F x) (F (t - x)) = some (F t) := h1
  have e2 : floatBits .add .f64 (F y) (F 0) = some (F y) := h2
  unfold cSumBits
  rw [e1, e2]; rfl

attribute [local go_sem] run_store_complex'

theorem slide_limit (A : Option Addr) (n c : Nat) (b : Int) (w : World) (h : 4096 < n) :
    Calls Try.prog 26 #[.slice A n c, .int .i64 b] w fun e w' => e = .returned (.tuple #[.slice none 0 0, .int .i64 3]) ∧ w = w' := by
  go_enter Try.func26, Try.ntmps26
  go_wp2_with fail
  go_step3
  go_wp2_with fail
  rw [Exit.noGoto_ret]
  go_ret2
  exact ⟨rfl, rfl⟩

set_option maxRecDepth 100000 in
set_option maxHeartbeats 3200000 in
theorem slide_any (A : Option Addr) (n c : Nat) (x y : Nat → Int) (b : Int) (w : World) (hs : Sees w w.heap.size A n (fun j => .complex .f64 (F (x j)) (F (y j)))) (hx : ∀ j, j < n → 0 ≤ x j ∧ x j < 9007199254740992) (hy : ∀ j, j < n → 0 ≤ y j ∧ y j < 9007199254740992) (fb : Fits b) (hn : n ≤ 4096) :
    Calls Try.prog 26 #[.slice A n c, .int .i64 b] w (SlideAny n x y b w) := by
  have HS := Lib.hid hs
  have HX := Lib.hid hx
  have HY := Lib.hid hy
  obtain ⟨fb1, fb2⟩ := fb
  clear hs hx hy
  by_cases hn0 : n = 0
  · subst hn0
    have H : Hid (SlideAny 0 x y b w (.returned (.tuple #[.slice none 0 0, .int .i64 0])) w) := .inl ⟨rfl, none, rfl, Sees.nil, Below.refl _ _⟩
    go_enter Try.func26, Try.ntmps26
    go_wp2_with fail
    go_step3
    go_wp2_with fail
    rw [Exit.noGoto_ret]
    go_ret2
    exact H.out
  · have hne : ((n : Int) == 0) = false := by simp; omega
    have hmk := make_c128 n n rfl (by omega)
    go_enter Try.func26, Try.ntmps26
    go_wp2_with fail
    go_step3
    go_wp2_with fail
    clear hmk
    go_step3
    go_wp2_with fail
    have hst : Hid ((w.alloc (.cells (madeCells #[.complex .f64 0 0] n) 46)).rowIs w.heap.size 46 n (slidTo x y b 0)) := (World.rowIs_made w (.complex .f64 0 0) n 46).congr (fun j _ => by unfold slidTo; rw [if_neg (by omega)])
    have hbl : Hid (Below w.heap.size w (w.alloc (.cells (madeCells #[.complex .f64 0 0] n) 46))) := (Below.refl _ _).alloc (Nat.le_refl _) _
    go_loopw [7, 25] (fun f i wr => ∃ k : Nat, k ≤ n ∧ i = .int .i64 k ∧ f = .bool (farTo x b k) ∧ Hid (wr.rowIs w.heap.size 46 n (slidTo x y b k)) ∧ Hid (Below w.heap.size w wr)) (fun _ i _ => n - (intOf i).toNat)
    case atStart => exact ⟨0, Nat.zero_le _, rfl, rfl, hst, hbl⟩
    case round =>
      obtain ⟨k, hk, rfl, rfl, hR, hB⟩ := hrel
      clear hst hbl
      by_cases hlt : k < n
      · obtain ⟨bb, o, rfl, _, hc⟩ := (HS.out.below hB.out).at_ hlt
        obtain ⟨x1, x2⟩ := HX.out k hlt
        obtain ⟨y1, y2⟩ := HY.out k hlt
        obtain ⟨t1, t2⟩ := satPlus_bd (x k) b
        have hck := hR.out.cell (i := k) hlt
        have hfz := hR.out.frozen k
        rw [slidTo_ge _ _ _ (Nat.le_refl _)] at hck
        have hP := Lib.hid (fun W => plus_any (x k) b W (by omega) (by omega) fb1 fb2)
        have hrun : 0 ≤ satPlus (x k) b → satPlus (x k) b < 9007199254740992 → ∀ W, (binOp .add 46 (.complex .f64 (F (x k)) (F (y k))) (.complex .f64 (floatOfInt .f64 (satPlus (x k) b - x k)) 0)).run Try.prog W = .ok (.complex .f64 (F (satPlus (x k) b)) (F (y k))) W := fun h1 h2 W =>
          run_complex_sum W .add (.inl rfl) _ .f64 _ _ _ _ _ _ (sum_F (x k) (satPlus (x k) b) (y k) (by omega) (by omega) (by omega) (by omega))
        have HO : Hid (outB (satPlus (x k) b) = true → wr.rowIs w.heap.size 46 n (slidTo x y b (k + 1)) ∧ farTo x b (k + 1) = true) := fun h => ⟨hR.out.congr fun j _ => slidTo_out h j, farTo_out h⟩
        have HI : Hid (outB (satPlus (x k) b) = false → (wr.setCell ⟨w.heap.size, k, none⟩ (.complex .f64 (F (satPlus (x k) b)) (F (y k)))).rowIs w.heap.size 46 n (slidTo x y b (k + 1)) ∧ farTo x b (k + 1) = farTo x b k) := fun h => ⟨(hR.out.set k _).congr fun j _ => slidTo_in h j, farTo_in h⟩
        have HB2 := Lib.hid (hB.out.setCell (p := ⟨w.heap.size, k, none⟩) (Nat.le_refl _) (.complex .f64 (F (satPlus (x k) b)) (F (y k))))
        obtain ⟨T, hT⟩ : ∃ T, T = satPlus (x k) b := ⟨_, rfl⟩
        rw [← hT] at hP t1 t2 hrun HO HI HB2
        clear hT
        have HRun := Lib.hid hrun
        clear hrun
        by_cases h1 : T < 0
        · obtain ⟨HR2, HF2⟩ := HO.out (by unfold outB; rw [decide_eq_true_iff]; exact .inl h1)
          have HR3 := Lib.hid HR2
          have HF3 := Lib.hid HF2
          clear HR2 HF2 HO HI HRun hR
          go_wp2_with fail
          refine (parts_any (x k) (y k) _ x1 x2 y1 y2).mono ?_
          rintro e w' ⟨rfl, rfl⟩
          go_wp2_with fail
          refine (hP.out _).mono ?_
          rintro e w' ⟨rfl, rfl⟩
          go_wp2_with fail
          go_roundw
          case rel => exact ⟨k + 1, by omega, by go_num, by rw [HF3.out], HR3, hB⟩
          case measure => simp [intOf]; omega
        by_cases h2 : 9007199254740992 ≤ T
        · obtain ⟨HR2, HF2⟩ := HO.out (by unfold outB; rw [decide_eq_true_iff]; exact .inr h2)
          have HR3 := Lib.hid HR2
          have HF3 := Lib.hid HF2
          clear HR2 HF2 HO HI HRun hR
          go_wp2_with fail
          refine (parts_any (x k) (y k) _ x1 x2 y1 y2).mono ?_
          rintro e w' ⟨rfl, rfl⟩
          go_wp2_with fail
          refine (hP.out _).mono ?_
          rintro e w' ⟨rfl, rfl⟩
          go_wp2_with fail
          go_roundw
          case rel => exact ⟨k + 1, by omega, by go_num, by rw [HF3.out], HR3, hB⟩
          case measure => simp [intOf]; omega
        · obtain ⟨HR2, HF2⟩ := HI.out (by unfold outB; rw [decide_eq_false_iff_not]; omega)
          have HR3 := Lib.hid HR2
          have HF3 := Lib.hid HF2
          have hr := HRun.out (by omega) (by omega)
          have hki : (k : Int) < (n : Int) := by omega
          clear HR2 HF2 HO HI HRun hR
          go_wp2_with fail
          refine (parts_any (x k) (y k) _ x1 x2 y1 y2).mono ?_
          rintro e w' ⟨rfl, rfl⟩
          go_wp2_with fail
          refine (hP.out _).mono ?_
          rintro e w' ⟨rfl, rfl⟩
          go_wp2_with fail
          go_roundw
          case rel => exact ⟨k + 1, by omega, by go_num, by rw [HF3.out], HR3, HB2⟩
          case measure => simp [intOf]; omega
      · obtain rfl : k = n := by omega
        cases hfar : farTo x b k with
        | true =>
          have H : Hid (SlideAny k x y b w (.returned (.tuple #[.slice none 0 0, .int .i64 13])) wr) := .inr ⟨hfar, rfl, hB.out⟩
          clear hfar hR hB
          go_wp2_with fail
          rw [Exit.noGoto_ret]
          go_ret2
          exact H.out
        | false =>
          have H : Hid (SlideAny k x y b w (.returned (.tuple #[.slice (some ⟨w.heap.size, 0, none⟩) k k, .int .i64 0])) wr) := .inl ⟨hfar, _, rfl, Sees.row (hR.out.congr fun j hj => by rw [slidTo_lt _ _ _ hj, if_neg (by rw [farTo_mono hfar hj]; decide)]) (Nat.le_refl _), hB.out⟩
          clear hfar hR hB
          go_wp2_with fail
          rw [Exit.noGoto_ret]
          go_ret2
          exact H.out
end Go.Proofs.Ytgfhnakjdcpfmaa

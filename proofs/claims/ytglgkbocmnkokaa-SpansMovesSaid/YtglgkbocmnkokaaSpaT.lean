/-
  The reference of layer 1: Insert, Remove of marks.
-/
import Derived.Test.YtglgkbocmnkokaaSpaS
import Derived.Test.YtglgkbocmnkokaaSliceL
namespace Go.Proofs.Ytglgkbocmnkokaa
open Go.RowKit
set_option linter.unusedVariables false
set_option linter.unusedSimpArgs false

def insM (m : Nat → Bool) (a d : Nat) : Nat → Bool := fun i => if i < a then m i else if i < a + d then false else m (i - d)
def remM (m : Nat → Bool) (a d : Nat) : Nat → Bool := fun i => if i < a then m i else m (i + d)
theorem sl_h (A : Option Addr) (n c hi : Nat) (h2 : hi ≤ c) : ∀ wx, (Instr.sliceAt 39 (.slice A n c) none (some (.int .i64 hi)) none).run Try.prog wx = .ok (.slice A hi c) wx :=
  slice_h Try.underlying39 infoB1 A n c hi h2
theorem sl_l (A : Option Addr) (n c lo : Nat) (h2 : lo ≤ n) : ∀ wx, (Instr.sliceAt 39 (.slice A n c) (some (.int .i64 lo)) none none).run Try.prog wx = .ok (.slice (subA A c lo 1) (n - lo) (c - lo)) wx :=
  slice_l Try.underlying39 infoB1 A n c lo h2
/-- append of marks to own ones. -/
theorem appB (w : World) (B : Nat) {k c : Nat} {A : Option Addr} {f : Nat → Value} (O : Own w B 4 1 k c A f) (hB : B ≤ w.heap.size) {A2 : Option Addr} {n2 c2 B2 : Nat} {m2 : Nat → Bool} (S : Sees w B2 A2 n2 (bls m2)) (hk : k + n2 ≤ 1000000) (m : Nat → Bool) (h1 : ∀ j, j < k → f j = .bool (m j)) (h2 : ∀ j, j < n2 → m (k + j) = m2 j) :
    ∃ A' c' w', (∀ ty, (Builtin.append_ #[39, 39] ty #[.slice A k c, .slice A2 n2 c2]).run Try.prog w = .ok (.slice A' (k + n2) c') w') ∧ OwnB w' B (k + n2) c' A' m ∧ Below B w w' ∧ (c ≤ maxLen → c' ≤ maxLen) := by
  obtain ⟨A', c', w', run, O', fr, _, mx⟩ := own_append2' (P := Try.prog) w B Try.underlying39 infoB rfl (by omega) Try.underlying39 O hB (A2 := A2) (k := n2) (c2 := c2) (f := bls m2) (by rw [Nat.mul_one]; exact S) (fun _ => rfl) (by omega) (by omega)
  refine ⟨A', c', w', run, O'.congr fun j hj => ?_, fr.below hB fun b hb => (O.blk b hb).1, mx⟩
  rw [Nat.mul_one] at hj ⊢
  by_cases d : j < k
  · rw [if_pos d, h1 j d]; rfl
  · rw [if_neg d]
    show Value.bool (m2 (j - k)) = .bool (m j)
    rw [← h2 (j - k) (by omega), show k + (j - k) = j from by omega]
theorem sees_from {w : World} {B n c : Nat} {A : Option Addr} {m : Nat → Bool} (h : Sees w B A n (bls m)) (hnc : n ≤ c) (lo : Nat) (hl : lo ≤ n) : Sees w B (subA A c lo 1) (n - lo) (bls fun j => m (lo + j)) := by
  have h' := sees_sub (sz := 1) (n := n) (c := c) (lo := lo) (hi := n) (by rw [Nat.mul_one]; exact h) hnc hl (Nat.le_refl _)
  rw [Nat.mul_one] at h'
  exact h'.congr fun j hj => by rw [Nat.mul_one]; rfl
theorem sees_upto {w : World} {B n : Nat} {A : Option Addr} {m : Nat → Bool} (h : Sees w B A n (bls m)) (k : Nat) (hk : k ≤ n) : Sees w B A k (bls m) := fun h0 => by
  obtain ⟨b, o, h1, h2, h3⟩ := h (by omega)
  exact ⟨b, o, h1, h2, fun j hj => h3 j (by omega)⟩

set_option maxRecDepth 100000 in
set_option maxHeartbeats 1600000 in
theorem refInsert_any (w : World) (B : Nat) (A : Option Addr) (n c : Nat) (m : Nat → Bool) (h : Sees w B A n (bls m)) (hB : B ≤ w.heap.size) (hc : n ≤ c) (hM : c ≤ maxLen) (a d : Nat) (ha : a ≤ n) (hn : n ≤ 100000) (hd : d ≤ 100000) :
    Calls Try.prog 27 #[.slice A n c, .int .i64 a, .int .i64 d] w fun e w' => ∃ A' c', e = .returned (.slice A' (n + d) c') ∧ Sees w' w'.heap.size A' (n + d) (bls (insM m a d)) ∧ Below w.heap.size w w' := by
  have HS := Lib.hid (h.more hB)
  have SH := sl_h A n c a (by omega)
  have SL := sl_l A n c a ha
  have hmx : c ≤ 9223372036854775807 := hM
  have L0 : Below w.heap.size w (w.alloc (.cells #[] 4)) := (Below.refl _ w).alloc (Nat.le_refl _) _
  obtain ⟨A1, c1, w1, run, O1, hb, -⟩ := appB (w.alloc (.cells #[] 4)) w.heap.size (Own.lit0 w 4 1 (bls m)) L0.size (A2 := A) (c2 := c) (sees_upto (HS.out.below L0) a ha) (by omega) (insM m a d) (fun j hj => absurd hj (by omega)) (fun j hj => by unfold insM; rw [Nat.zero_add, if_pos hj])
  rw [Nat.zero_add] at run O1
  have RUN := Lib.hid run
  have O1' := Lib.hid O1
  have D1 : Hid (Below w.heap.size w w1) := L0.trans hb
  have HCN : Hid (n ≤ c) := hc
  clear run O1 hb h L0
  go_enter Try.func27, Try.ntmps27
  go_wp2_with (at_builtin; refine Hid.out ?_)
  refine Lib.hid (Lib.wpList_append_run _ rfl _ _ _ _ rfl _ _ rfl rfl _ _ (RUN.out _) ?_)
  clear SH
  go_wp2_with fail
  go_loopw [7, 8] (fun o i wr => ∃ (k : Nat) (Ao : Option Addr) (co : Nat), k ≤ d ∧ o = .slice Ao (a + k) co ∧ i = .int .i64 k ∧ Hid (OwnB wr w.heap.size (a + k) co Ao (insM m a d)) ∧ Hid (Below w.heap.size w wr)) (fun _ i _ => d - (intOf i).toNat)
  case atStart => exact ⟨0, A1, c1, Nat.zero_le _, rfl, rfl, O1', D1⟩
  case round =>
    obtain ⟨k, Ao, co, hk, rfl, rfl, hO, hD⟩ := hrel
    clear O1' D1 RUN
    by_cases hlt : k < d
    · obtain ⟨A2, c2, w2, run, O2, fr, _, mx⟩ := pushB wr w.heap.size hO.out hD.out.size false (by unfold insM; rw [if_neg (by omega), if_pos (by omega)]) (by omega)
      have D2 : Hid (Below w.heap.size w w2) := hD.out.trans (fr.below hD.out.size fun b hb => (hO.out.blk b hb).1)
      have RUN := Lib.hid run
      have O3 := Lib.hid O2
      have hki : (k : Int) < (d : Int) := by omega
      clear run O2 fr mx hO hD
      go_wp2_with (at_builtin; refine Hid.out ?_)
      refine Lib.hid (Lib.wpList_append_run _ rfl _ _ _ _ rfl _ _ rfl rfl _ _ (RUN.out _) ?_)
      go_wp2_with fail
      go_roundw
      case rel => exact ⟨k + 1, A2, c2, by omega, rfl, by go_num, O3, D2⟩
      case measure => simp [intOf]; omega
    · obtain rfl : k = d := by omega
      obtain ⟨A2, c2, w2, run, O2, hb, -⟩ := appB wr w.heap.size hO.out hD.out.size (A2 := subA A c a 1) (c2 := c - a) (sees_from (HS.out.below hD.out) HCN.out a ha) (by omega) (insM m a k) (fun j hj => rfl) (fun j hj => by unfold insM; rw [if_neg (by omega), if_neg (by omega), show a + k + j - k = a + j from by omega])
      have D2 : Hid (Below w.heap.size w w2) := hD.out.trans hb
      have RUN := Lib.hid run
      have O3 := Lib.hid O2
      have HL : Hid (a + k + (n - a) = n + k) := by show _ = _; omega
      clear run O2 hb hO hD
      go_wp2_with (at_builtin; refine Hid.out ?_)
      refine Lib.hid (Lib.wpList_append_run _ rfl _ _ _ _ rfl _ _ rfl rfl _ _ (RUN.out _) ?_)
      go_wp2_with fail
      go_ret
      exact ⟨A2, c2, by rw [HL.out]; rfl, by have := OwnB.see O3.out; rwa [HL.out] at this, D2.out⟩

set_option maxRecDepth 100000 in
set_option maxHeartbeats 1600000 in
theorem refRemove_any (w : World) (B : Nat) (A : Option Addr) (n c : Nat) (m : Nat → Bool) (h : Sees w B A n (bls m)) (hB : B ≤ w.heap.size) (hc : n ≤ c) (hM : c ≤ maxLen) (a d : Nat) (ha : a + d < n) (hn : n ≤ 100000) :
    Calls Try.prog 28 #[.slice A n c, .int .i64 a, .int .i64 d] w fun e w' => ∃ A' c', e = .returned (.slice A' (n - d) c') ∧ Sees w' w'.heap.size A' (n - d) (bls (remM m a d)) ∧ Below w.heap.size w w' := by
  have HS := Lib.hid (h.more hB)
  have SH := sl_h A n c a (by omega)
  have SL := sl_l A n c (a + d) (by omega)
  rw [show ((a + d : Nat) : Int) = (a : Int) + d from by push_cast; rfl] at SL
  have hmx : c ≤ 9223372036854775807 := hM
  have L0 : Below w.heap.size w (w.alloc (.cells #[] 4)) := (Below.refl _ w).alloc (Nat.le_refl _) _
  obtain ⟨A1, c1, w1, run, O1, hb, -⟩ := appB (w.alloc (.cells #[] 4)) w.heap.size (Own.lit0 w 4 1 (bls m)) L0.size (A2 := A) (c2 := c) (sees_upto (HS.out.below L0) a (by omega)) (by omega) (remM m a d) (fun j hj => absurd hj (by omega)) (fun j hj => by unfold remM; rw [Nat.zero_add, if_pos hj])
  rw [Nat.zero_add] at run O1
  have D1 : Hid (Below w.heap.size w w1) := L0.trans hb
  obtain ⟨A2, c2, w2, run2, O2, hb2, -⟩ := appB w1 w.heap.size O1 D1.out.size (A2 := subA A c (a + d) 1) (c2 := c - (a + d)) (sees_from (HS.out.below D1.out) hc (a + d) (by omega)) (by omega) (remM m a d) (fun j hj => rfl) (fun j hj => by unfold remM; rw [if_neg (by omega), show a + j + d = a + d + j from by omega])
  have D2 : Hid (Below w.heap.size w w2) := D1.out.trans hb2
  have RUN := Lib.hid run
  have RUN2 := Lib.hid run2
  have O3 := Lib.hid O2
  have HL : Hid (a + (n - (a + d)) = n - d) := by show _ = _; omega
  have hai : (a : Int) + d < (n : Int) := by omega
  clear run run2 O1 O2 hb hb2 h L0 hc
  go_enter Try.func28, Try.ntmps28
  go_wp2_with (at_builtin; refine Hid.out ?_)
  refine Lib.hid (Lib.wpList_append_run _ rfl _ _ _ _ rfl _ _ rfl rfl _ _ (RUN.out _) ?_)
  go_wp2_with (at_builtin; refine Hid.out ?_)
  refine Lib.hid (Lib.wpList_append_run _ rfl _ _ _ _ rfl _ _ rfl rfl _ _ (RUN2.out _) ?_)
  go_wp2_with fail
  go_ret
  exact ⟨A2, c2, by rw [HL.out]; rfl, by have := OwnB.see O3.out; rwa [HL.out] at this, D2.out⟩
end Go.Proofs.Ytglgkbocmnkokaa

/-
  Layer 1, plain: sets of marks; marks in own slices.
-/
import Derived.Test.YtglgkbocmnkokaaSpaN
import Derived.Test.YtglgkbocmnkokaaSpaLaw3
import Derived.Test.YtglgkbocmnkokaaApp2
namespace Go.Proofs.Ytglgkbocmnkokaa
open Go.RowKit
set_option linter.unusedVariables false
set_option linter.unusedSimpArgs false

/-- A set of places below 300. -/
def G3 (R : Sp) : Prop := NF R ∧ chkS R = 0 ∧ R.length ≤ 300 ∧ ∀ i, memS R i → i < 300
theorem G3.mk' {R : Sp} (h : NF R) (hm : ∀ i, memS R i → i < 300) : G3 R := by
  have hl : R.length ≤ 300 := by
    have h1 := NFfrom.len_cnt h
    rw [NF.cnt h (m := 300 + 1073741824) (by omega), cI_add, cI_zero (f := anyS R) (lo := 0 + ((300 : Nat) : Int)) (fun i h1 h2 => anyS_no fun q => by have := hm i q; omega)] at h1
    have := (cI_le (anyS R) 0 300).2
    omega
  exact ⟨h, chkS_zero.2 ⟨h, by omega⟩, hl, hm⟩
theorem G3.merged {kp : Bool → Bool → Bool} {L M R : Sp} (hL : G3 L) (hM : G3 M) (h : Merged kp L M R) (h0 : kp false false = false) : G3 R := G3.mk' h.nf fun i hi => by
  rw [h.me] at hi
  by_cases a : memS L i
  · exact hL.2.2.2 i a
  · by_cases b : memS M i
    · exact hM.2.2.2 i b
    · rw [anyS_no a, anyS_no b, h0] at hi; cases hi
theorem G3.sp {m : Nat → Bool} {k : Nat} {R : Sp} (h : SpTo m k R) (hk : k ≤ 300) : G3 R := G3.mk' h.nf fun i hi => by
  have := (h.me i).1 hi
  omega
theorem sp_any {m : Nat → Bool} {k : Nat} {R : Sp} (h : SpTo m k R) (i : Nat) : anyS R i = (decide (i < k) && m i) := by
  rw [Bool.eq_iff_iff, anyS_iff, h.me, Int.toNat_natCast, Bool.and_eq_true, decide_eq_true_iff]
  constructor
  · rintro ⟨_, h1, h2⟩; exact ⟨by omega, h2⟩
  · rintro ⟨h1, h2⟩; exact ⟨by omega, by omega, h2⟩
/-- A merged set is that of the marks. -/
theorem sp_eq {kp : Bool → Bool → Bool} {L M U R : Sp} {m1 m2 mo : Nat → Bool} {k1 k2 n : Nat} (hL : SpTo m1 k1 L) (hM : SpTo m2 k2 M) (hU : Merged kp L M U) (hR : SpTo mo n R) (hn : n = max k1 k2)
    (hmo : ∀ i, mo i = kp (decide (i < k1) && m1 i) (decide (i < k2) && m2 i)) (h0 : kp false false = false) : R = U :=
  NFfrom.unique hR.nf hU.nf fun i => by
    rw [hU.me]
    by_cases c : i < 0
    · rw [anyS_neg hL.nf c, anyS_neg hM.nf c, h0, hR.me]
      constructor
      · rintro ⟨h, _⟩; omega
      · intro h; cases h
    · obtain ⟨j, rfl⟩ : ∃ j : Nat, i = j := ⟨i.toNat, by omega⟩
      rw [sp_any hL, sp_any hM, ← hmo, ← anyS_iff, sp_any hR]
      by_cases d : j < n
      · rw [decide_eq_true d, Bool.true_and]
      · rw [decide_eq_false d, Bool.false_and, hmo, decide_eq_false (show ¬ j < k1 by omega), decide_eq_false (show ¬ j < k2 by omega), Bool.false_and, Bool.false_and, h0]
theorem merged_eq {kp kp' : Bool → Bool → Bool} {L M L' M' U V : Sp} (hU : Merged kp L M U) (hV : Merged kp' L' M' V) (h : ∀ i, kp (anyS L i) (anyS M i) = kp' (anyS L' i) (anyS M' i)) : U = V :=
  NFfrom.unique hU.nf hV.nf fun i => by rw [hU.me, hV.me, h]
theorem merged_is {kp : Bool → Bool → Bool} {L M U V : Sp} (hU : Merged kp L M U) (hV : NF V) (h : ∀ i, kp (anyS L i) (anyS M i) = anyS V i) : U = V :=
  NFfrom.unique hU.nf hV fun i => by rw [hU.me, h, anyS_iff]
theorem merged_any {kp : Bool → Bool → Bool} {L M U : Sp} (hU : Merged kp L M U) (i : Int) : anyS U i = kp (anyS L i) (anyS M i) := by
  rw [Bool.eq_iff_iff, anyS_iff, hU.me]
theorem cnt_both {L M U C : Sp} (hL : NF L) (hM : NF M) (hU : Merged (fun x y => x || y) L M U) (hC : Merged (fun x y => x && y) L M C) : cntS U = cntS L + cntS M - cntS C := by
  rw [NF.cnt hL (m := 1073741824) (by omega), NF.cnt hM (m := 1073741824) (by omega), NF.cnt hU.nf (m := 1073741824) (by omega), NF.cnt hC.nf (m := 1073741824) (by omega)]
  have e := cI_or (anyS L) (anyS M) 0 1073741824
  rw [cI_congr (f := anyS U) (g := fun i => anyS L i || anyS M i) (fun i _ _ => merged_any hU i), cI_congr (f := anyS C) (g := fun i => anyS L i && anyS M i) (fun i _ _ => merged_any hC i)]
  omega

/-! ### Own slices of marks -/
theorem infoB : (Try.prog.info? 4).map (fun i => (i.zero, i.size, i.bytes)) = some (some (.bool false), 1, 1) := by kernel_rfl
def Dis (A X : Option Addr) : Prop := ∀ b, A.map (·.block) = some b → X.map (·.block) = some b → False
theorem Dis.symm {A X : Option Addr} (h : Dis A X) : Dis X A := fun b h1 h2 => h b h2 h1
abbrev OwnB (w : World) (B k c : Nat) (A : Option Addr) (m : Nat → Bool) : Prop := Own w B 4 1 k c A (bls m)
theorem Dis.push {w : World} {A A' X : Option Addr} (h : Dis A X) (ha : A' = A ∨ ∃ g, A' = some ⟨g, 0, none⟩ ∧ w.heap.size ≤ g) (hx : ∀ b, X.map (·.block) = some b → b < w.heap.size) : Dis A' X := fun b h1 h2 => by
  rcases ha with rfl | ⟨g, rfl, hg⟩
  · exact h b h1 h2
  · injection h1 with h1
    have : g = b := h1
    have := hx b h2
    omega
theorem pushB (w : World) (B : Nat) {k c : Nat} {A : Option Addr} {m : Nat → Bool} (O : OwnB w B k c A m) (hB : B ≤ w.heap.size) (b : Bool) (hb : m k = b) (hk : k ≤ 900000000) :
    ∃ A' c' w', (∀ ty, (Builtin.append_ #[39, 39] ty #[.slice A k c, .slice (some ⟨w.heap.size, 0, none⟩) 1 1]).run Try.prog (w.alloc (.cells #[.bool b] 4)) = .ok (.slice A' (k + 1) c') w') ∧ OwnB w' B (k + 1) c' A' m ∧
      Fr (fun b => A.map (·.block) = some b) w w' ∧ (A' = A ∨ ∃ g, A' = some ⟨g, 0, none⟩ ∧ w.heap.size ≤ g) ∧ (c ≤ maxLen → c' ≤ maxLen) := by
  obtain ⟨A', c', w', run, O', f, a, mx⟩ := own_push (P := Try.prog) w B Try.underlying39 infoB rfl O hB (.bool b) rfl (by omega) (by omega)
  refine ⟨A', c', w', run, O'.congr fun j hj => ?_, f, a, mx⟩
  by_cases d : j < k
  · rw [if_pos d]
  · rw [if_neg d, show j = k from by omega, ← hb]; rfl
/-- Three own slices of marks, each in its own block. -/
structure Own3 (w : World) (B k : Nat) (A1 : Option Addr) (c1 : Nat) (m1 : Nat → Bool) (A2 : Option Addr) (c2 : Nat) (m2 : Nat → Bool) (A3 : Option Addr) (c3 : Nat) (m3 : Nat → Bool) : Prop where
  o1 : OwnB w B k c1 A1 m1
  o2 : OwnB w B k c2 A2 m2
  o3 : OwnB w B k c3 A3 m3
  d12 : Dis A1 A2
  d13 : Dis A1 A3
  d23 : Dis A2 A3
theorem Own3.push {w : World} {B k : Nat} {A1 : Option Addr} {c1 : Nat} {m1 : Nat → Bool} {A2 : Option Addr} {c2 : Nat} {m2 : Nat → Bool} {A3 : Option Addr} {c3 : Nat} {m3 : Nat → Bool}
    (h : Own3 w B k A1 c1 m1 A2 c2 m2 A3 c3 m3) (hB : B ≤ w.heap.size) (b1 b2 b3 : Bool) (h1 : m1 k = b1) (h2 : m2 k = b2) (h3 : m3 k = b3) (hk : k ≤ 900000000) :
    ∃ A1' c1' A2' c2' A3' c3' w1 w2 w3,
      (∀ ty, (Builtin.append_ #[39, 39] ty #[.slice A1 k c1, .slice (some ⟨w.heap.size, 0, none⟩) 1 1]).run Try.prog (w.alloc (.cells #[.bool b1] 4)) = .ok (.slice A1' (k + 1) c1') w1) ∧
      (∀ ty, (Builtin.append_ #[39, 39] ty #[.slice A2 k c2, .slice (some ⟨w1.heap.size, 0, none⟩) 1 1]).run Try.prog (w1.alloc (.cells #[.bool b2] 4)) = .ok (.slice A2' (k + 1) c2') w2) ∧
      (∀ ty, (Builtin.append_ #[39, 39] ty #[.slice A3 k c3, .slice (some ⟨w2.heap.size, 0, none⟩) 1 1]).run Try.prog (w2.alloc (.cells #[.bool b3] 4)) = .ok (.slice A3' (k + 1) c3') w3) ∧
      Own3 w3 B (k + 1) A1' c1' m1 A2' c2' m2 A3' c3' m3 ∧ Below B w w3 := by
  obtain ⟨A1', c1', w1, r1, p1, f1, a1, -⟩ := pushB w B h.o1 hB b1 h1 hk
  have D1 : Below B w w1 := f1.below hB fun b hb => (h.o1.blk b hb).1
  have q2 : OwnB w1 B k c2 A2 m2 := h.o2.fr f1 fun b hb e => h.d12 b e hb
  have q3 : OwnB w1 B k c3 A3 m3 := h.o3.fr f1 fun b hb e => h.d13 b e hb
  have d12 : Dis A1' A2 := h.d12.push a1 fun b hb => (h.o2.blk b hb).2
  have d13 : Dis A1' A3 := h.d13.push a1 fun b hb => (h.o3.blk b hb).2
  obtain ⟨A2', c2', w2, r2, p2, f2, a2, -⟩ := pushB w1 B q2 (Nat.le_trans hB f1.size) b2 h2 hk
  have D2 : Below B w1 w2 := f2.below (Nat.le_trans hB f1.size) fun b hb => (q2.blk b hb).1
  have s1 : OwnB w2 B (k + 1) c1' A1' m1 := p1.fr f2 fun b hb e => d12 b hb e
  have s3 : OwnB w2 B k c3 A3 m3 := q3.fr f2 fun b hb e => h.d23 b e hb
  have e12 : Dis A2' A1' := d12.symm.push a2 fun b hb => (p1.blk b hb).2
  have e23 : Dis A2' A3 := h.d23.push a2 fun b hb => (q3.blk b hb).2
  obtain ⟨A3', c3', w3, r3, p3, f3, a3, -⟩ := pushB w2 B s3 (Nat.le_trans (Nat.le_trans hB f1.size) f2.size) b3 h3 hk
  have D3 : Below B w2 w3 := f3.below (Nat.le_trans (Nat.le_trans hB f1.size) f2.size) fun b hb => (s3.blk b hb).1
  have t1 : OwnB w3 B (k + 1) c1' A1' m1 := s1.fr f3 fun b hb e => d13 b hb e
  have t2 : OwnB w3 B (k + 1) c2' A2' m2 := p2.fr f3 fun b hb e => e23 b hb e
  have g13 : Dis A3' A1' := d13.symm.push a3 fun b hb => (s1.blk b hb).2
  have g23 : Dis A3' A2' := e23.symm.push a3 fun b hb => (p2.blk b hb).2
  exact ⟨A1', c1', A2', c2', A3', c3', w1, w2, w3, r1, r2, r3, ⟨t1, t2, p3, e12.symm, g13.symm, g23.symm⟩, (D1.trans D2).trans D3⟩
theorem Own3.start (w : World) (B : Nat) (m1 m2 m3 : Nat → Bool) : Own3 w B 0 none 0 m1 none 0 m2 none 0 m3 :=
  ⟨Own.nil _ _ _ _ _, Own.nil _ _ _ _ _, Own.nil _ _ _ _ _, (fun _ h => by cases h), (fun _ h => by cases h), (fun _ h => by cases h)⟩
theorem Own3.below {w w' : World} {B k : Nat} {A1 : Option Addr} {c1 : Nat} {m1 : Nat → Bool} {A2 : Option Addr} {c2 : Nat} {m2 : Nat → Bool} {A3 : Option Addr} {c3 : Nat} {m3 : Nat → Bool}
    (h : Own3 w B k A1 c1 m1 A2 c2 m2 A3 c3 m3) (hb : Below w.heap.size w w') : Own3 w' B k A1 c1 m1 A2 c2 m2 A3 c3 m3 := ⟨h.o1.below hb, h.o2.below hb, h.o3.below hb, h.d12, h.d13, h.d23⟩
theorem OwnB.see {w : World} {B k c : Nat} {A : Option Addr} {m : Nat → Bool} (h : OwnB w B k c A m) : Sees w w.heap.size A k (bls m) := by
  have := h.sees
  rwa [Nat.mul_one] at this
end Go.Proofs.Ytglgkbocmnkokaa

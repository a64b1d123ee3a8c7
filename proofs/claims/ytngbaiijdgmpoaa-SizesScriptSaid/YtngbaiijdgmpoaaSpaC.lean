/-
  Contracts of package spans, third: both, edge, the three questions, merged.
-/
import Derived.Test.YtngbaiijdgmpoaaSpaB
import Derived.WalkMore
import Derived.Scope
namespace Go.Proofs.Ytngbaiijdgmpoaa
open Go.RowKit
set_option linter.unusedVariables false
set_option linter.unusedSimpArgs false

theorem both_any (w : World) (A A2 : Option Addr) (c c2 B B2 : Nat) (L M : Sp) (h : SeesP w B A L) (h2 : SeesP w B2 A2 M) (hB : B ≤ w.heap.size) (hB2 : B2 ≤ w.heap.size) (hf : FitsS L) (hf2 : FitsS M) (hn : L.length ≤ 1000000000000000) (hn2 : M.length ≤ 1000000000000000) :
    Calls Try.prog 75 #[.slice A L.length c, .slice A2 M.length c2] w fun e w' => e = .returned (.int .i64 (if chkS L = 0 then chkS M else chkS L)) ∧ Below w.heap.size w w' := by
  have K1 := Lib.hid (check_any w B A c L h hB hf hn)
  have K2 : Hid (∀ W, Below w.heap.size w W → _) := fun W (hW : Below w.heap.size w W) => check_any W B2 A2 c2 M (h2.below (hW.mono hB2)) (by have := hW.size; omega) hf2 hn2
  obtain ⟨n, en⟩ : ∃ n, n = L.length := ⟨_, rfl⟩
  obtain ⟨m, em⟩ : ∃ n, n = M.length := ⟨_, rfl⟩
  obtain ⟨x, ex⟩ : ∃ n, n = chkS L := ⟨_, rfl⟩
  obtain ⟨y, ey⟩ : ∃ n, n = chkS M := ⟨_, rfl⟩
  rw [← en, ← ex] at K1
  rw [← em, ← ey] at K2
  rw [← en, ← em, ← ex, ← ey]
  clear h h2 hf hf2 en em ex ey hn hn2
  by_cases x0 : x = 0
  · rw [if_pos x0]
    subst x0
    go_enter Try.func75, Try.ntmps75
    go_wp2_with fail
    refine (K1.out).mono ?_
    rintro e w1 ⟨rfl, hb⟩
    have K3 := Lib.hid (K2.out w1 hb)
    have B1 := Lib.hid hb
    clear hb K1 K2
    go_wp2_with fail
    refine (K3.out).mono ?_
    rintro e w2 ⟨rfl, hb⟩
    have B2 := Lib.hid (B1.out.trans (hb.mono B1.out.size))
    clear hb
    go_wp2_with fail
    go_ret
    exact ⟨rfl, B2.out⟩
  · rw [if_neg x0]
    have xb : (x != 0) = true := by rw [bne_iff_ne]; exact x0
    clear K2
    go_enter Try.func75, Try.ntmps75
    go_wp2_with fail
    refine (K1.out).mono ?_
    rintro e w1 ⟨rfl, hb⟩
    have B1 := Lib.hid hb
    clear hb K1
    go_wp2_with fail
    go_ret
    exact ⟨rfl, B1.out⟩
/-- The next edge of a span. -/
def edgeS (x y at_ : Int) : Int := if at_ < x then x else y
theorem edge_any (w : World) (x y a : Int) : Calls Try.prog 76 #[.agg #[.int .i64 x, .int .i64 y], .int .i64 a] w fun e w' => e = .returned (.int .i64 (edgeS x y a)) ∧ Below w.heap.size w w' := by
  have HB : Hid (Below w.heap.size w (w.alloc (.cells #[.int .i64 x, .int .i64 y] 75))) := (Below.refl _ w).alloc (Nat.le_refl _) _
  by_cases h1 : a < x
  · go_enter Try.func76, Try.ntmps76
    go_wp2_with fail
    go_ret
    exact ⟨by unfold edgeS; rw [if_pos h1]; rfl, HB.out⟩
  · go_enter Try.func76, Try.ntmps76
    go_wp2_with fail
    go_ret
    exact ⟨by unfold edgeS; rw [if_neg (by omega)]; rfl, HB.out⟩

theorem or_any (w : World) (x y : Bool) : Calls Try.prog 71 #[.bool x, .bool y] w fun e w' => e = .returned (.bool (x || y)) ∧ w = w' := by
  cases x <;> cases y <;> (
    go_enter Try.func71, Try.ntmps71
    go_wp2_with fail
    go_ret
    exact ⟨rfl, rfl⟩)
theorem not_any (w : World) (x y : Bool) : Calls Try.prog 70 #[.bool x, .bool y] w fun e w' => e = .returned (.bool (x && !y)) ∧ w = w' := by
  cases x <;> cases y <;> (
    go_enter Try.func70, Try.ntmps70
    go_wp2_with fail
    go_ret
    exact ⟨rfl, rfl⟩)

/-! ### Plain -/
theorem anyS_append (A B : Sp) (i : Int) : anyS (A ++ B) i = (anyS A i || anyS B i) := by unfold anyS; exact List.any_append
theorem anyS_past {L : Sp} {a j : Int} (h : ∀ s ∈ L, s.2 ≤ a) (hj : a ≤ j) : anyS L j = false := by
  cases e : anyS L j with
  | false => rfl
  | true =>
    obtain ⟨s, hs, h1, h2⟩ := (anyS_iff L j).1 e
    have := h s hs; omega
/-- What lies ahead: a set whose first k spans are past, at a place a that the next one is not past. -/
theorem anyS_next {L : Sp} (hN : NF L) {k : Nat} (hk : k < L.length) {a j : Int} (hp : ∀ s ∈ L.take k, s.2 ≤ a) (hx : a < (sg L k).2) (h1 : a ≤ j) (h2 : j < edgeS (sg L k).1 (sg L k).2 a) : anyS L j = decide ((sg L k).1 ≤ a) := by
  have e : L = L.take k ++ (sg L k :: L.drop (k + 1)) := by rw [sg_get L hk, ← List.drop_eq_getElem_cons hk, List.take_append_drop]
  have hN' := hN
  unfold NF at hN'
  rw [e] at hN'
  have q := (NFfrom.append.1 hN').2
  obtain ⟨q1, q2, q3, q4⟩ := q
  rw [e, anyS_append, anyS_past hp h1, anyS_cons, Bool.false_or]
  have ht : anyS (L.drop (k + 1)) j = false := by
    cases e : anyS (L.drop (k + 1)) j with
    | false => rfl
    | true =>
      have := (q4.mem_gt ((anyS_iff _ _).1 e)).1
      unfold edgeS at h2
      split at h2 <;> omega
  rw [ht, Bool.or_false]
  rw [← e]
  unfold edgeS at h2
  by_cases c : a < (sg L k).1
  · rw [if_pos c] at h2
    rw [decide_eq_false (show ¬ (sg L k).1 ≤ j by omega), decide_eq_false (show ¬ (sg L k).1 ≤ a by omega)]; rfl
  · rw [if_neg c] at h2
    rw [decide_eq_true (show (sg L k).1 ≤ j by omega), decide_eq_true (show (sg L k).1 ≤ a by omega), decide_eq_true (show j < (sg L k).2 by omega)]; rfl
theorem edgeS_gt {x y a : Int} (h : a < y) : a < edgeS x y a := by unfold edgeS; split <;> omega
theorem edgeS_le {x y a : Int} (h : x < y) (hy : y ≤ 1073741824) : edgeS x y a ≤ 1073741824 := by unfold edgeS; split <;> omega
theorem take_past {L : Sp} {k : Nat} (hk : k < L.length) {a : Int} (hp : ∀ s ∈ L.take k, s.2 ≤ a) (h : (sg L k).2 ≤ a) : ∀ s ∈ L.take (k + 1), s.2 ≤ a := by
  intro s hs
  rw [List.take_succ_eq_append_getElem hk] at hs
  rcases List.mem_append.1 hs with h1 | h1
  · exact hp s h1
  · rw [← sg_get L hk] at h1
    rcases List.mem_cons.1 h1 with rfl | h1
    · exact h
    · cases h1
/-- What has been merged up to a place. -/
structure Mg (kp : Bool → Bool → Bool) (L M : Sp) (O : Sp) (a : Int) : Prop where
  nf : NF O
  en : endS (-1) O ≤ a
  a0 : 0 ≤ a
  a1 : a ≤ 1073741824
  me : ∀ i, memS O i ↔ i < a ∧ kp (anyS L i) (anyS M i) = true
theorem Mg.skip {kp : Bool → Bool → Bool} {L M O : Sp} {a b : Int} (h : Mg kp L M O a) (hab : a ≤ b) (hb : b ≤ 1073741824) (hk : ∀ j, a ≤ j → j < b → kp (anyS L j) (anyS M j) = false) : Mg kp L M O b :=
  ⟨h.nf, by have := h.en; omega, by have := h.a0; omega, hb, fun i => by
    rw [h.me]
    constructor
    · rintro ⟨h1, h2⟩; exact ⟨by omega, h2⟩
    · rintro ⟨h1, h2⟩
      refine ⟨?_, h2⟩
      rcases (show i < a ∨ a ≤ i by omega) with c | c
      · exact c
      · rw [hk i c h1] at h2; cases h2⟩
theorem Mg.take {kp : Bool → Bool → Bool} {L M O : Sp} {a b : Int} (h : Mg kp L M O a) (hab : a < b) (hb : b ≤ 1073741824) (hk : ∀ j, a ≤ j → j < b → kp (anyS L j) (anyS M j) = true) : Mg kp L M (addS O a b) b := by
  obtain ⟨h1, h2, h3⟩ := addS_spec h.nf h.en h.a0 hab hb
  refine ⟨h1, by rw [h2]; exact Int.le_refl _, by have := h.a0; omega, hb, fun i => ?_⟩
  rw [h3, h.me]
  constructor
  · rintro (⟨q1, q2⟩ | ⟨q1, q2⟩)
    · exact ⟨by omega, q2⟩
    · exact ⟨q2, hk i q1 q2⟩
  · rintro ⟨q1, q2⟩
    rcases (show i < a ∨ a ≤ i by omega) with c | c
    · exact .inl ⟨c, q2⟩
    · exact .inr ⟨c, q1⟩
theorem Mg.len {kp : Bool → Bool → Bool} {L M O : Sp} {a : Int} (h : Mg kp L M O a) : O.length ≤ 536870912 := NF.len h.nf
theorem anyS_neg {L : Sp} (h : NF L) {i : Int} (hi : i < 0) : anyS L i = false := by
  cases e : anyS L i with
  | false => rfl
  | true => have := (NFfrom.mem_gt h ((anyS_iff _ _).1 e)).1; omega
theorem Mg.start {kp : Bool → Bool → Bool} {L M : Sp} (hL : NF L) (hM : NF M) (h0 : kp false false = false) : Mg kp L M [] 0 :=
  ⟨trivial, by decide, Int.le_refl _, by decide, fun i => by
    constructor
    · intro h; exact absurd h (memS_nil i)
    · rintro ⟨h1, h2⟩
      rw [anyS_neg hL h1, anyS_neg hM h1, h0] at h2; cases h2⟩
/-- The set that is merged. -/
structure Merged (kp : Bool → Bool → Bool) (L M : Sp) (R : Sp) : Prop where
  nf : NF R
  me : ∀ i, memS R i ↔ kp (anyS L i) (anyS M i) = true
theorem Mg.stop {kp : Bool → Bool → Bool} {L M O : Sp} {a : Int} (h : Mg kp L M O a) (hL : ∀ s ∈ L, s.2 ≤ a) (hM : ∀ s ∈ M, s.2 ≤ a) (h0 : kp false false = false) : Merged kp L M O :=
  ⟨h.nf, fun i => by
    rw [h.me]
    constructor
    · exact fun h => h.2
    · intro h2
      refine ⟨?_, h2⟩
      rcases (show i < a ∨ a ≤ i by omega) with c | c
      · exact c
      · rw [anyS_past hL c, anyS_past hM c, h0] at h2; cases h2⟩
end Go.Proofs.Ytngbaiijdgmpoaa

/-
  Contracts of package spans, fifth: Union, Common, Without; ranged, Insert, Remove.
-/
import Derived.Test.YteodkmndghaidaaDoorSpaD
namespace Go.Proofs.YteodkmndghaidaaDoor
open Go.RowKit
set_option linter.unusedVariables false
set_option linter.unusedSimpArgs false

theorem SPost.from {w0 w w' : World} {R : Sp} {x : Int} {e : Ending} (h : SPost w R x e w') (hb : Below w0.heap.size w0 w) : SPost w0 R x e w' := by
  obtain ⟨A, h1, h2, h3⟩ := h
  exact ⟨A, h1, h2, hb.trans (h3.mono hb.size)⟩
/-- What one of the three operations returns. -/
def OpPost (kp : Bool → Bool → Bool) (w : World) (L M : Sp) (e : Ending) (w' : World) : Prop :=
  (chkS L = 0 ∧ chkS M = 0 ∧ ∃ R, Merged kp L M R ∧ SPost w (dS R) (dE R) e w') ∨ ((if chkS L = 0 then chkS M else chkS L) ≠ 0 ∧ SPost w [] (if chkS L = 0 then chkS M else chkS L) e w')

/-- The error of a set with a place and a number. -/
def rngS (L : Sp) (a n : Int) : Int := if chkS L ≠ 0 then chkS L else if a < 0 ∨ 1073741824 < a ∨ n < 0 ∨ 1073741824 < n then 4 else 0
theorem ranged_any (w : World) (B : Nat) (A : Option Addr) (c : Nat) (L : Sp) (a n : Int) (h : SeesP w B A L) (hB : B ≤ w.heap.size) (hf : FitsS L) (hn : L.length ≤ 1000000000000000) (fa : Fits a) (fn : Fits n) :
    Calls Tryd.prog 42 #[.slice A L.length c, .int .i64 a, .int .i64 n] w fun e w' => e = .returned (.int .i64 (rngS L a n)) ∧ Below w.heap.size w w' := by
  have K1 := Lib.hid (check_any w B A c L h hB hf hn)
  obtain ⟨fa1, fa2⟩ := fa
  obtain ⟨fn1, fn2⟩ := fn
  unfold rngS
  obtain ⟨m, em⟩ : ∃ n, n = L.length := ⟨_, rfl⟩
  obtain ⟨x, ex⟩ : ∃ n, n = chkS L := ⟨_, rfl⟩
  rw [← em, ← ex] at K1
  rw [← em, ← ex]
  clear h hf em ex hn
  by_cases x0 : x = 0
  · rw [if_neg (by omega)]
    subst x0
    by_cases t1 : a < 0
    · rw [if_pos (by omega)]
      go_enter Tryd.func42, Tryd.ntmps42
      go_wp2_with fail
      refine (K1.out).mono ?_
      rintro e w1 ⟨rfl, hb⟩
      have B1 := Lib.hid hb
      clear hb K1
      go_wp2_with fail
      go_ret
      exact ⟨rfl, B1.out⟩
    by_cases t2 : 1073741824 < a
    · rw [if_pos (by omega)]
      go_enter Tryd.func42, Tryd.ntmps42
      go_wp2_with fail
      refine (K1.out).mono ?_
      rintro e w1 ⟨rfl, hb⟩
      have B1 := Lib.hid hb
      clear hb K1
      go_wp2_with fail
      go_ret
      exact ⟨rfl, B1.out⟩
    by_cases t3 : n < 0
    · rw [if_pos (by omega)]
      go_enter Tryd.func42, Tryd.ntmps42
      go_wp2_with fail
      refine (K1.out).mono ?_
      rintro e w1 ⟨rfl, hb⟩
      have B1 := Lib.hid hb
      clear hb K1
      go_wp2_with fail
      go_ret
      exact ⟨rfl, B1.out⟩
    by_cases t4 : 1073741824 < n
    · rw [if_pos (by omega)]
      go_enter Tryd.func42, Tryd.ntmps42
      go_wp2_with fail
      refine (K1.out).mono ?_
      rintro e w1 ⟨rfl, hb⟩
      have B1 := Lib.hid hb
      clear hb K1
      go_wp2_with fail
      go_ret
      exact ⟨rfl, B1.out⟩
    · rw [if_neg (by omega)]
      go_enter Tryd.func42, Tryd.ntmps42
      go_wp2_with fail
      refine (K1.out).mono ?_
      rintro e w1 ⟨rfl, hb⟩
      have B1 := Lib.hid hb
      clear hb K1
      go_wp2_with fail
      go_ret
      exact ⟨rfl, B1.out⟩
  · rw [if_pos x0]
    have xb : (x != 0) = true := by rw [bne_iff_ne]; exact x0
    go_enter Tryd.func42, Tryd.ntmps42
    go_wp2_with fail
    refine (K1.out).mono ?_
    rintro e w1 ⟨rfl, hb⟩
    have B1 := Lib.hid hb
    clear hb K1
    go_wp2_with fail
    go_ret
    exact ⟨rfl, B1.out⟩

/-! ### Plain -/
theorem addS_opt {L : Sp} {f t : Int} (hL : NF L) (h : f < t → endS (-1) L ≤ f ∧ 0 ≤ f ∧ t ≤ 1073741824) :
    NF (addS L f t) ∧ endS (-1) (addS L f t) = (if f < t then t else endS (-1) L) ∧ ∀ i, memS (addS L f t) i ↔ memS L i ∨ (f ≤ i ∧ i < t) := by
  by_cases c : f < t
  · obtain ⟨h1, h2, h3⟩ := h c
    rw [if_pos c]
    exact addS_spec hL h1 h2 c h3
  · rw [if_neg c, addS_none (by omega)]
    exact ⟨hL, rfl, fun i => ⟨.inl, fun h => h.elim id (fun ⟨h1, h2⟩ => absurd h1 (by omega))⟩⟩
/-- Where the places are after an insertion (up to the k-th span). -/
structure InsTo (L : Sp) (a n : Int) (k : Nat) (O : Sp) : Prop where
  nf : NF O
  e1 : endS (-1) O ≤ endS (-1) (L.take k) + n
  e2 : endS (-1) (L.take k) ≤ a → endS (-1) O ≤ endS (-1) (L.take k)
  me : ∀ i, memS O i ↔ (i < a ∧ memS (L.take k) i) ∨ (a + n ≤ i ∧ memS (L.take k) (i - n))
structure RemTo (L : Sp) (a n : Int) (k : Nat) (O : Sp) : Prop where
  nf : NF O
  en : endS (-1) O ≤ max (min (endS (-1) (L.take k)) a) (endS (-1) (L.take k) - n)
  me : ∀ i, memS O i ↔ (i < a ∧ memS (L.take k) i) ∨ (a ≤ i ∧ memS (L.take k) (i + n))
theorem take_end {L : Sp} (hN : NF L) {k : Nat} (hk : k < L.length) : endS (-1) (L.take k) < (sg L k).1 ∧ (sg L k).1 < (sg L k).2 ∧ (sg L k).2 ≤ 1073741824 ∧ endS (-1) (L.take (k + 1)) = (sg L k).2 ∧ ∀ i, memS (L.take (k + 1)) i ↔ memS (L.take k) i ∨ ((sg L k).1 ≤ i ∧ i < (sg L k).2) := by
  have e : L = L.take k ++ (sg L k :: L.drop (k + 1)) := by rw [sg_get L hk, ← List.drop_eq_getElem_cons hk, List.take_append_drop]
  have hN' := hN
  unfold NF at hN'
  rw [e] at hN'
  obtain ⟨q1, q2, q3, q4⟩ := (NFfrom.append.1 hN').2
  have e2 : L.take (k + 1) = L.take k ++ [sg L k] := by rw [sg_get L hk, List.take_succ_eq_append_getElem hk]
  refine ⟨q1, q2, q3, by rw [e2, endS_append]; rfl, fun i => ?_⟩
  rw [e2, memS_append, memS_cons]
  simp [memS_nil]
theorem InsTo.start (L : Sp) (a n : Int) (hn : 0 ≤ n) : InsTo L a n 0 [] := ⟨trivial, by show (-1 : Int) ≤ -1 + n; omega, fun _ => Int.le_refl _, fun i => by simp [memS_nil]⟩
theorem InsTo.step {L : Sp} {a n : Int} {k : Nat} {O : Sp} (h : InsTo L a n k O) (hN : NF L) (hk : k < L.length) (ha : 0 ≤ a) (hn : 0 ≤ n) (hm : a < (sg L k).2 → (sg L k).2 + n ≤ 1073741824) :
    InsTo L a n (k + 1) (addS (addS O (sg L k).1 (min (sg L k).2 a)) (max (sg L k).1 a + n) ((sg L k).2 + n)) ∧ NF (addS O (sg L k).1 (min (sg L k).2 a)) := by
  obtain ⟨q1, q2, q3, q4, q5⟩ := take_end hN hk
  obtain ⟨h1, h2, h3, h4⟩ := h
  have h0 := (NFfrom.le_end (NFfrom.append.1 (by have := hN; unfold NF at this; rwa [← List.take_append_drop k L] at this)).1)
  have h0' : -1 ≤ endS (-1) (L.take k) := by omega
  obtain ⟨x, hx⟩ : ∃ x, x = (sg L k).1 := ⟨_, rfl⟩
  obtain ⟨y, hy⟩ : ∃ x, x = (sg L k).2 := ⟨_, rfl⟩
  obtain ⟨e, he⟩ : ∃ x, x = endS (-1) (L.take k) := ⟨_, rfl⟩
  rw [← hx] at q1 q2 q5 ⊢
  rw [← hy] at q2 q3 q4 q5 hm ⊢
  rw [← he] at q1 h2 h3 h0'
  obtain ⟨a1, a2, a3⟩ := addS_opt (f := x) (t := min y a) h1 (fun c => ⟨by have := h3 (by omega); omega, by omega, by omega⟩)
  obtain ⟨b1, b2, b3⟩ := addS_opt (f := max x a + n) (t := y + n) a1 (fun c => ⟨by
    rw [a2]
    split
    · omega
    · omega, by omega, hm (by omega)⟩)
  refine ⟨⟨b1, ?_, ?_, fun i => ?_⟩, a1⟩
  · rw [b2, a2, q4]
    split
    · omega
    · split <;> omega
  · rw [b2, a2, q4]
    intro c
    rw [if_neg (by omega), if_pos (by omega)]
    omega
  · rw [b3, a3, h4, q5, q5]
    constructor
    · rintro (((⟨r1, r2⟩ | ⟨r1, r2⟩) | ⟨r1, r2⟩) | ⟨r1, r2⟩)
      · exact .inl ⟨r1, .inl r2⟩
      · exact .inr ⟨r1, .inl r2⟩
      · exact .inl ⟨by omega, .inr ⟨by omega, by omega⟩⟩
      · exact .inr ⟨by omega, .inr ⟨by omega, by omega⟩⟩
    · rintro (⟨r1, r2 | r2⟩ | ⟨r1, r2 | r2⟩)
      · exact .inl (.inl (.inl ⟨r1, r2⟩))
      · exact .inl (.inr ⟨by omega, by omega⟩)
      · exact .inl (.inl (.inr ⟨r1, r2⟩))
      · exact .inr ⟨by omega, by omega⟩
theorem RemTo.start (L : Sp) (a n : Int) (ha : 0 ≤ a) (hn : 0 ≤ n) : RemTo L a n 0 [] := ⟨trivial, by show (-1 : Int) ≤ max (min (-1) a) (-1 - n); omega, fun i => by simp [memS_nil]⟩
theorem RemTo.step {L : Sp} {a n : Int} {k : Nat} {O : Sp} (h : RemTo L a n k O) (hN : NF L) (hk : k < L.length) (ha : 0 ≤ a) (hn : 0 ≤ n) :
    RemTo L a n (k + 1) (addS (addS O (sg L k).1 (min (sg L k).2 a)) (max (sg L k).1 (a + n) - n) ((sg L k).2 - n)) ∧ NF (addS O (sg L k).1 (min (sg L k).2 a)) := by
  obtain ⟨q1, q2, q3, q4, q5⟩ := take_end hN hk
  obtain ⟨h1, h3, h4⟩ := h
  have h0 := (NFfrom.le_end (NFfrom.append.1 (by have := hN; unfold NF at this; rwa [← List.take_append_drop k L] at this)).1)
  have h0' : -1 ≤ endS (-1) (L.take k) := by omega
  obtain ⟨x, hx⟩ : ∃ x, x = (sg L k).1 := ⟨_, rfl⟩
  obtain ⟨y, hy⟩ : ∃ x, x = (sg L k).2 := ⟨_, rfl⟩
  obtain ⟨e, he⟩ : ∃ x, x = endS (-1) (L.take k) := ⟨_, rfl⟩
  rw [← hx] at q1 q2 q5 ⊢
  rw [← hy] at q2 q3 q4 q5 ⊢
  rw [← he] at q1 h3 h0'
  obtain ⟨a1, a2, a3⟩ := addS_opt (f := x) (t := min y a) h1 (fun c => ⟨by omega, by omega, by omega⟩)
  obtain ⟨b1, b2, b3⟩ := addS_opt (f := max x (a + n) - n) (t := y - n) a1 (fun c => ⟨by
    rw [a2]
    split <;> omega, by omega, by omega⟩)
  refine ⟨⟨b1, ?_, fun i => ?_⟩, a1⟩
  · rw [b2, a2, q4]
    split
    · omega
    · split <;> omega
  · rw [b3, a3, h4, q5, q5]
    constructor
    · rintro (((⟨r1, r2⟩ | ⟨r1, r2⟩) | ⟨r1, r2⟩) | ⟨r1, r2⟩)
      · exact .inl ⟨r1, .inl r2⟩
      · exact .inr ⟨r1, .inl r2⟩
      · exact .inl ⟨by omega, .inr ⟨by omega, by omega⟩⟩
      · exact .inr ⟨by omega, .inr ⟨by omega, by omega⟩⟩
    · rintro (⟨r1, r2 | r2⟩ | ⟨r1, r2 | r2⟩)
      · exact .inl (.inl (.inl ⟨r1, r2⟩))
      · exact .inl (.inr ⟨by omega, by omega⟩)
      · exact .inl (.inl (.inr ⟨r1, r2⟩))
      · exact .inr ⟨by omega, by omega⟩
end Go.Proofs.YteodkmndghaidaaDoor

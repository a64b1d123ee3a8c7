/-
  As Held: a region that first takes what yields the same in each world that meets S, then either of two operations, whichever comes first. Over any program.
-/
import Derived.Test.YtngbaiijdgmpoaaHeld
namespace Go.Proofs.Ytngbaiijdgmpoaa
open Go.RowKit
set_option linter.unusedVariables false

section
variable {P : Program} {ops : Array Oper} {md : Region.Mode}

theorem mark_op {Q : Exit → Act → World → Prop} {S : World → Prop} (hsel : Region.noSelect ops = true) {j : Nat} {o : Oper} (ho : ops[j]? = some o) (p : List (Bool × Nat)) (l : Array Bool) (a : Act) (w : World)
    (h3 : planB md ops p (l.setIfInBounds j true) = true) (h : wpList P ops (fun e x y => match e with | .normal => S y ∧ HWalk P ops Q S (pickH ops p) x y | .panic _ => False | e => Q e x y) [o] a w) :
    wpOp P ops (NoPan Q) j (fun a' w' => S w' ∧ wpAnyH P md ops (NoPan Q) S p.length (l.setIfInBounds j true) a' w') a w := by
  unfold wpList at h
  unfold wpOp
  simp only [ho]
  have hstep : ∀ (x : Act) (y : World), (S y ∧ HWalk P ops Q S (pickH ops p) x y) → S y ∧ wpAnyH P md ops (NoPan Q) S p.length (l.setIfInBounds j true) x y := fun x y hxy => ⟨hxy.1, walk_any hsel p _ x y hxy.1 h3 hxy.2⟩
  split
  · rename_i hw
    rw [if_pos hw] at h
    rcases h with h | ⟨h4, x, y, h5⟩
    · exact .inl (wp_turn (fun x y hm => hstep x y hm) (fun e x y he hm => by cases e <;> first | exact absurd rfl he | exact hm) h)
    · exact .inr ⟨h4, x, y, h5⟩
  · rename_i hw
    rw [if_neg hw] at h
    exact hstep _ _ h
def planP (md : Region.Mode) (ops : Array Oper) (k : Array Bool → Bool) : List Nat → Array Bool → Bool
  | [], l => k l
  | i :: p, l => (Region.ready md ops l).contains i && Region.free md ops l i && planP md ops k p (l.setIfInBounds i true)
def pickP (ops : Array Oper) : List Nat → List Oper
  | [] => []
  | i :: is => match ops[i]? with
    | some o => o :: pickP ops is
    | none => pickP ops is
def HPure (P : Program) (ops : Array Oper) (S : World → Prop) (X : Act → World → Prop) : List Oper → Act → World → Prop
  | [], a, w => X a w
  | o :: p, a, w => if Region.wanted o (yielded ops a.tmps) then ∃ v, (∀ w', S w' → (execOp a.eval o).run P w' = .ok (.value v) w') ∧ HPure P ops S X p (a.put o.dst v) w else HPure P ops S X p (a.put o.dst undef) w
theorem pure_any {Q : Exit → Act → World → Prop} {S : World → Prop} {X : Act → World → Prop} {k : Array Bool → Bool} {m : Nat} (hsel : Region.noSelect ops = true) {w : World} (hS : S w)
    (hX : ∀ l a, k l = true → X a w → wpAnyH P md ops (NoPan Q) S m l a w) : ∀ (p : List Nat) (l : Array Bool) (a : Act), planP md ops k p l = true → HPure P ops S X (pickP ops p) a w → wpAnyH P md ops (NoPan Q) S (m + p.length) l a w
  | [], l, a, hB, h => hX l a hB h
  | i :: p, l, a, hB, h => by
    simp only [planP, Bool.and_eq_true] at hB
    obtain ⟨⟨h1, h2⟩, h3⟩ := hB
    have hr : i ∈ Region.ready md ops l := by simpa using h1
    obtain ⟨_, o, ho, _⟩ := mem_ready.1 hr
    rw [show pickP ops (i :: p) = o :: pickP ops p by simp only [pickP, ho]] at h
    have h : (if Region.wanted o (yielded ops a.tmps) then ∃ v, (∀ w', S w' → (execOp a.eval o).run P w' = .ok (.value v) w') ∧ HPure P ops S X (pickP ops p) (a.put o.dst v) w else HPure P ops S X (pickP ops p) (a.put o.dst undef) w) := h
    by_cases hw : Region.wanted o (yielded ops a.tmps) = true
    · rw [if_pos hw] at h
      obtain ⟨v, hv, hn⟩ := h
      exact wpAnyH_take ho hsel h2 h1 (fun _ _ _ h => h) (.inl ⟨hw, hv⟩) hS (pure_any hsel hS hX p _ _ h3 hn)
    · rw [if_neg hw] at h
      exact wpAnyH_take (v := undef) ho hsel h2 h1 (fun _ _ _ h => h) (.inr ⟨by simpa using hw, rfl⟩) hS (pure_any hsel hS hX p _ _ h3 h)
/-- What is to be walked behind the first ones: either of two, then the rest. -/
def HTwo (P : Program) (ops : Array Oper) (Q : Exit → Act → World → Prop) (S : World → Prop) (oi oj : Oper) (p q : List (Bool × Oper)) (a : Act) (w : World) : Prop :=
  wpList P ops (fun e x y => match e with | .normal => S y ∧ HWalk P ops Q S p x y | .panic _ => False | e => Q e x y) [oi] a w ∧
  wpList P ops (fun e x y => match e with | .normal => S y ∧ HWalk P ops Q S q x y | .panic _ => False | e => Q e x y) [oj] a w
theorem wp_region_two {id : Nat} {Q : Exit → Act → World → Prop} {a : Act} {w : World} {l : List Oper} (p0 : List Nat) (i j : Nat) (p q : List (Bool × Nat)) (S : World → Prop) (hm : P.follows .mixedOrders = true)
    (hB : (Region.noSelect l.toArray && decide (p.length + 1 + p0.length = l.toArray.size) && decide (q.length = p.length) &&
      planP .any l.toArray (fun b => decide (Region.ready .any l.toArray b = [i, j]) && planB .any l.toArray p (b.setIfInBounds i true) && planB .any l.toArray q (b.setIfInBounds j true)) p0 (Array.replicate l.toArray.size false)) = true)
    (hS : S w.drew) (oi oj : Oper) (hi : l.toArray[i]? = some oi) (hj : l.toArray[j]? = some oj) (x : List Oper) (y z : List (Bool × Oper)) (hx : pickP l.toArray p0 = x) (hy : pickH l.toArray p = y) (hz : pickH l.toArray q = z)
    (h : HPure P l.toArray S (HTwo P l.toArray Q S oi oj y z) x a w.drew) : (Code.region id l.toArray true).wp P Q a w := by
  subst hx; subst hy; subst hz
  refine Code.wp_mono NoPan.imp ?_
  simp only [Bool.and_eq_true, decide_eq_true_eq] at hB
  obtain ⟨⟨⟨hsel, hcnt⟩, hlen⟩, hB⟩ := hB
  refine wp_region_held (S := S) hm ?_
  have := pure_any (md := .any) (Q := Q) (m := p.length + 1) (X := HTwo P l.toArray Q S oi oj (pickH l.toArray p) (pickH l.toArray q)) (k := fun b => decide (Region.ready .any l.toArray b = [i, j]) && planB .any l.toArray p (b.setIfInBounds i true) && planB .any l.toArray q (b.setIfInBounds j true)) hsel hS (fun b a hk hX => by
    simp only [Bool.and_eq_true, decide_eq_true_eq] at hk
    obtain ⟨⟨k1, k2⟩, k3⟩ := hk
    obtain ⟨x1, x2⟩ := hX
    refine wpAnyH_all k1 (by simp) fun t ht => ?_
    have ht' : t = i ∨ t = j := by simpa using ht
    rcases ht' with rfl | rfl
    · exact mark_op hsel hi p b a w.drew k2 x1
    · have := mark_op (md := .any) hsel hj q b a w.drew k3 x2
      rw [hlen] at this
      exact this) p0 (Array.replicate l.toArray.size false) a hB h
  rw [hcnt] at this
  exact this
theorem HPure.step {S : World → Prop} {X : Act → World → Prop} {o : Oper} {p : List Oper} {a : Act} {w : World}
    (h : ∀ K : Act → Prop, (∀ a, HPure P ops S X p a w → K a) → if Region.wanted o (yielded ops a.tmps) then ∃ v, (∀ w', S w' → (execOp a.eval o).run P w' = .ok (.value v) w') ∧ K (a.put o.dst v) else K (a.put o.dst undef)) : HPure P ops S X (o :: p) a w :=
  h _ (fun _ h => h)
theorem HPure.two {Q : Exit → Act → World → Prop} {S : World → Prop} {oi oj : Oper} {p q : List (Bool × Oper)} {a : Act} {w : World}
    (h1 : wpList P ops (fun e x y => match e with | .normal => S y ∧ HWalk P ops Q S p x y | .panic _ => False | e => Q e x y) [oi] a w)
    (h2 : wpList P ops (fun e x y => match e with | .normal => S y ∧ HWalk P ops Q S q x y | .panic _ => False | e => Q e x y) [oj] a w) : HPure P ops S (HTwo P ops Q S oi oj p q) [] a w := ⟨h1, h2⟩
end
end Go.Proofs.Ytngbaiijdgmpoaa

/-
  As Held: a region's plan is a tree: what yields the same in each world that meets S is taken first; a mark alone; or either of two marks, whichever comes first. Over any program.
-/
import Derived.Test.YtngbaiijdgmpoaaHeld
namespace Go.Proofs.Ytngbaiijdgmpoaa
open Go.RowKit
set_option linter.unusedVariables false

inductive PT where
  | fin
  | pure (i : Nat) (p : PT)
  | mark (i : Nat) (p : PT)
  | two (i j : Nat) (p q : PT)
def PT.pures : List Nat → PT → PT
  | [], p => p
  | i :: is, p => .pure i (PT.pures is p)
def PT.size : PT → Nat
  | .fin => 0
  | .pure _ p => p.size + 1
  | .mark _ p => p.size + 1
  | .two _ _ p _ => p.size + 1
section
variable {P : Program} {ops : Array Oper} {md : Region.Mode}

def planT (md : Region.Mode) (ops : Array Oper) : PT → Array Bool → Bool
  | .fin, l => decide (Region.ready md ops l = [])
  | .pure i p, l => (Region.ready md ops l).contains i && Region.free md ops l i && planT md ops p (l.setIfInBounds i true)
  | .mark i p, l => decide (Region.ready md ops l = [i]) && planT md ops p (l.setIfInBounds i true)
  | .two i j p q, l => decide (Region.ready md ops l = [i, j]) && decide (q.size = p.size) && planT md ops p (l.setIfInBounds i true) && planT md ops q (l.setIfInBounds j true)
/-- What is to be walked. -/
def HT (P : Program) (ops : Array Oper) (Q : Exit → Act → World → Prop) (S : World → Prop) : PT → Act → World → Prop
  | .fin, a, w => Q .normal a w
  | .pure i p, a, w => ∀ o, ops[i]? = some o → if Region.wanted o (yielded ops a.tmps) then ∃ v, (∀ w', S w' → (execOp a.eval o).run P w' = .ok (.value v) w') ∧ HT P ops Q S p (a.put o.dst v) w else HT P ops Q S p (a.put o.dst undef) w
  | .mark i p, a, w => ∀ o, ops[i]? = some o → wpList P ops (fun e x y => match e with | .normal => S y ∧ HT P ops Q S p x y | .panic _ => False | e => Q e x y) [o] a w
  | .two i j p q, a, w => (∀ o, ops[i]? = some o → wpList P ops (fun e x y => match e with | .normal => S y ∧ HT P ops Q S p x y | .panic _ => False | e => Q e x y) [o] a w) ∧
      (∀ o, ops[j]? = some o → wpList P ops (fun e x y => match e with | .normal => S y ∧ HT P ops Q S q x y | .panic _ => False | e => Q e x y) [o] a w)

theorem tree_mark {Q : Exit → Act → World → Prop} {S : World → Prop} {j : Nat} {o : Oper} (ho : ops[j]? = some o) {p : PT} {l : Array Bool} {a : Act} {w : World}
    (hstep : ∀ (x : Act) (y : World), (S y ∧ HT P ops Q S p x y) → S y ∧ wpAnyH P md ops (NoPan Q) S p.size (l.setIfInBounds j true) x y)
    (h : wpList P ops (fun e x y => match e with | .normal => S y ∧ HT P ops Q S p x y | .panic _ => False | e => Q e x y) [o] a w) :
    wpOp P ops (NoPan Q) j (fun a' w' => S w' ∧ wpAnyH P md ops (NoPan Q) S p.size (l.setIfInBounds j true) a' w') a w := by
  unfold wpList at h
  unfold wpOp
  simp only [ho]
  split
  · rename_i hw
    rw [if_pos hw] at h
    rcases h with h | ⟨h4, x, y, h5⟩
    · exact .inl (wp_turn (fun x y hm => hstep x y hm) (fun e x y he hm => by cases e <;> first | exact absurd rfl he | exact hm) h)
    · exact .inr ⟨h4, x, y, h5⟩
  · rename_i hw
    rw [if_neg hw] at h
    exact hstep _ _ h
theorem ready_op {l : Array Bool} {i : Nat} (hr : i ∈ Region.ready md ops l) : ∃ o, ops[i]? = some o := by
  obtain ⟨_, o, ho, _⟩ := mem_ready.1 hr
  exact ⟨o, ho⟩
theorem tree_any {Q : Exit → Act → World → Prop} {S : World → Prop} (hsel : Region.noSelect ops = true) : ∀ (p : PT) (l : Array Bool) (a : Act) (w : World), S w →
    planT md ops p l = true → HT P ops Q S p a w → wpAnyH P md ops (NoPan Q) S p.size l a w
  | .fin, l, a, w, hS, hB, h => wpAnyH_done (P := P) (S := S) (Q := NoPan Q) (by simpa [planT] using hB) h 0
  | .pure i p, l, a, w, hS, hB, h => by
    simp only [planT, Bool.and_eq_true] at hB
    obtain ⟨⟨h1, h2⟩, h3⟩ := hB
    have hr : i ∈ Region.ready md ops l := by simpa using h1
    obtain ⟨o, ho⟩ := ready_op hr
    have h : (if Region.wanted o (yielded ops a.tmps) then ∃ v, (∀ w', S w' → (execOp a.eval o).run P w' = .ok (.value v) w') ∧ HT P ops Q S p (a.put o.dst v) w else HT P ops Q S p (a.put o.dst undef) w) := h o ho
    by_cases hw : Region.wanted o (yielded ops a.tmps) = true
    · rw [if_pos hw] at h
      obtain ⟨v, hv, hn⟩ := h
      exact wpAnyH_take ho hsel h2 h1 (fun _ _ _ h => h) (.inl ⟨hw, hv⟩) hS (tree_any hsel p _ _ w hS h3 hn)
    · rw [if_neg hw] at h
      exact wpAnyH_take (v := undef) ho hsel h2 h1 (fun _ _ _ h => h) (.inr ⟨by simpa using hw, rfl⟩) hS (tree_any hsel p _ _ w hS h3 h)
  | .mark i p, l, a, w, hS, hB, h => by
    simp only [planT, Bool.and_eq_true, decide_eq_true_eq] at hB
    obtain ⟨h1, h3⟩ := hB
    have hr : i ∈ Region.ready md ops l := by rw [h1]; simp
    obtain ⟨o, ho⟩ := ready_op hr
    refine wpAnyH_all h1 (by simp) fun j hj => ?_
    obtain rfl : j = i := by simpa using hj
    exact tree_mark ho (fun x y hxy => ⟨hxy.1, tree_any hsel p _ x y hxy.1 h3 hxy.2⟩) (h o ho)
  | .two i j p q, l, a, w, hS, hB, h => by
    simp only [planT, Bool.and_eq_true, decide_eq_true_eq] at hB
    obtain ⟨⟨⟨h1, h4⟩, h2⟩, h3⟩ := hB
    obtain ⟨oi, hi⟩ := ready_op (md := md) (ops := ops) (l := l) (i := i) (by rw [h1]; simp)
    obtain ⟨oj, hj⟩ := ready_op (md := md) (ops := ops) (l := l) (i := j) (by rw [h1]; simp)
    obtain ⟨x1, x2⟩ := h
    refine wpAnyH_all h1 (by simp) fun t ht => ?_
    have ht' : t = i ∨ t = j := by simpa using ht
    rcases ht' with rfl | rfl
    · exact tree_mark hi (fun x y hxy => ⟨hxy.1, tree_any hsel p _ x y hxy.1 h2 hxy.2⟩) (x1 oi hi)
    · have := tree_mark (md := md) (l := l) hj (fun x y hxy => ⟨hxy.1, tree_any hsel q _ x y hxy.1 h3 hxy.2⟩) (x2 oj hj)
      rw [h4] at this
      exact this

theorem wp_region_tree {id : Nat} {Q : Exit → Act → World → Prop} {a : Act} {w : World} {l : List Oper} (p : PT) (S : World → Prop) (hm : P.follows .mixedOrders = true)
    (hB : (Region.noSelect l.toArray && decide (p.size = l.toArray.size) && planT .any l.toArray p (Array.replicate l.toArray.size false)) = true) (hS : S w.drew)
    (h : HT P l.toArray Q S p a w.drew) : (Code.region id l.toArray true).wp P Q a w := by
  refine Code.wp_mono NoPan.imp ?_
  simp only [Bool.and_eq_true, decide_eq_true_eq] at hB
  obtain ⟨⟨hsel, hcnt⟩, hB⟩ := hB
  refine wp_region_held (S := S) hm ?_
  have := tree_any (md := .any) (Q := Q) hsel p (Array.replicate l.toArray.size false) a w.drew hS hB h
  rw [hcnt] at this
  exact this
theorem HT.pure {Q : Exit → Act → World → Prop} {S : World → Prop} {i : Nat} {o : Oper} {p : PT} {a : Act} {w : World} (ho : ops[i]? = some o)
    (h : ∀ K : Act → Prop, (∀ a, HT P ops Q S p a w → K a) → if Region.wanted o (yielded ops a.tmps) then ∃ v, (∀ w', S w' → (execOp a.eval o).run P w' = .ok (.value v) w') ∧ K (a.put o.dst v) else K (a.put o.dst undef)) : HT P ops Q S (.pure i p) a w :=
  fun o' ho' => by
    obtain rfl : o = o' := Option.some.inj (ho.symm.trans ho')
    exact h _ (fun _ h => h)
theorem HT.mark {Q : Exit → Act → World → Prop} {S : World → Prop} {i : Nat} {o : Oper} {p : PT} {a : Act} {w : World} (ho : ops[i]? = some o)
    (h : wpList P ops (fun e x y => match e with | .normal => S y ∧ HT P ops Q S p x y | .panic _ => False | e => Q e x y) [o] a w) : HT P ops Q S (.mark i p) a w := fun o' ho' => by
  obtain rfl : o = o' := Option.some.inj (ho.symm.trans ho')
  exact h
theorem HT.two {Q : Exit → Act → World → Prop} {S : World → Prop} {i j : Nat} {o u : Oper} {p q : PT} {a : Act} {w : World} (ho : ops[i]? = some o) (hu : ops[j]? = some u)
    (h1 : wpList P ops (fun e x y => match e with | .normal => S y ∧ HT P ops Q S p x y | .panic _ => False | e => Q e x y) [o] a w)
    (h2 : wpList P ops (fun e x y => match e with | .normal => S y ∧ HT P ops Q S q x y | .panic _ => False | e => Q e x y) [u] a w) : HT P ops Q S (.two i j p q) a w := by
  refine ⟨fun o' ho' => ?_, fun o' ho' => ?_⟩
  · obtain rfl : o = o' := Option.some.inj (ho.symm.trans ho')
    exact h1
  · obtain rfl : u = o' := Option.some.inj (hu.symm.trans ho')
    exact h2
theorem HT.fin {Q : Exit → Act → World → Prop} {S : World → Prop} {a : Act} {w : World} (h : Q .normal a w) : HT P ops Q S .fin a w := h
end
end Go.Proofs.Ytngbaiijdgmpoaa

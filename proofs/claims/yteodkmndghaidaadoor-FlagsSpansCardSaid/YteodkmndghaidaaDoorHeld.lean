/-
  Regions that draw their order and hold calls: a condition S on the world holds all the way; what yields the same value in each world that meets S is taken first; a mark (a call, an allocation) is taken when it alone can be. Over any program.
-/
import Derived.OrdersHeld
import Derived.StillTactics
import Derived.Test.YteodkmndghaidaaDoorMem
namespace Go.Proofs.YteodkmndghaidaaDoor
open Go.RowKit
set_option linter.unusedVariables false

section
variable {P : Program} {ops : Array Oper} {md : Region.Mode}

/-- A plan: numbers of operations, each with whether it is a mark. -/
def pickH (ops : Array Oper) : List (Bool × Nat) → List (Bool × Oper)
  | [] => []
  | (b, i) :: is => match ops[i]? with
    | some o => (b, o) :: pickH ops is
    | none => pickH ops is
def planB (md : Region.Mode) (ops : Array Oper) : List (Bool × Nat) → Array Bool → Bool
  | [], l => decide (Region.ready md ops l = [])
  | (false, i) :: p, l => (Region.ready md ops l).contains i && Region.free md ops l i && planB md ops p (l.setIfInBounds i true)
  | (true, i) :: p, l => decide (Region.ready md ops l = [i]) && planB md ops p (l.setIfInBounds i true)
/-- What is to be walked. -/
def HWalk (P : Program) (ops : Array Oper) (Q : Exit → Act → World → Prop) (S : World → Prop) : List (Bool × Oper) → Act → World → Prop
  | [], a, w => Q .normal a w
  | (false, o) :: p, a, w => if Region.wanted o (yielded ops a.tmps) then ∃ v, (∀ w', S w' → (execOp a.eval o).run P w' = .ok (.value v) w') ∧ HWalk P ops Q S p (a.put o.dst v) w else HWalk P ops Q S p (a.put o.dst undef) w
  | (true, o) :: p, a, w => wpList P ops (fun e x y => match e with | .normal => S y ∧ HWalk P ops Q S p x y | .panic _ => False | e => Q e x y) [o] a w

/-- The post, but 'False' at a panic. -/
def NoPan (Q : Exit → Act → World → Prop) (e : Exit) (a : Act) (w : World) : Prop := match e with
  | .panic _ => False
  | e => Q e a w
theorem NoPan.imp {Q : Exit → Act → World → Prop} (e : Exit) (a : Act) (w : World) (h : NoPan Q e a w) : Q e a w := by
  cases e <;> first | exact h | exact (h : False).elim
theorem wp_turn {o : Oper} {a : Act} {w : World} {K K' : Act → World → Prop} {Q Q' : Exit → Act → World → Prop} (hK : ∀ a w, K a w → K' a w) (hQ : ∀ e a w, e ≠ .normal → Q e a w → Q' e a w) (h : o.wp P a w K Q) : o.wp P a w K' Q' := by
  unfold Oper.wp at *
  generalize (execOp a.eval o).run P w = r at *
  cases r with
  | ok n w' =>
    cases n <;> simp only [Oper.upon] at h ⊢ <;>
      first
        | exact hK _ _ h
        | (refine Calls.mono h (fun e w'' he => ?_)
           cases e with
           | returned v => exact hK _ _ he
           | panicked c => exact hQ _ _ _ (by simp) he
           | outgrown => obtain ⟨x, y, hh⟩ := he; exact ⟨x, y, hQ _ _ _ (by simp) hh⟩)
        | exact Rows.mono h (fun _ _ he => hK _ _ he)
  | halt x w' => cases x <;> simp only [Oper.upon] at h ⊢ <;> first | exact hQ _ _ _ (by simp) h | exact h

theorem walk_any {Q : Exit → Act → World → Prop} {S : World → Prop} (hsel : Region.noSelect ops = true) : ∀ (p : List (Bool × Nat)) (l : Array Bool) (a : Act) (w : World), S w →
    planB md ops p l = true → HWalk P ops Q S (pickH ops p) a w → wpAnyH P md ops (NoPan Q) S p.length l a w
  | [], l, a, w, hS, hB, h => wpAnyH_done (P := P) (S := S) (Q := NoPan Q) (by simpa [planB] using hB) h 0
  | (false, i) :: p, l, a, w, hS, hB, h => by
    simp only [planB, Bool.and_eq_true] at hB
    obtain ⟨⟨h1, h2⟩, h3⟩ := hB
    have hr : i ∈ Region.ready md ops l := by simpa using h1
    obtain ⟨_, o, ho, _⟩ := mem_ready.1 hr
    rw [show pickH ops ((false, i) :: p) = (false, o) :: pickH ops p by simp only [pickH, ho]] at h
    have h : (if Region.wanted o (yielded ops a.tmps) then ∃ v, (∀ w', S w' → (execOp a.eval o).run P w' = .ok (.value v) w') ∧ HWalk P ops Q S (pickH ops p) (a.put o.dst v) w else HWalk P ops Q S (pickH ops p) (a.put o.dst undef) w) := h
    by_cases hw : Region.wanted o (yielded ops a.tmps) = true
    · rw [if_pos hw] at h
      obtain ⟨v, hv, hn⟩ := h
      exact wpAnyH_take ho hsel h2 h1 (fun _ _ _ h => h) (.inl ⟨hw, hv⟩) hS (walk_any hsel p _ _ w hS h3 hn)
    · rw [if_neg hw] at h
      exact wpAnyH_take (v := undef) ho hsel h2 h1 (fun _ _ _ h => h) (.inr ⟨by simpa using hw, rfl⟩) hS (walk_any hsel p _ _ w hS h3 h)
  | (true, i) :: p, l, a, w, hS, hB, h => by
    simp only [planB, Bool.and_eq_true, decide_eq_true_eq] at hB
    obtain ⟨h1, h3⟩ := hB
    have hr : i ∈ Region.ready md ops l := by rw [h1]; simp
    obtain ⟨_, o, ho, _⟩ := mem_ready.1 hr
    rw [show pickH ops ((true, i) :: p) = (true, o) :: pickH ops p by simp only [pickH, ho]] at h
    refine wpAnyH_all h1 (by simp) fun j hj => ?_
    obtain rfl : j = i := by simpa using hj
    have h : wpList P ops (fun e x y => match e with | .normal => S y ∧ HWalk P ops Q S (pickH ops p) x y | .panic _ => False | e => Q e x y) [o] a w := h
    unfold wpList at h
    unfold wpOp
    simp only [ho]
    have hstep : ∀ (x : Act) (y : World), (S y ∧ HWalk P ops Q S (pickH ops p) x y) → S y ∧ wpAnyH P md ops (NoPan Q) S p.length (l.setIfInBounds j true) x y := fun x y hxy => ⟨hxy.1, walk_any hsel p _ x y hxy.1 h3 hxy.2⟩
    split
    · rename_i hw
      rw [if_pos hw] at h
      rcases h with h | ⟨h4, x, y, h5⟩
      · exact .inl (wp_turn (fun x y hm => hstep x y hm) (fun e x y he hm => by cases e <;> first | exact absurd rfl he | exact hm) h)
      · exact .inr ⟨h4, x, y, h5⟩
    · rename_i hw
      rw [if_neg hw] at h
      exact hstep _ _ h

theorem wp_region_plan {id : Nat} {Q : Exit → Act → World → Prop} {a : Act} {w : World} {l : List Oper} (p : List (Bool × Nat)) (S : World → Prop) (hm : P.follows .mixedOrders = true)
    (hB : (Region.noSelect l.toArray && decide (p.length = l.toArray.size) && planB .any l.toArray p (Array.replicate l.toArray.size false)) = true) (hS : S w.drew) (x : List (Bool × Oper)) (hx : pickH l.toArray p = x)
    (h : HWalk P l.toArray Q S x a w.drew) : (Code.region id l.toArray true).wp P Q a w := by
  subst hx
  refine Code.wp_mono NoPan.imp ?_
  simp only [Bool.and_eq_true, decide_eq_true_eq] at hB
  obtain ⟨⟨hsel, hcnt⟩, hB⟩ := hB
  refine wp_region_held (S := S) hm ?_
  have := walk_any (md := .any) (Q := Q) hsel p (Array.replicate l.toArray.size false) a w.drew hS hB h
  rw [hcnt] at this
  exact this
theorem HWalk.step {ops : Array Oper} {Q : Exit → Act → World → Prop} {S : World → Prop} {o : Oper} {p : List (Bool × Oper)} {a : Act} {w : World}
    (h : ∀ K : Act → Prop, (∀ a, HWalk P ops Q S p a w → K a) → if Region.wanted o (yielded ops a.tmps) then ∃ v, (∀ w', S w' → (execOp a.eval o).run P w' = .ok (.value v) w') ∧ K (a.put o.dst v) else K (a.put o.dst undef)) : HWalk P ops Q S ((false, o) :: p) a w :=
  h _ (fun _ h => h)
theorem held_yes {S : World → Prop} {o : Oper} {a : Act} {K : Act → Prop} {v : Value} (hg : Region.wanted o (yielded ops a.tmps) = true) (hy : ∀ w', S w' → (execOp a.eval o).run P w' = .ok (.value v) w') (hk : K (a.put o.dst v)) :
    if Region.wanted o (yielded ops a.tmps) then ∃ v, (∀ w', S w' → (execOp a.eval o).run P w' = .ok (.value v) w') ∧ K (a.put o.dst v) else K (a.put o.dst undef) := by rw [if_pos hg]; exact ⟨v, hy, hk⟩
theorem ite_no {c : Prop} [Decidable c] {A B : Prop} (h : ¬ c) (b : B) : if c then A else B := by rw [if_neg h]; exact b
theorem HWalk.mark {ops : Array Oper} {Q : Exit → Act → World → Prop} {S : World → Prop} {o : Oper} {p : List (Bool × Oper)} {a : Act} {w : World}
    (h : wpList P ops (fun e x y => match e with | .normal => S y ∧ HWalk P ops Q S p x y | .panic _ => False | e => Q e x y) [o] a w) : HWalk P ops Q S ((true, o) :: p) a w := h
theorem HWalk.done {ops : Array Oper} {Q : Exit → Act → World → Prop} {S : World → Prop} {a : Act} {w : World} (h : Q .normal a w) : HWalk P ops Q S [] a w := h
end
end Go.Proofs.YteodkmndghaidaaDoor

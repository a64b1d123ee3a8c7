/-
  Regions that draw their order and hold calls that turn the world: a plan parts their operations. Some (the pure ones) may be taken first in any world; some only read, and stand between two marks; a mark (a call, a store) stands alone in every order. Over any program.
-/
import Derived.StillTail
import Derived.StillTactics
import Derived.Test.YtgfhnakjdcpfmaaMem
namespace Go.Proofs.Ytgfhnakjdcpfmaa
open Go.RowKit
set_option linter.unusedVariables false

section
variable {P : Program} {ops : Array Oper} {md : Region.Mode} {w : World}

/-- An operation whose value hangs on the frame alone. -/
def pureB (o : Oper) : Bool := match o.op with
  | .move _ => true
  | .assign _ => true
  | _ => false
theorem pure_yields {o : Oper} {v : Value} {a : Act} (hp : pureB o = true) (h : YieldsAt P ops w o v a) : Yields P ops o v a := by
  rcases h with ⟨hw, hv⟩ | ⟨hw, rfl⟩
  · refine .inl ⟨hw, fun w' => ?_⟩
    obtain ⟨dst, op, type, pos, after, guard⟩ := o
    cases op <;> simp only [pureB] at hp <;> first | (cases hp; done) | skip
    all_goals
      rcases hv with hv | ⟨hv, rfl⟩ | ⟨f, args, hv, _⟩
      all_goals
        simp only [execOp] at hv ⊢
        first
          | (simp only [Sem.run_pure] at hv ⊢; injection hv with h1 h2; first | (injection h1 with h1; rw [h1]; done) | (cases h1; done))
          | (simp [go_sem] at hv ⊢; try exact hv)
  · exact .inr ⟨hw, rfl⟩

/-! ### One part: operations ss that only read, then the mark n -/
/-- What is left when the part begins, but not of it. -/
def Tail (l0 : Array Bool) (ss : List Nat) (t : Nat) : Bool := !l0.getD t true && !ss.contains t
def partB (md : Region.Mode) (ops : Array Oper) (l0 : Array Bool) (ss : List Nat) (n : Nat) : Bool :=
  Tail l0 ss n && decide (n < ops.size) && decide (l0.size = ops.size) &&
  (ss.all fun i => (List.range ops.size).any fun j => decide (i < j) && Region.waitsFor md ops j i && (j == n || ss.contains j)) &&
  ((List.range ops.size).all fun t => !Tail l0 ss t || t == n || (List.range ops.size).any fun j => Tail l0 ss j && Region.waitsFor md ops t j)

structure Inv (md : Region.Mode) (ops : Array Oper) (l0 : Array Bool) (ss : List Nat) (listed : Array Bool) : Prop where
  size : listed.size = ops.size
  closed : ∀ j oj, ops[j]? = some oj → listed.getD j false = true → ∀ e ∈ oj.after, Region.binds md e = true → listed.getD e.on false = true
  tail : ∀ t, t < ops.size → Tail l0 ss t = true → listed.getD t true = false
  mono : ∀ t, l0.getD t false = true → listed.getD t false = true

theorem both_false {listed : Array Bool} {i : Nat} (h : listed.getD i true = false) : listed.getD i false = false := by
  rcases Nat.lt_or_ge i listed.size with h' | h'
  · simp [h'] at h ⊢; exact h
  · simp [Array.getElem?_eq_none h'] at h
theorem in_false {listed : Array Bool} {i : Nat} (hi : i < listed.size) (h : listed.getD i false = false) : listed.getD i true = false := by
  simp [hi] at h ⊢; exact h
theorem in_true {listed : Array Bool} {i : Nat} (hi : i < listed.size) (h : ¬ listed.getD i true = false) : listed.getD i false = true := by
  simp [hi] at h ⊢; exact h

theorem Inv.set {l0 : Array Bool} {ss : List Nat} {listed : Array Bool} {i : Nat} (inv : Inv md ops l0 ss listed) (hi : i ∈ Region.ready md ops listed) (hs : ss.contains i = true) : Inv md ops l0 ss (listed.setIfInBounds i true) := by
  obtain ⟨_, oi, hoi, hall⟩ := mem_ready.1 hi
  refine ⟨by simp [inv.size], fun j oj hj hl e he hb => ?_, fun t ht hT => ?_, fun t h => getD_set_true (inv.mono t h)⟩
  · by_cases e' : i = j
    · subst e'
      obtain rfl : oj = oi := Option.some.inj (hj.symm.trans hoi)
      exact getD_set_true (hall e he hb)
    · rw [getD_set_ne false e'] at hl
      exact getD_set_true (inv.closed j oj hj hl e he hb)
  · have hne : i ≠ t := fun e' => by
      subst e'
      unfold Tail at hT
      rw [hs] at hT
      simp at hT
    rw [getD_set_ne true hne]
    exact inv.tail t ht hT

theorem part_spec {l0 : Array Bool} {ss : List Nat} {n : Nat} (h : partB md ops l0 ss n = true) :
    Tail l0 ss n = true ∧ n < ops.size ∧ l0.size = ops.size ∧ (∀ i, ss.contains i = true → ∃ j, j < ops.size ∧ i < j ∧ Region.waitsFor md ops j i = true ∧ (j = n ∨ ss.contains j = true)) ∧
      ∀ t, t < ops.size → Tail l0 ss t = true → t = n ∨ ∃ j, j < ops.size ∧ Tail l0 ss j = true ∧ Region.waitsFor md ops t j = true := by
  unfold partB at h
  simp only [Bool.and_eq_true, decide_eq_true_eq, List.all_eq_true, List.any_eq_true, List.mem_range, Bool.or_eq_true, beq_iff_eq, Bool.not_eq_true'] at h
  obtain ⟨⟨⟨⟨h1, h2⟩, h3⟩, h4⟩, h5⟩ := h
  refine ⟨h1, h2, h3, fun i hi => ?_, fun t ht hT => ?_⟩
  · obtain ⟨j, hj, ⟨h6, h7⟩, h8⟩ := h4 i (by simpa using hi)
    exact ⟨j, hj, h6, h7, h8⟩
  · rcases h5 t ht with (h6 | h6) | ⟨j, hj, h6, h7⟩
    · rw [hT] at h6; cases h6
    · exact .inl h6
    · exact .inr ⟨j, hj, h6, h7⟩

theorem blocked {l0 : Array Bool} {ss : List Nat} {n : Nat} {listed : Array Bool} (hp : partB md ops l0 ss n = true) (inv : Inv md ops l0 ss listed) :
    ∀ (d i : Nat), ops.size - i ≤ d → ss.contains i = true → listed.getD i true = false → ∀ t, Tail l0 ss t = true → t ∉ Region.ready md ops listed := by
  obtain ⟨p1, p2, p3, p4, p5⟩ := part_spec hp
  intro d
  induction d with
  | zero =>
    intro i hd hi
    obtain ⟨j, hj, h6, _⟩ := p4 i hi
    omega
  | succ d ih =>
    intro i hd hi hun t hT hr
    obtain ⟨_, ot, hot, hall⟩ := mem_ready.1 hr
    have htl : t < ops.size := (Array.getElem?_eq_some_iff.1 hot).1
    rcases p5 t htl hT with rfl | ⟨j, hj, h6, h7⟩
    · obtain ⟨j, hj, h6, h7, h8⟩ := p4 i hi
      obtain ⟨oj, hoj, e, he, hb, hon⟩ := Region.waitsFor_spec h7
      rcases h8 with rfl | h8
      · obtain rfl : oj = ot := Option.some.inj (hoj.symm.trans hot)
        have h9 := hall e he hb
        rw [hon, both_false hun] at h9
        cases h9
      · cases hl : listed.getD j false with
        | true =>
          have h9 := inv.closed j oj hoj hl e he hb
          rw [hon, both_false hun] at h9
          cases h9
        | false => exact ih j (by omega) h8 (in_false (by rw [inv.size]; exact hj) hl) t hT hr
    · obtain ⟨o', ho', e, he, hb, hon⟩ := Region.waitsFor_spec h7
      obtain rfl : o' = ot := Option.some.inj (ho'.symm.trans hot)
      have h9 := hall e he hb
      rw [hon, both_false (inv.tail j hj h6)] at h9
      cases h9
theorem ready_in {l0 : Array Bool} {ss : List Nat} {n i j : Nat} {listed : Array Bool} (hp : partB md ops l0 ss n = true) (inv : Inv md ops l0 ss listed) (hi : ss.contains i = true) (hun : listed.getD i true = false) (hj : j ∈ Region.ready md ops listed) : ss.contains j = true := by
  obtain ⟨hjun, oj, hoj, _⟩ := mem_ready.1 hj
  have hjl : j < ops.size := (Array.getElem?_eq_some_iff.1 hoj).1
  cases hc : ss.contains j with
  | true => rfl
  | false =>
    have h0 : l0.getD j true = false := by
      rcases Decidable.em (l0.getD j true = false) with h | h
      · exact h
      · have := inv.mono j (in_true (by rw [(part_spec hp).2.2.1]; exact hjl) h)
        rw [both_false hjun] at this; cases this
    have hT : Tail l0 ss j = true := by unfold Tail; rw [h0, hc]; rfl
    exact absurd hj (blocked hp inv _ i (Nat.le_refl _) hi hun j hT)

/-- f operations of ss in whatever order the edges allow, each only reading; then L. -/
def AnyL (P : Program) (md : Region.Mode) (ops : Array Oper) (w : World) (ss : List Nat) (L : Array Bool → Act → Prop) : Nat → Array Bool → Act → Prop
  | 0, listed, a => L listed a
  | f + 1, listed, a => Region.ready md ops listed ≠ [] ∧ ∀ i ∈ Region.ready md ops listed, ss.contains i = true ∧ stOp P ops w i (AnyL P md ops w ss L f (listed.setIfInBounds i true)) a

theorem any_of {ss : List Nat} {g : Nat} {L : Array Bool → Act → Prop} {Q' : Exit → Act → World → Prop} (hL : ∀ listed a, L listed a → wpAny P md ops Q' g listed a w) :
    ∀ (f : Nat) (listed : Array Bool) (a : Act), AnyL P md ops w ss L f listed a → wpAny P md ops Q' (f + g) listed a w
  | 0, listed, a, h => by rw [Nat.zero_add]; exact hL _ _ h
  | f + 1, listed, a, h => by
    rw [show f + 1 + g = (f + g) + 1 by omega]
    exact ⟨fun h0 => absurd h0 h.1, fun i hi => wpOp_of_stOp (fun a' h' => any_of hL f _ a' h') (h.2 i hi).2⟩

theorem first_of {l0 : Array Bool} {ss : List Nat} {n i : Nat} {oi : Oper} {v : Value} {L : Array Bool → Act → Prop} (hi : ops[i]? = some oi) (hsel : Region.noSelect ops = true)
    (hp : partB md ops l0 ss n = true) (hin : ss.contains i = true) (hdone : ∀ listed a, L listed a → ∀ j ∈ Region.ready md ops listed, j = n) :
    ∀ (f : Nat) (listed : Array Bool) (a : Act), Inv md ops l0 ss listed →
      (∀ j oj, ops[j]? = some oj → j ≠ i → listed.getD j true = false → (∀ e ∈ oj.after, Region.binds md e = true → e.on ≠ i) → oi.apart ops oj = true) →
      i ∈ Region.ready md ops listed → YieldsAt P ops w oi v a →
      AnyL P md ops w ss L f (listed.setIfInBounds i true) (a.put oi.dst v) → AnyL P md ops w ss L (f + 1) listed a := by
  intro f
  induction f with
  | zero =>
    intro listed a inv _ hr hy H
    refine ⟨List.ne_nil_of_mem hr, fun j hj => ?_⟩
    have hjs := ready_in hp inv hin (mem_ready.1 hr).1 hj
    by_cases e : j = i
    · subst e; exact ⟨hjs, hy.stOp hi H⟩
    · obtain rfl := hdone _ _ H j (ready_mono hj e)
      have hT := (part_spec hp).1
      unfold Tail at hT
      rw [hjs] at hT
      simp at hT
  | succ f ih =>
    intro listed a inv hfree hr hy H
    have hun := (mem_ready.1 hr).1
    refine ⟨List.ne_nil_of_mem hr, fun j hj => ?_⟩
    have hjs := ready_in hp inv hin hun hj
    by_cases e : j = i
    · subst e; exact ⟨hjs, hy.stOp hi H⟩
    refine ⟨hjs, ?_⟩
    obtain ⟨hjun, oj, hoj, hall⟩ := mem_ready.1 hj
    have hnot : ∀ e ∈ oj.after, Region.binds md e = true → e.on ≠ i := fun e he hb heq => by
      have h1 := hall e he hb
      rw [heq, both_false hun] at h1
      cases h1
    refine stOp_mono (fun a' h3 => ih (listed.setIfInBounds j true) a' (inv.set hj hjs) (fun k ok hk hki hk2 hno => hfree k ok hk hki ?_ hno) (ready_mono hr (Ne.symm e)) h3.1 (by rw [Array.setIfInBounds_comm _ _ e]; exact h3.2))
      (stOp_put hoj (hfree j oj hoj e hjun hnot) (fun cs b => Region.noSelect_spec hsel i oi cs b hi) (fun cs b => Region.noSelect_spec hsel j oj cs b hoj) hy (H.2 j (ready_mono hj e)).2)
    by_cases hjk : j = k
    · subst hjk; exact hjun
    · rwa [getD_set_ne true hjk] at hk2

/-- The operations of a list of places, in that order. -/
def pick (ops : Array Oper) : List Nat → List Oper
  | [] => []
  | i :: is => match ops[i]? with
    | some o => o :: pick ops is
    | none => pick ops is
/-- They may be taken in that order; what is listed then. pu: only pure ones. -/
def headB (md : Region.Mode) (ops : Array Oper) (pu : Bool) : List Nat → Array Bool → Option (Array Bool)
  | [], listed => some listed
  | i :: is, listed => if (Region.ready md ops listed).contains i && Region.free md ops listed i && (!pu || ((ops[i]?).map pureB).getD false) then headB md ops pu is (listed.setIfInBounds i true) else none

theorem head_step {pu : Bool} {i : Nat} {is : List Nat} {listed l' : Array Bool} (h : headB md ops pu (i :: is) listed = some l') :
    ∃ o, ops[i]? = some o ∧ pick ops (i :: is) = o :: pick ops is ∧ i ∈ Region.ready md ops listed ∧ Region.free md ops listed i = true ∧ (pu = true → pureB o = true) ∧ headB md ops pu is (listed.setIfInBounds i true) = some l' := by
  simp only [headB] at h
  split at h
  · rename_i hc
    simp only [Bool.and_eq_true] at hc
    obtain ⟨⟨h1, h2⟩, h3⟩ := hc
    have hr : i ∈ Region.ready md ops listed := by simpa using h1
    obtain ⟨_, o, ho, _⟩ := mem_ready.1 hr
    exact ⟨o, ho, by simp only [pick, ho], hr, h2, fun e => by subst e; rw [ho] at h3; simpa using h3, h⟩
  · cases h

theorem head_of {l0 : Array Bool} {ss : List Nat} {n : Nat} {l' : Array Bool} {Lq : Act → Prop} (hsel : Region.noSelect ops = true) (hp : partB md ops l0 ss n = true) (hd : Region.ready md ops l' = [n]) :
    ∀ (is : List Nat) (listed : Array Bool) (a : Act), (∀ i ∈ is, ss.contains i = true) → Inv md ops l0 ss listed →
    headB md ops false is listed = some l' → wpStill P ops w Lq (pick ops is) a →
    AnyL P md ops w ss (fun x a' => (x = l' ∧ Inv md ops l0 ss x) ∧ Lq a') is.length listed a
  | [], listed, a, _, inv, hB, h => ⟨⟨Option.some.inj hB, inv⟩, h⟩
  | i :: is, listed, a, hm, inv, hB, h => by
    obtain ⟨o, h0, hpk, hr, hf, _, hB'⟩ := head_step hB
    rw [hpk] at h
    have hst : stOp P ops w i (wpStill P ops w Lq (pick ops is)) a := by unfold stOp; simp only [h0]; exact h
    obtain ⟨v, hy, hK⟩ := yieldsAt_of_stOp h0 hst
    exact first_of h0 hsel hp (hm i (by simp)) (fun x a' hL j hj => by rw [hL.1.1, hd] at hj; simpa using hj) is.length listed a inv (Region.free_spec h0 hf) hr hy
      (head_of hsel hp hd is _ _ (fun j hj => hm j (by simp [hj])) (inv.set hr (hm i (by simp))) hB' hK)

/-! ### The plan -/
/-- The pure ones ahead. -/
theorem pure_any {Q : Exit → Act → World → Prop} (hsel : Region.noSelect ops = true) (hQ : ∀ c a d v w, Q (.panic c) (Act.put a d v) w → Q (.panic c) a w) {g : Nat} {l' : Array Bool} {Lq : Act → Prop} (hL : ∀ a, Lq a → wpAny P md ops Q g l' a w) :
    ∀ (ps : List Nat) (listed : Array Bool) (a : Act), headB md ops true ps listed = some l' → wpStill P ops w Lq (pick ops ps) a → wpAny P md ops Q (ps.length + g) listed a w
  | [], listed, a, hB, h => by
    obtain rfl : listed = l' := Option.some.inj hB
    simpa using hL a h
  | i :: ps, listed, a, hB, h => by
    obtain ⟨o, h0, hpk, hr, hf, hpu, hB'⟩ := head_step hB
    rw [hpk] at h
    have hst : stOp P ops w i (wpStill P ops w Lq (pick ops ps)) a := by unfold stOp; simp only [h0]; exact h
    obtain ⟨v, hy, hK⟩ := yieldsAt_of_stOp h0 hst
    rw [show (i :: ps).length + g = (ps.length + g) + 1 by simp; omega]
    exact wpAny_first h0 (Region.noSelect_spec hsel) (fun c a w h => hQ c a _ _ w h) _ listed a w (Region.free_spec h0 hf) hr (pure_yields (hpu rfl) hy)
      (pure_any hsel hQ hL ps _ _ hB' hK)

theorem still_append {L : Act → Prop} : ∀ (x y : List Oper) (a : Act), wpStill P ops w L (x ++ y) a → wpStill P ops w (fun a' => wpStill P ops w L y a') x a
  | [], y, a, h => h
  | o :: x, y, a, h => by
    have h : (if Region.wanted o (yielded ops a.tmps) then o.still P a w (wpStill P ops w L (x ++ y)) else wpStill P ops w L (x ++ y) (a.put o.dst undef)) := h
    show (if Region.wanted o (yielded ops a.tmps) then o.still P a w (wpStill P ops w (fun a' => wpStill P ops w L y a') x) else wpStill P ops w (fun a' => wpStill P ops w L y a') x (a.put o.dst undef))
    split
    · rename_i hw; rw [if_pos hw] at h; exact Oper.still_mono (fun a' h' => still_append x y a' h') h
    · rename_i hw; rw [if_neg hw] at h; exact still_append x y _ h
theorem pick_append (x y : List Nat) : pick ops (x ++ y) = pick ops x ++ pick ops y := by
  induction x with
  | nil => rfl
  | cons i x ih =>
    show pick ops (i :: (x ++ y)) = pick ops (i :: x) ++ pick ops y
    cases h : ops[i]? with
    | none => simp only [pick, h]; exact ih
    | some o => simp only [pick, h, List.cons_append]; rw [ih]

/-- Each part: the pure ones, those that only read, the mark. At the end: those that only read, in that order. -/
abbrev Plan := List (List Nat × List Nat × Nat)
def lastB (md : Region.Mode) (ops : Array Oper) : List Nat → Array Bool → Bool
  | [], listed => (Region.ready md ops listed).isEmpty
  | i :: is, listed => (Region.ready md ops listed).contains i && Region.free md ops listed i && lastB md ops is (listed.setIfInBounds i true)
def mixB (md : Region.Mode) (ops : Array Oper) (fin : List Nat) : Plan → Array Bool → Bool
  | [], listed => lastB md ops fin listed
  | (ps, ss, n) :: bs, listed =>
    match headB md ops true ps listed with
    | none => false
    | some l0 => partB md ops l0 ss n &&
      match headB md ops false ss l0 with
      | none => false
      | some l' => decide (Region.ready md ops l' = [n]) && mixB md ops fin bs (l'.setIfInBounds n true)
/-- The post, but 'False' at a panic. -/
def NoP (Q : Exit → Act → World → Prop) (e : Exit) (a : Act) (w : World) : Prop := match e with
  | .panic _ => False
  | e => Q e a w
theorem NoP.imp {Q : Exit → Act → World → Prop} (e : Exit) (a : Act) (w : World) (h : NoP Q e a w) : Q e a w := by
  cases e <;> first | exact h | exact (h : False).elim
/-- What is to be walked. -/
def Mix (P : Program) (ops : Array Oper) (Q : Exit → Act → World → Prop) (fin : List Nat) : Plan → Act → World → Prop
  | [], a, w => wpStill P ops w (fun a' => Q .normal a' w) (pick ops fin) a
  | (ps, ss, n) :: bs, a, w => wpStill P ops w (fun a' => wpList P ops (fun e x y => match e with | .normal => Mix P ops Q fin bs x y | e => Q e x y) (pick ops [n]) a' w) (pick ops (ps ++ ss)) a

theorem wp_to {o : Oper} {a : Act} {K K' : Act → World → Prop} {Q Q' : Exit → Act → World → Prop} (hK : ∀ a w, K a w → K' a w) (hQ : ∀ e a w, e ≠ .normal → Q e a w → Q' e a w) (h : o.wp P a w K Q) : o.wp P a w K' Q' := by
  unfold Oper.wp at *
  generalize (execOp a.eval o).run P w = r at *
  cases r with
  | ok n w' =>
    cases n <;> simp only [Oper.upon] at h ⊢ <;>
      first
        | exact hK _ _ h
        | (refine Calls.mono h (fun e w'' he => ?_)
           cases e with
           | returned v => exact hK _ _ he
           | panicked c => exact hQ _ _ _ (by simp) he
           | outgrown => obtain ⟨x, y, hh⟩ := he; exact ⟨x, y, hQ _ _ _ (by simp) hh⟩)
        | exact Rows.mono h (fun _ _ he => hK _ _ he)
  | halt x w' => cases x <;> simp only [Oper.upon] at h ⊢ <;> first | exact hQ _ _ _ (by simp) h | exact h

theorem last_any {Q : Act → Prop} (hsel : Region.noSelect ops = true) : ∀ (is : List Nat) (listed : Array Bool) (a : Act), lastB md ops is listed = true → wpStill P ops w Q (pick ops is) a → wpAnyS P md ops w Q is.length listed a
  | [], listed, a, hB, h => ⟨by simpa [lastB] using hB, h⟩
  | i :: is, listed, a, hB, h => by
    simp only [lastB, Bool.and_eq_true] at hB
    obtain ⟨⟨h1, hf⟩, hB'⟩ := hB
    have hr : i ∈ Region.ready md ops listed := by simpa using h1
    obtain ⟨_, o, h0, _⟩ := mem_ready.1 hr
    rw [show pick ops (i :: is) = o :: pick ops is by simp only [pick, h0]] at h
    have hst : stOp P ops w i (wpStill P ops w Q (pick ops is)) a := by unfold stOp; simp only [h0]; exact h
    obtain ⟨v, hy, hK⟩ := yieldsAt_of_stOp h0 hst
    exact wpAnyS_first h0 (Region.noSelect_spec hsel) is.length listed a (Region.free_spec h0 hf) hr hy (last_any hsel is _ _ hB' hK)

/-- How many operations a plan takes. -/
def Plan.count (fin : List Nat) : Plan → Nat
  | [] => fin.length
  | (ps, ss, _) :: bs => ps.length + (ss.length + (Plan.count fin bs + 1))

theorem head_closed {pu : Bool} : ∀ (is : List Nat) (listed l' : Array Bool), listed.size = ops.size → (∀ j oj, ops[j]? = some oj → listed.getD j false = true → ∀ e ∈ oj.after, Region.binds md e = true → listed.getD e.on false = true) → headB md ops pu is listed = some l' →
    l'.size = ops.size ∧ ∀ j oj, ops[j]? = some oj → l'.getD j false = true → ∀ e ∈ oj.after, Region.binds md e = true → l'.getD e.on false = true
  | [], listed, l', hs, hc, h => by obtain rfl : listed = l' := Option.some.inj h; exact ⟨hs, hc⟩
  | i :: is, listed, l', hs, hc, h => by
    obtain ⟨o, h0, _, hr, _, _, hB⟩ := head_step h
    obtain ⟨_, oi, hoi, hall⟩ := mem_ready.1 hr
    refine head_closed is (listed.setIfInBounds i true) l' (by simp [hs]) (fun j oj hj hl e he hb => ?_) hB
    by_cases e' : i = j
    · subst e'
      obtain rfl : oj = oi := Option.some.inj (hj.symm.trans hoi)
      exact getD_set_true (hall e he hb)
    · rw [getD_set_ne false e'] at hl
      exact getD_set_true (hc j oj hj hl e he hb)

theorem mix_any {Q : Exit → Act → World → Prop} {fin : List Nat} (hsel : Region.noSelect ops = true) (hQ : ∀ c a d v w, Q (.panic c) (Act.put a d v) w → Q (.panic c) a w) : ∀ (bs : Plan) (listed : Array Bool) (a : Act) (w : World), listed.size = ops.size →
    (∀ j oj, ops[j]? = some oj → listed.getD j false = true → ∀ e ∈ oj.after, Region.binds md e = true → listed.getD e.on false = true) →
    mixB md ops fin bs listed = true → Mix P ops Q fin bs a w → wpAny P md ops Q (Plan.count fin bs) listed a w
  | [], listed, a, w, hs, hc, hB, h => wpAny_of_still (Q := fun a' => Q .normal a' w) (fun _ h => h) _ _ _ (last_any hsel fin listed a hB h)
  | (ps, ss, n) :: bs, listed, a, w, hs, hc, hB, h => by
    simp only [mixB] at hB
    cases h1 : headB md ops true ps listed with
    | none => rw [h1] at hB; cases hB
    | some l0 =>
      rw [h1] at hB
      simp only [Bool.and_eq_true] at hB
      obtain ⟨hp, hB⟩ := hB
      cases h2 : headB md ops false ss l0 with
      | none => rw [h2] at hB; cases hB
      | some l' =>
        rw [h2] at hB
        simp only [Bool.and_eq_true, decide_eq_true_eq] at hB
        obtain ⟨hd, hB⟩ := hB
        obtain ⟨s0, c0⟩ := head_closed ps listed l0 hs hc h1
        have inv : Inv md ops l0 ss l0 := ⟨s0, c0, fun t ht hT => by
          unfold Tail at hT
          simp only [Bool.and_eq_true, Bool.not_eq_true'] at hT
          exact hT.1, fun t h => h⟩
        unfold Mix at h
        rw [pick_append] at h
        have h3 := still_append _ _ _ h
        show wpAny P md ops Q (ps.length + (ss.length + (Plan.count fin bs + 1))) listed a w
        refine pure_any hsel hQ (g := ss.length + (Plan.count fin bs + 1)) (fun a' h4 => ?_) ps listed a h1 h3
        have H := head_of (P := P) (w := w) hsel hp hd ss l0 a' (fun i hi => by simpa using hi) inv h2 h4
        refine any_of (Q' := Q) (g := Plan.count fin bs + 1) (fun x a2 hL => ?_) ss.length l0 a' H
        obtain ⟨⟨rfl, invx⟩, hq⟩ := hL
        have hn := (part_spec hp).2.1
        obtain ⟨on, hon⟩ : ∃ o, ops[n]? = some o := ⟨_, Array.getElem?_eq_getElem hn⟩
        rw [show pick ops [n] = [on] by simp only [pick, hon]] at hq
        refine ⟨fun h0 => (by rw [hd] at h0; cases h0), fun i hi => ?_⟩
        have hir := hi
        rw [hd] at hi
        obtain rfl : i = n := by simpa using hi
        have hstep : ∀ (a : Act) (w : World), Mix P ops Q fin bs a w → wpAny P md ops Q (Plan.count fin bs) (x.setIfInBounds i true) a w := fun a w hm => by
          refine mix_any hsel hQ bs _ a w (by simp [invx.size]) (fun j oj hj hl e he hb => ?_) hB hm
          obtain ⟨_, oi, hoi, hall⟩ := mem_ready.1 hir
          by_cases e' : i = j
          · subst e'
            obtain rfl : oj = oi := Option.some.inj (hj.symm.trans hoi)
            exact getD_set_true (hall e he hb)
          · rw [getD_set_ne false e'] at hl
            exact getD_set_true (invx.closed j oj hj hl e he hb)
        unfold wpOp
        simp only [hon]
        unfold wpList at hq
        split
        · rename_i hw
          rw [if_pos hw] at hq
          rcases hq with hq | ⟨hq1, x', y', hq2⟩
          · exact .inl (wp_to (fun a w hm => hstep a w hm) (fun e a w he hm => by cases e <;> first | exact absurd rfl he | exact hm) hq)
          · exact .inr ⟨hq1, x', y', hq2⟩
        · rename_i hw
          rw [if_neg hw] at hq
          exact hstep _ _ hq

/-- A region with a plan. -/
theorem wp_region_mix {id : Nat} {Q : Exit → Act → World → Prop} {a : Act} {w : World} {l : List Oper} (bs : Plan) (fin : List Nat) (hm : P.follows .mixedOrders = true)
    (hB : (Region.noSelect l.toArray && decide (Plan.count fin bs = l.toArray.size) && mixB .any l.toArray fin bs (Array.replicate l.toArray.size false)) = true)
    (h : Mix P l.toArray (NoP Q) fin bs a w.drew) : (Code.region id l.toArray true).wp P Q a w := by
  refine Code.wp_mono NoP.imp ?_
  simp only [Bool.and_eq_true, decide_eq_true_eq] at hB
  obtain ⟨⟨hsel, hcnt⟩, hB⟩ := hB
  refine wp_region_any hm ?_
  have := mix_any (md := .any) (Q := NoP Q) hsel (fun _ _ _ _ _ h => h) bs (Array.replicate l.toArray.size false) a w.drew (by simp) (fun j oj _ hl => (by rw [getD_replicate_false] at hl; cases hl)) hB h
  rw [hcnt] at this
  exact this

/-- The walk comes to a mark, and goes on behind it. -/
theorem Mix.mark {ops : Array Oper} {Q : Exit → Act → World → Prop} {ps ss : List Nat} {n : Nat} {bs : Plan} {fin : List Nat} {a : Act} {w : World} (x y : List Oper) (hx : pick ops (ps ++ ss) = x) (hy : pick ops [n] = y)
    (h : wpStill P ops w (fun a' => wpList P ops (fun e x y => match e with | .normal => Mix P ops Q fin bs x y | e => Q e x y) y a' w) x a) : Mix P ops Q fin ((ps, ss, n) :: bs) a w := by
  subst hx hy; exact h
theorem Mix.last {ops : Array Oper} {Q : Exit → Act → World → Prop} {fin : List Nat} {a : Act} {w : World} (x : List Oper) (hx : pick ops fin = x)
    (h : wpStill P ops w (fun a' => Q .normal a' w) x a) : Mix P ops (NoP Q) fin [] a w := by
  subst hx; exact h
end
end Go.Proofs.Ytgfhnakjdcpfmaa

/-
  Sizes, plainly: rows, and the spans of those that are known.
-/
import Derived.Test.YtngbaiijdgmpoaaSpaF
import Derived.Test.YtngbaiijdgmpoaaRopN
namespace Go.Proofs.Ytngbaiijdgmpoaa
open Go.RowKit
set_option linter.unusedVariables false
set_option linter.unusedSimpArgs false

abbrev Rws := List (Int × Bool)
/-- The sizes of rows. -/
def szs (R : Rws) : List Int := R.map (·.1)
theorem szs_len (R : Rws) : (szs R).length = R.length := List.length_map _
theorem szs_app (A B : Rws) : szs (A ++ B) = szs A ++ szs B := List.map_append
theorem szs_take (R : Rws) (k : Nat) : szs (R.take k) = (szs R).take k := List.map_take
theorem szs_drop (R : Rws) (k : Nat) : szs (R.drop k) = (szs R).drop k := List.map_drop
theorem szs_cons (x : Int × Bool) (R : Rws) : szs (x :: R) = x.1 :: szs R := rfl
/-- Is a row known? -/
def kn (R : Rws) (k : Nat) : Bool := (R.getD k (0, false)).2
theorem kn_out {R : Rws} {k : Nat} (h : R.length ≤ k) : kn R k = false := by
  unfold kn; rw [List.getD_eq_getElem?_getD, List.getElem?_eq_none h]; rfl
theorem kn_get {R : Rws} {k : Nat} (h : k < R.length) : kn R k = R[k].2 := by
  unfold kn; rw [List.getD_eq_getElem?_getD, List.getElem?_eq_getElem h]; rfl
theorem kn_lt {R : Rws} {k : Nat} (h : kn R k = true) : k < R.length := by
  apply Classical.byContradiction; intro c
  rw [kn_out (by omega)] at h; exact absurd h (by decide)
theorem kn_app (A B : Rws) (k : Nat) : kn (A ++ B) k = if k < A.length then kn A k else kn B (k - A.length) := by
  unfold kn
  rw [List.getD_eq_getElem?_getD, List.getD_eq_getElem?_getD, List.getD_eq_getElem?_getD]
  by_cases c : k < A.length
  · rw [if_pos c, List.getElem?_append_left c]
  · rw [if_neg c, List.getElem?_append_right (by omega)]
theorem kn_cons (x : Int × Bool) (B : Rws) (k : Nat) : kn (x :: B) k = if k = 0 then x.2 else kn B (k - 1) := by
  cases k with
  | zero => rfl
  | succ k => rw [if_neg (by omega)]; rfl
theorem kn_take (R : Rws) (n k : Nat) : kn (R.take n) k = if k < n then kn R k else false := by
  unfold kn
  rw [List.getD_eq_getElem?_getD, List.getD_eq_getElem?_getD, List.getElem?_take]
  by_cases c : k < n
  · rw [if_pos c, if_pos c]
  · rw [if_neg c, if_neg c]; rfl
theorem kn_drop (R : Rws) (n k : Nat) : kn (R.drop n) k = kn R (n + k) := by
  unfold kn
  rw [List.getD_eq_getElem?_getD, List.getD_eq_getElem?_getD, List.getElem?_drop]
theorem kn_all (S : List Int) (b : Bool) (k : Nat) : kn (S.map (·, b)) k = if k < S.length then b else false := by
  by_cases c : k < S.length
  · rw [if_pos c, kn_get (by rw [List.length_map]; exact c), List.getElem_map]
  · rw [if_neg c, kn_out (by rw [List.length_map]; omega)]
theorem szs_all (S : List Int) (b : Bool) : szs (S.map (·, b)) = S := by
  unfold szs; rw [List.map_map]; exact List.map_id _
theorem rws_ext {A B : Rws} (h1 : szs A = szs B) (h2 : ∀ k, kn A k = kn B k) : A = B := by
  have hl : A.length = B.length := by have := congrArg List.length h1; rwa [szs_len, szs_len] at this
  apply List.ext_getElem hl
  intro i i1 i2
  have e1 : (szs A)[i]'(by rw [szs_len]; exact i1) = (szs B)[i]'(by rw [szs_len]; exact i2) := by simp only [h1]
  have e2 := h2 i
  rw [kn_get i1, kn_get i2] at e2
  unfold szs at e1
  rw [List.getElem_map, List.getElem_map] at e1
  exact Prod.ext e1 e2

/-- Spans are in order and are those of the known ones. -/
structure KnS (S : Sp) (p : Nat → Bool) : Prop where
  nf : NF S
  me : ∀ j : Nat, memS S j ↔ p j = true
theorem KnS.congr {S : Sp} {p q : Nat → Bool} (h : KnS S p) (e : ∀ j, p j = q j) : KnS S q := ⟨h.nf, fun j => by rw [h.me, e]⟩
theorem KnS.nil : KnS [] (fun _ => false) := ⟨trivial, fun j => ⟨fun h => absurd h (memS_nil _), fun h => by cases h⟩⟩
theorem end_mem : ∀ {S : Sp} {lo : Int}, NFfrom lo S → S ≠ [] → memS S (endS lo S - 1) := by
  intro S
  induction S with
  | nil => intro lo h hn; exact absurd rfl hn
  | cons s r ih =>
    intro lo h _
    obtain ⟨h1, h2, h3, h4⟩ := h
    by_cases c : r = []
    · subst c
      refine (memS_cons _ _ _).2 (.inl ?_)
      show s.1 ≤ s.2 - 1 ∧ s.2 - 1 < s.2
      omega
    · exact (memS_cons _ _ _).2 (.inr (ih h4 c))
theorem KnS.end_le {S : Sp} {p : Nat → Bool} (h : KnS S p) {n : Nat} (hn : ∀ j, p j = true → j < n) : endS (-1) S ≤ n := by
  by_cases c : S = []
  · subst c
    show (-1 : Int) ≤ n
    omega
  · have hm := end_mem h.nf c
    have hg := (NFfrom.mem_gt h.nf hm).1
    obtain ⟨k, hk⟩ : ∃ k : Nat, endS (-1) S - 1 = (k : Int) := ⟨(endS (-1) S - 1).toNat, by omega⟩
    rw [hk] at hm
    have := hn k ((h.me k).1 hm)
    omega
theorem KnS.len {S : Sp} {p : Nat → Bool} (h : KnS S p) {n : Nat} (hn : ∀ j, p j = true → j < n) : 2 * S.length ≤ n + 1 := by
  have h1 := h.end_le hn
  have h2 := NFfrom.le_end h.nf
  omega
theorem KnS.chk {S : Sp} {p : Nat → Bool} (h : KnS S p) {n : Nat} (hn : ∀ j, p j = true → j < n) (h8 : n ≤ 8000) : chkS S = 0 :=
  chkS_zero.2 ⟨h.nf, by have := h.len hn; omega⟩
theorem KnS.has {S : Sp} {p : Nat → Bool} (h : KnS S p) {n : Nat} (hn : ∀ j, p j = true → j < n) (h8 : n ≤ 8000) (j : Nat) : hasS S j = p j := by
  unfold hasS
  rw [h.chk hn h8]
  have e : anyS S j = p j := by
    have h1 := (anyS_iff S j).trans (h.me j)
    cases e1 : anyS S j <;> cases e2 : p j <;> simp_all
  rw [e]; simp
theorem KnS.any {S : Sp} {p : Nat → Bool} (h : KnS S p) (j : Nat) : anyS S j = p j := by
  have h1 := (anyS_iff S j).trans (h.me j)
  cases e1 : anyS S j <;> cases e2 : p j <;> simp_all
/-- One span. -/
def markF (p : Nat → Bool) (f t : Nat) (b : Bool) : Nat → Bool := fun j => if f ≤ j ∧ j < t then b else p j
theorem one_nf {f t : Nat} (h : f < t) (ht : t ≤ 8000) : NF [((f : Int), (t : Int))] := ⟨by show (-1 : Int) < f; omega, by show (f : Int) < t; omega, by show (t : Int) ≤ 1073741824; omega, trivial⟩
theorem one_chk {f t : Nat} (h : f < t) (ht : t ≤ 8000) : chkS [((f : Int), (t : Int))] = 0 := chkS_zero.2 ⟨one_nf h ht, by show 1 ≤ 4096; decide⟩
theorem one_any (f t j : Nat) : anyS [((f : Int), (t : Int))] j = decide (f ≤ j ∧ j < t) := by
  rw [anyS_cons, anyS_nil]
  by_cases c1 : f ≤ j <;> by_cases c2 : j < t <;> simp [c1, c2]
theorem union_kn {S R : Sp} {p : Nat → Bool} (h : KnS S p) {f t : Nat} (m : Merged (fun a b => a || b) S [((f : Int), (t : Int))] R) : KnS R (markF p f t true) :=
  ⟨m.nf, fun j => by
    rw [m.me, h.any, one_any]
    unfold markF
    by_cases c : f ≤ j ∧ j < t <;> simp [c]⟩
theorem without_kn {S R : Sp} {p : Nat → Bool} (h : KnS S p) {f t : Nat} (m : Merged (fun a b => a && !b) S [((f : Int), (t : Int))] R) : KnS R (markF p f t false) :=
  ⟨m.nf, fun j => by
    rw [m.me, h.any, one_any]
    unfold markF
    by_cases c : f ≤ j ∧ j < t <;> simp [c]⟩
def insF (p : Nat → Bool) (a n : Nat) : Nat → Bool := fun j => if j < a then p j else if j < a + n then false else p (j - n)
def remF (p : Nat → Bool) (a n : Nat) : Nat → Bool := fun j => if j < a then p j else p (j + n)
theorem ins_kn {S R : Sp} {p : Nat → Bool} (h : KnS S p) {a n : Nat} (m : InsTo S a n S.length R) : KnS R (insF p a n) :=
  ⟨m.nf, fun j => by
    rw [m.me, List.take_length, h.me]
    unfold insF
    by_cases c1 : j < a
    · rw [if_pos c1]
      constructor
      · rintro (⟨_, h2⟩ | ⟨h1, _⟩)
        · exact h2
        · omega
      · exact fun h2 => .inl ⟨by omega, h2⟩
    · rw [if_neg c1]
      by_cases c2 : j < a + n
      · rw [if_pos c2]
        constructor
        · rintro (⟨h1, _⟩ | ⟨h1, _⟩) <;> omega
        · intro h; cases h
      · rw [if_neg c2]
        have e : (j : Int) - (n : Int) = ((j - n : Nat) : Int) := by omega
        rw [e, h.me]
        constructor
        · rintro (⟨h1, _⟩ | ⟨_, h2⟩)
          · omega
          · exact h2
        · exact fun h2 => .inr ⟨by omega, h2⟩⟩
theorem rem_kn {S R : Sp} {p : Nat → Bool} (h : KnS S p) {a n : Nat} (m : RemTo S a n S.length R) : KnS R (remF p a n) :=
  ⟨m.nf, fun j => by
    rw [m.me, List.take_length, h.me, show (j : Int) + (n : Int) = ((j + n : Nat) : Int) from by omega, h.me]
    unfold remF
    by_cases c1 : j < a
    · rw [if_pos c1]
      constructor
      · rintro (⟨_, h2⟩ | ⟨h1, _⟩)
        · exact h2
        · omega
      · exact fun h2 => .inl ⟨by omega, h2⟩
    · rw [if_neg c1]
      constructor
      · rintro (⟨h1, _⟩ | ⟨_, h2⟩)
        · omega
        · exact h2
      · exact fun h2 => .inr ⟨by omega, h2⟩⟩
theorem rngS_ok {S : Sp} {p : Nat → Bool} (h : KnS S p) {m : Nat} (hm : ∀ j, p j = true → j < m) (h8 : m ≤ 8000) {a n : Nat} (ha : a ≤ 8000) (hn : n ≤ 8000) : rngS S a n = 0 := by
  unfold rngS
  rw [if_neg (by rw [h.chk hm h8]; simp), if_neg (by omega)]
theorem dE_ok {R : Sp} (h : R.length ≤ 4096) : dE R = 0 ∧ dS R = R := ⟨if_neg (by omega), if_neg (by omega)⟩

/-! Rows that were changed. -/
def setR (R : Rws) (k : Nat) (v : Int) (b : Bool) : Rws := R.take k ++ (v, b) :: R.drop (k + 1)
def insR (R : Rws) (k : Nat) (S : List Int) (b : Bool) : Rws := (R.take k ++ S.map (·, b)) ++ R.drop k
def remR (R : Rws) (k m : Nat) : Rws := R.take k ++ R.drop (k + m)
def movR (R : Rws) (k m t : Nat) : Rws := ((remR R k m).take t ++ (R.drop k).take m) ++ (remR R k m).drop t
theorem szs_setR (R : Rws) (k : Nat) (v : Int) (b : Bool) : szs (setR R k v b) = rsetL (szs R) k v := by
  unfold setR rsetL; rw [szs_app, szs_cons, szs_take, szs_drop]
theorem szs_insR (R : Rws) (k : Nat) (S : List Int) (b : Bool) : szs (insR R k S b) = insL (szs R) k S := by
  unfold insR insL; rw [szs_app, szs_app, szs_all, szs_take, szs_drop]
theorem szs_remR (R : Rws) (k m : Nat) : szs (remR R k m) = remL (szs R) k m := by
  unfold remR remL; rw [szs_app, szs_take, szs_drop, List.drop_drop]
theorem szs_movR (R : Rws) (k m t : Nat) : szs (movR R k m t) = movL (szs R) k m t := by
  unfold movR movL; rw [szs_app, szs_app, szs_take, szs_drop, szs_take, szs_drop, szs_remR]
theorem kn_setR (R : Rws) {k : Nat} (h : k < R.length) (v : Int) (b : Bool) (j : Nat) : kn (setR R k v b) j = markF (kn R) k (k + 1) b j := by
  unfold setR markF
  rw [kn_app, kn_cons, List.length_take, Nat.min_eq_left (by omega), kn_take, kn_drop]
  by_cases c1 : j < k
  · rw [if_pos c1, if_pos c1, if_neg (by omega)]
  · rw [if_neg c1]
    by_cases c2 : j = k
    · rw [if_pos (by omega), if_pos (by omega)]
    · rw [if_neg (by omega), if_neg (by omega), show k + 1 + (j - k - 1) = j from by omega]
theorem kn_insR (R : Rws) {k : Nat} (h : k ≤ R.length) (S : List Int) (b : Bool) (j : Nat) : kn (insR R k S b) j = markF (insF (kn R) k S.length) k (k + S.length) b j := by
  unfold insR markF insF
  rw [kn_app, kn_app, kn_all, List.length_append, List.length_take, List.length_map, Nat.min_eq_left (by omega), kn_take, kn_drop]
  by_cases c1 : j < k
  · rw [if_pos (by omega), if_pos c1, if_pos c1, if_neg (by omega), if_pos c1]
  · by_cases c2 : j < k + S.length
    · rw [if_pos c2, if_neg c1, if_pos (by omega), if_pos (by omega)]
    · rw [if_neg c2, if_neg (by omega), if_neg c1, if_neg c2, show k + (j - (k + S.length)) = j - S.length from by omega]
theorem kn_remR (R : Rws) {k m : Nat} (h : k + m ≤ R.length) (j : Nat) : kn (remR R k m) j = remF (kn R) k m j := by
  unfold remR remF
  rw [kn_app, kn_take, kn_drop, List.length_take, Nat.min_eq_left (by omega)]
  by_cases c1 : j < k
  · rw [if_pos c1, if_pos c1, if_pos c1]
  · rw [if_neg c1, if_neg c1, show k + m + (j - k) = j + m from by omega]
theorem len_remR (R : Rws) {k m : Nat} (h : k + m ≤ R.length) : (remR R k m).length = R.length - m := by
  unfold remR; rw [List.length_append, List.length_take, List.length_drop]; omega
theorem kn_movR (R : Rws) {k m t : Nat} (h : k + m ≤ R.length) (ht : t ≤ R.length - m) (j : Nat) :
    kn (movR R k m t) j = (insF (remF (kn R) k m) t m j || (decide (t ≤ j ∧ j < t + m) && kn R (k + (j - t)))) := by
  have hl := len_remR R h
  unfold movR insF
  rw [kn_app, kn_app, List.length_append, List.length_take, List.length_take, List.length_drop, hl, Nat.min_eq_left (by omega), Nat.min_eq_left (by omega), kn_take, kn_take, kn_drop, kn_drop, kn_remR R h, kn_remR R h]
  by_cases c1 : j < t
  · rw [if_pos (by omega), if_pos c1, if_pos c1, if_pos c1]
    rw [decide_eq_false (by omega)]; simp
  · by_cases c2 : j < t + m
    · rw [if_pos (by omega), if_neg c1, if_neg c1, if_pos c2, if_pos (by omega), decide_eq_true (by omega)]; simp
    · rw [if_neg (by omega), if_neg c1, if_neg c2, decide_eq_false (by omega), show t + (j - (t + m)) = j - m from by omega]; simp
end Go.Proofs.Ytngbaiijdgmpoaa

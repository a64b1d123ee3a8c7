/-
  Spans, plain: how many places; how many spans; the moves.
-/
import Derived.Test.YtglgkbocmnkokaaSpaI
namespace Go.Proofs.Ytglgkbocmnkokaa
open Go.RowKit
set_option linter.unusedVariables false
set_option linter.unusedSimpArgs false

/-- How many of m places from lo on. -/
def cI (f : Int → Bool) (lo : Int) : Nat → Int
  | 0 => 0
  | m + 1 => cI f lo m + (if f (lo + m) then 1 else 0)
theorem cI_congr {f g : Int → Bool} {lo : Int} {m : Nat} (h : ∀ i, lo ≤ i → i < lo + m → f i = g i) : cI f lo m = cI g lo m := by
  induction m with
  | zero => rfl
  | succ m ih =>
    show cI f lo m + (if f (lo + m) then (1 : Int) else 0) = cI g lo m + (if g (lo + m) then (1 : Int) else 0)
    rw [ih fun i h1 h2 => h i h1 (by push_cast; omega), h (lo + m) (by omega) (by push_cast; omega)]
theorem cI_zero {f : Int → Bool} {lo : Int} {m : Nat} (h : ∀ i, lo ≤ i → i < lo + m → f i = false) : cI f lo m = 0 := by
  induction m with
  | zero => rfl
  | succ m ih =>
    show cI f lo m + (if f (lo + m) then (1 : Int) else 0) = 0
    rw [ih fun i h1 h2 => h i h1 (by push_cast; omega), h (lo + m) (by omega) (by push_cast; omega)]
    rfl
theorem cI_add (f : Int → Bool) (lo : Int) (m k : Nat) : cI f lo (m + k) = cI f lo m + cI f (lo + m) k := by
  induction k with
  | zero => show cI f lo m = cI f lo m + 0; omega
  | succ k ih =>
    show cI f lo (m + k) + (if f (lo + (m + k : Nat)) then (1 : Int) else 0) = cI f lo m + (cI f (lo + m) k + (if f (lo + m + k) then (1 : Int) else 0))
    rw [ih, show lo + ((m + k : Nat) : Int) = lo + m + k from by push_cast; omega]
    omega
theorem cI_shift {f g : Int → Bool} {lo lo' : Int} {m : Nat} (h : ∀ j : Nat, j < m → f (lo + j) = g (lo' + j)) : cI f lo m = cI g lo' m := by
  induction m with
  | zero => rfl
  | succ m ih =>
    show cI f lo m + (if f (lo + m) then (1 : Int) else 0) = cI g lo' m + (if g (lo' + m) then (1 : Int) else 0)
    rw [ih fun j hj => h j (by omega), h m (by omega)]
theorem cI_or (f g : Int → Bool) (lo : Int) (m : Nat) : cI (fun i => f i || g i) lo m + cI (fun i => f i && g i) lo m = cI f lo m + cI g lo m := by
  induction m with
  | zero => rfl
  | succ m ih =>
    show cI (fun i => f i || g i) lo m + (if (f (lo + m) || g (lo + m)) = true then (1 : Int) else 0) + (cI (fun i => f i && g i) lo m + (if (f (lo + m) && g (lo + m)) = true then (1 : Int) else 0)) = cI f lo m + (if f (lo + m) then (1 : Int) else 0) + (cI g lo m + (if g (lo + m) then (1 : Int) else 0))
    cases f (lo + m) <;> cases g (lo + m) <;> simp <;> omega
theorem cI_le (f : Int → Bool) (lo : Int) (m : Nat) : 0 ≤ cI f lo m ∧ cI f lo m ≤ m := by
  induction m with
  | zero => exact ⟨Int.le_refl _, Int.le_refl _⟩
  | succ m ih =>
    show 0 ≤ cI f lo m + (if f (lo + m) then (1 : Int) else 0) ∧ cI f lo m + (if f (lo + m) then (1 : Int) else 0) ≤ ((m + 1 : Nat) : Int)
    push_cast
    split <;> omega
theorem cI_seg (x y lo : Int) (m : Nat) (h : x ≤ y) : cI (fun i => decide (x ≤ i) && decide (i < y)) lo m = max 0 (min y (lo + m) - max x lo) := by
  induction m with
  | zero => show (0 : Int) = max 0 (min y (lo + (0 : Nat)) - max x lo); omega
  | succ m ih =>
    show cI (fun i => decide (x ≤ i) && decide (i < y)) lo m + (if (decide (x ≤ lo + m) && decide (lo + m < y)) = true then (1 : Int) else 0) = _
    rw [ih]
    push_cast
    by_cases c1 : x ≤ lo + m
    · by_cases c2 : lo + m < y
      · rw [decide_eq_true c1, decide_eq_true c2, if_pos (by decide)]; omega
      · rw [decide_eq_true c1, decide_eq_false c2, if_neg (by decide)]; omega
    · rw [decide_eq_false c1, if_neg (by simp)]; omega
/-- How many places of some that a set has. -/
def goneS (a n : Int) : Sp → Int
  | [] => 0
  | s :: r => max 0 (min s.2 (a + n) - max s.1 a) + goneS a n r
theorem NFfrom.cI {lo : Int} {L : Sp} (h : NFfrom lo L) (a : Int) (n : Nat) : goneS a n L = Go.Proofs.Ytglgkbocmnkokaa.cI (anyS L) a n := by
  induction L generalizing lo with
  | nil => exact (cI_zero fun _ _ _ => rfl).symm
  | cons s r ih =>
    obtain ⟨h1, h2, h3, h4⟩ := h
    have e := cI_or (fun i => decide (s.1 ≤ i) && decide (i < s.2)) (anyS r) a n
    have z : Go.Proofs.Ytglgkbocmnkokaa.cI (fun i => (decide (s.1 ≤ i) && decide (i < s.2)) && anyS r i) a n = 0 := cI_zero fun i _ _ => by
      by_cases c : i < s.2
      · have : anyS r i = false := by
          rw [← Bool.not_eq_true, anyS_iff]
          intro q
          have := h4.mem_gt q
          omega
        rw [this, Bool.and_false]
      · rw [decide_eq_false c, Bool.and_false, Bool.false_and]
    rw [z, cI_seg _ _ _ _ (by omega)] at e
    show max 0 (min s.2 (a + n) - max s.1 a) + goneS a n r = Go.Proofs.Ytglgkbocmnkokaa.cI (fun i => (decide (s.1 ≤ i) && decide (i < s.2)) || anyS r i) a n
    rw [ih h4]
    omega
theorem NFfrom.cnt_gone {lo : Int} {L : Sp} (h : NFfrom lo L) (hl : -1 ≤ lo) {m : Int} (hm : 1073741824 ≤ m) : cntS L = goneS 0 m L := by
  induction L generalizing lo with
  | nil => rfl
  | cons s r ih =>
    obtain ⟨h1, h2, h3, h4⟩ := h
    show s.2 - s.1 + cntS r = max 0 (min s.2 (0 + m) - max s.1 0) + goneS 0 m r
    rw [ih h4 (by omega)]
    omega
theorem NF.cnt {L : Sp} (h : NF L) {m : Nat} (hm : 1073741824 ≤ m) : cntS L = cI (anyS L) 0 m := by
  rw [NFfrom.cnt_gone h (by omega) (m := m) (by omega)]
  exact NFfrom.cI h 0 m
theorem anyS_eq {L M : Sp} {i j : Int} (h : memS L i ↔ memS M j) : anyS L i = anyS M j := by
  rw [Bool.eq_iff_iff, anyS_iff, anyS_iff]; exact h
theorem anyS_no {L : Sp} {i : Int} (h : ¬ memS L i) : anyS L i = false := by
  rw [← Bool.not_eq_true, anyS_iff]; exact h
/-- An insertion leaves the number. -/
theorem ins_cnt {L R : Sp} {a n : Nat} (hL : NF L) (hR : NF R) (ha : a ≤ 1073741824) (hm : ∀ i, memS R i ↔ (i < (a : Int) ∧ memS L i) ∨ ((a : Int) + n ≤ i ∧ memS L (i - n))) : cntS R = cntS L := by
  rw [NF.cnt hR (m := a + (n + (1073741824 - a))) (by omega), NF.cnt hL (m := a + (1073741824 - a)) (by omega), cI_add, cI_add, cI_add]
  have e1 : cI (anyS R) 0 a = cI (anyS L) 0 a := cI_congr fun i h1 h2 => anyS_eq (by
    rw [hm]
    constructor
    · rintro (⟨_, h⟩ | ⟨h, _⟩)
      · exact h
      · omega
    · intro h; exact .inl ⟨by omega, h⟩)
  have e2 : cI (anyS R) (0 + a) n = 0 := cI_zero fun i h1 h2 => anyS_no (by
    rw [hm]
    rintro (⟨h, _⟩ | ⟨h, _⟩) <;> omega)
  have e3 : cI (anyS R) (0 + a + n) (1073741824 - a) = cI (anyS L) (0 + a) (1073741824 - a) := cI_shift fun j hj => anyS_eq (by
    rw [hm, show (0 : Int) + a + n + j - n = 0 + a + j from by omega]
    constructor
    · rintro (⟨h, _⟩ | ⟨_, h⟩)
      · omega
      · exact h
    · intro h; exact .inr ⟨by omega, h⟩)
  rw [e1, e2, e3]
  omega
/-- A removal takes away what was there. -/
theorem rem_cnt {L R : Sp} {a n : Nat} (hL : NF L) (hR : NF R) (ha : a ≤ 1073741824) (hm : ∀ i, memS R i ↔ (i < (a : Int) ∧ memS L i) ∨ ((a : Int) ≤ i ∧ memS L (i + n))) : cntS R = cntS L - goneS a n L := by
  rw [NF.cnt hR (m := a + (1073741824 - a)) (by omega), NF.cnt hL (m := a + (n + (1073741824 - a))) (by omega), NFfrom.cI hL, cI_add, cI_add, cI_add]
  have e1 : cI (anyS R) 0 a = cI (anyS L) 0 a := cI_congr fun i h1 h2 => anyS_eq (by
    rw [hm]
    constructor
    · rintro (⟨_, h⟩ | ⟨h, _⟩)
      · exact h
      · omega
    · intro h; exact .inl ⟨by omega, h⟩)
  have e3 : cI (anyS R) (0 + a) (1073741824 - a) = cI (anyS L) (0 + a + n) (1073741824 - a) := cI_shift fun j hj => anyS_eq (by
    rw [hm, show (0 : Int) + a + j + n = 0 + a + n + j from by omega]
    constructor
    · rintro (⟨h, _⟩ | ⟨_, h⟩)
      · omega
      · exact h
    · intro h; exact .inr ⟨by omega, h⟩)
  rw [e1, e3, Int.zero_add]
  omega

/-! ### How many spans -/
theorem nodup_le : ∀ (A K : List Int), A.Nodup → (∀ x ∈ A, x ∈ K) → A.length ≤ K.length
  | [], K, _, _ => Nat.zero_le _
  | a :: r, K, hn, hs => by
    have ha := hs a List.mem_cons_self
    have hn' := List.nodup_cons.1 hn
    have := nodup_le r (K.erase a) hn'.2 fun x hx => (List.mem_erase_of_ne (by rintro rfl; exact hn'.1 hx)).2 (hs x (List.mem_cons_of_mem _ hx))
    rw [List.length_erase_of_mem ha] at this
    have : 0 < K.length := List.length_pos_of_mem ha
    rw [List.length_cons]
    omega
theorem NFfrom.nodup {lo : Int} {L : Sp} (h : NFfrom lo L) : (L.map (·.1)).Nodup := by
  induction L generalizing lo with
  | nil => exact List.nodup_nil
  | cons s r ih =>
    obtain ⟨h1, h2, h3, h4⟩ := h
    refine List.nodup_cons.2 ⟨fun hx => ?_, ih h4⟩
    obtain ⟨t, ht, e⟩ := List.mem_map.1 hx
    have := (h4.mem t ht).1
    have e : t.1 = s.1 := e
    omega
/-- A span begins where the place before is not in. -/
theorem NFfrom.starts {lo : Int} {L : Sp} (h : NFfrom lo L) : ∀ s ∈ L, memS L s.1 ∧ ¬ memS L (s.1 - 1) := by
  induction L generalizing lo with
  | nil => intro s hs; cases hs
  | cons x r ih =>
    obtain ⟨h1, h2, h3, h4⟩ := h
    intro s hs
    rcases List.mem_cons.1 hs with rfl | hs
    · refine ⟨(memS_cons _ _ _).2 (.inl ⟨Int.le_refl _, h2⟩), fun q => ?_⟩
      rcases (memS_cons _ _ _).1 q with ⟨q1, q2⟩ | q
      · omega
      · have := h4.mem_gt q; omega
    · obtain ⟨q1, q2⟩ := ih h4 s hs
      refine ⟨(memS_cons _ _ _).2 (.inr q1), fun q => ?_⟩
      rcases (memS_cons _ _ _).1 q with ⟨q3, q4⟩ | q
      · have := h4.mem s hs; omega
      · exact q2 q
theorem start_mem {L : Sp} {i : Int} (h : memS L i) (h' : ¬ memS L (i - 1)) : i ∈ L.map (·.1) := by
  obtain ⟨s, hs, h1, h2⟩ := h
  refine List.mem_map.2 ⟨s, hs, ?_⟩
  by_cases c : s.1 = i
  · exact c
  · exact absurd ⟨s, hs, by omega, by omega⟩ h'
theorem stop_mem {L : Sp} {i : Int} (h : ¬ memS L i) (h' : memS L (i - 1)) : i ∈ L.map (·.2) := by
  obtain ⟨s, hs, h1, h2⟩ := h'
  refine List.mem_map.2 ⟨s, hs, ?_⟩
  by_cases c : s.2 = i
  · exact c
  · exact absurd ⟨s, hs, by omega, by omega⟩ h
theorem NFfrom.len_le {lo : Int} {R : Sp} (h : NFfrom lo R) {K : List Int} (hk : ∀ i, memS R i → ¬ memS R (i - 1) → i ∈ K) : R.length ≤ K.length := by
  have := nodup_le (R.map (·.1)) K h.nodup fun x hx => by
    obtain ⟨s, hs, rfl⟩ := List.mem_map.1 hx
    exact hk _ (h.starts s hs).1 (h.starts s hs).2
  rwa [List.length_map] at this
theorem edge_mem {L : Sp} {i : Int} (h : anyS L i ≠ anyS L (i - 1)) : i ∈ L.map (·.1) ++ L.map (·.2) := by
  by_cases c : anyS L i = true
  · refine List.mem_append_left _ (start_mem ((anyS_iff _ _).1 c) fun q => h ?_)
    rw [c, (anyS_iff _ _).2 q]
  · refine List.mem_append_right _ (stop_mem (fun q => c ((anyS_iff _ _).2 q)) ?_)
    rw [← anyS_iff]
    cases e : anyS L (i - 1)
    · exact absurd (by rw [e]; simpa using c) h
    · rfl
theorem Merged.len {kp : Bool → Bool → Bool} {L M R : Sp} (h : Merged kp L M R) : R.length ≤ 2 * L.length + 2 * M.length := by
  have := NFfrom.len_le h.nf (K := (L.map (·.1) ++ L.map (·.2)) ++ (M.map (·.1) ++ M.map (·.2))) fun i h1 h2 => by
    rw [h.me] at h1 h2
    by_cases c : anyS L i = anyS L (i - 1)
    · by_cases d : anyS M i = anyS M (i - 1)
      · rw [c, d] at h1; exact absurd h1 h2
      · exact List.mem_append_right _ (edge_mem d)
    · exact List.mem_append_left _ (edge_mem c)
  simp only [List.length_append, List.length_map] at this
  omega
theorem ins_len {L R : Sp} {a n : Int} (hR : NF R) (hn : 0 ≤ n) (hm : ∀ i, memS R i ↔ (i < a ∧ memS L i) ∨ (a + n ≤ i ∧ memS L (i - n))) : R.length ≤ 2 * L.length + 1 := by
  have := NFfrom.len_le hR (K := (a + n) :: (L.map (·.1) ++ (L.map (·.1)).map (· + n))) fun i h1 h2 => by
    rw [hm] at h1 h2
    rcases h1 with ⟨q1, q2⟩ | ⟨q1, q2⟩
    · exact List.mem_cons_of_mem _ (List.mem_append_left _ (start_mem q2 fun q => h2 (.inl ⟨by omega, q⟩)))
    · by_cases c : i = a + n
      · rw [c]; exact List.mem_cons_self
      · refine List.mem_cons_of_mem _ (List.mem_append_right _ (List.mem_map.2 ⟨i - n, start_mem q2 fun q => h2 (.inr ⟨by omega, ?_⟩), by omega⟩))
        rwa [show i - 1 - n = i - n - 1 from by omega]
  simp only [List.length_append, List.length_map, List.length_cons] at this
  omega
theorem rem_len {L R : Sp} {a n : Int} (hR : NF R) (hn : 0 ≤ n) (hm : ∀ i, memS R i ↔ (i < a ∧ memS L i) ∨ (a ≤ i ∧ memS L (i + n))) : R.length ≤ 2 * L.length + 1 := by
  have := NFfrom.len_le hR (K := a :: (L.map (·.1) ++ (L.map (·.1)).map (· - n))) fun i h1 h2 => by
    rw [hm] at h1 h2
    rcases h1 with ⟨q1, q2⟩ | ⟨q1, q2⟩
    · exact List.mem_cons_of_mem _ (List.mem_append_left _ (start_mem q2 fun q => h2 (.inl ⟨by omega, q⟩)))
    · by_cases c : i = a
      · rw [c]; exact List.mem_cons_self
      · refine List.mem_cons_of_mem _ (List.mem_append_right _ (List.mem_map.2 ⟨i + n, start_mem q2 fun q => h2 (.inr ⟨by omega, ?_⟩), by omega⟩))
        rwa [show i - 1 + n = i + n - 1 from by omega]
  simp only [List.length_append, List.length_map, List.length_cons] at this
  omega
/-- What was inserted, and is removed again. -/
theorem back_me {L R : Sp} {a n : Int} (hn : 0 ≤ n) (hm : ∀ i, memS R i ↔ (i < a ∧ memS L i) ∨ (a + n ≤ i ∧ memS L (i - n))) : ∀ i, (i < a ∧ memS R i) ∨ (a ≤ i ∧ memS R (i + n)) ↔ memS L i := fun i => by
  rw [hm, hm, show i + n - n = i from by omega]
  constructor
  · rintro (⟨h, ⟨_, q⟩ | ⟨q, _⟩⟩ | ⟨h, ⟨_, q⟩ | ⟨_, q⟩⟩)
    · exact q
    · omega
    · omega
    · exact q
  · intro q
    by_cases c : i < a
    · exact .inl ⟨c, .inl ⟨c, q⟩⟩
    · exact .inr ⟨by omega, .inr ⟨by omega, q⟩⟩

/-! ### Results of sets that are not great -/
def wantS (L M : Sp) : Int := if chkS L = 0 then chkS M else chkS L
theorem OpPost.small {kp : Bool → Bool → Bool} {w w' : World} {L M : Sp} {e : Ending} (h : OpPost kp w L M e w') (hl : 2 * L.length + 2 * M.length ≤ 4096) : ∃ R, SPost w R (wantS L M) e w' ∧ (wantS L M ≠ 0 → R = []) ∧ (wantS L M = 0 → Merged kp L M R) := by
  rcases h with ⟨h1, h2, R, hR, hS⟩ | ⟨h, hS⟩
  · have hw : wantS L M = 0 := by unfold wantS; rw [if_pos h1, h2]
    have := hR.len
    rw [(dS_le (by omega)).1, (dS_le (by omega)).2] at hS
    rw [hw]
    exact ⟨R, hS, fun q => absurd rfl q, fun _ => hR⟩
  · exact ⟨[], hS, fun _ => rfl, fun q => absurd q h⟩
end Go.Proofs.Ytglgkbocmnkokaa

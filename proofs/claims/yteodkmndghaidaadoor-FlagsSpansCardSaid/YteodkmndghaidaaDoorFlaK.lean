/-
  Flags: Spans.
-/
import Derived.Test.YteodkmndghaidaaDoorFlaJ
import Derived.Test.YteodkmndghaidaaDoorSpaOf
namespace Go.Proofs.YteodkmndghaidaaDoor
open Go.RowKit
set_option linter.unusedVariables false
set_option linter.unusedSimpArgs false

/-- The places that are set, of the first k. -/
def plc (l : List Bool) : Nat → List Int
  | 0 => []
  | k + 1 => plc l k ++ (if bt l k then [(k : Int)] else [])
theorem plc_mem (l : List Bool) (x : Int) : ∀ k, x ∈ plc l k ↔ 0 ≤ x ∧ x < k ∧ bt l x.toNat = true := by
  intro k
  induction k with
  | zero => simp [plc]; omega
  | succ k ih =>
    unfold plc
    rw [List.mem_append, ih]
    constructor
    · rintro (⟨h1, h2, h3⟩ | h)
      · exact ⟨h1, by omega, h3⟩
      · cases e : bt l k with
        | false => rw [e] at h; simp at h
        | true =>
          rw [e] at h
          simp at h
          subst h
          exact ⟨by omega, by omega, by rw [Int.toNat_natCast]; exact e⟩
    · rintro ⟨h1, h2, h3⟩
      by_cases c : x < k
      · exact .inl ⟨h1, c, h3⟩
      · right
        have : x = (k : Int) := by omega
        subst this
        rw [Int.toNat_natCast] at h3
        rw [h3]; simp
theorem plc_len (l : List Bool) : ∀ k, (plc l k).length ≤ k := by
  intro k
  induction k with
  | zero => exact Nat.le_refl _
  | succ k ih => unfold plc; rw [List.length_append]; split <;> simp <;> omega
/-- R is the set of the places that are set. -/
structure SetOf (l : List Bool) (R : Sp) : Prop where
  nf : NF R
  me : ∀ i, memS R i ↔ 0 ≤ i ∧ i < l.length ∧ bt l i.toNat = true
theorem NFfrom.end_below {n : Int} {L : Sp} : ∀ {lo : Int}, NFfrom lo L → (∀ i, memS L i → i < n) → lo ≤ n → endS lo L ≤ n := by
  induction L with
  | nil => intro lo _ _ hl; exact hl
  | cons s r ih =>
    rintro lo ⟨h1, h2, h3, h4⟩ hm hl
    have := hm (s.2 - 1) ((memS_cons s r _).2 (.inl ⟨by omega, by omega⟩))
    exact ih h4 (fun i hi => hm i ((memS_cons s r i).2 (.inr hi))) (by omega)
theorem SetOf.len {l : List Bool} {R : Sp} (h : SetOf l R) : 2 * R.length ≤ l.length + 1 := by
  have h1 := h.nf.le_end
  have h2 := NFfrom.end_below (n := l.length) h.nf (fun i hi => ((h.me i).1 hi).2.1) (by omega)
  omega
theorem SetOf.uniq {l : List Bool} {R S : Sp} (h : SetOf l R) (k : SetOf l S) : R = S := NFfrom.unique h.nf k.nf fun i => by rw [h.me, k.me]
def ivs (P : List Int) : Nat → Value := fun j => .int .i64 (P.getD j 0)
theorem ivs_snoc (P : List Int) (x : Int) (j : Nat) (hj : j < P.length + 1) : (if j < P.length then ivs P j else .int .i64 x) = ivs (P ++ [x]) j := by
  unfold ivs
  rw [List.getD_eq_getElem?_getD, List.getD_eq_getElem?_getD]
  by_cases c : j < P.length
  · rw [if_pos c, List.getElem?_append_left c]
  · rw [if_neg c, List.getElem?_append_right (by omega), show j - P.length = 0 from by omega]; rfl
theorem own_ints {w : World} {B c : Nat} {A : Option Addr} {P : List Int} (h : Own w B 3 1 P.length c A (ivs P)) : IntsAt w.heap.size w (.slice A P.length c) P := by
  rcases h with ⟨rfl, h2, rfl⟩ | ⟨hle, g, F', rfl, hg, hr, hF⟩
  · have : P = [] := List.eq_nil_of_length_eq_zero h2
    subst this
    exact .inl ⟨⟨_, _, rfl⟩, rfl⟩
  · refine .inr ⟨g, 0, c, rfl, hr.lt, fun j hj => ?_⟩
    rw [Nat.zero_add, hr.cell (by omega), hF j (by omega)]
    unfold ivs; rw [List.getD_eq_getElem?_getD]
set_option maxRecDepth 100000 in
set_option maxHeartbeats 3200000 in
theorem fspans_any (w : World) (p : Nat) (l : List Bool) (h : Fl w p l) :
    Calls Tryd.prog 28 #[.pointer (some ⟨p, 0, none⟩)] w fun e w' => ∃ R A, SetOf l R ∧ e = .returned (.slice A R.length R.length) ∧ SeesP w' w'.heap.size A R ∧ Below w.heap.size w w' := by
  have hn := h.len
  have HF := Lib.hid h
  have c0 := h.cells.c0
  obtain ⟨n, en⟩ : ∃ n, n = l.length := ⟨_, rfl⟩
  have EN := Lib.hid en
  rw [← en] at hn c0
  clear h en
  go_enter Tryd.func28, Tryd.ntmps28
  go_wp2_with fail
  clear c0
  go_loopw [3, 13] (fun o i wr => ∃ (k : Nat) (A : Option Addr) (c : Nat), k ≤ n ∧ o = .slice A (plc l k).length c ∧ i = .int .i64 k ∧ Hid (Own wr w.heap.size 3 1 (plc l k).length c A (ivs (plc l k))) ∧ Hid (Below w.heap.size w wr)) (fun _ i _ => n - (intOf i).toNat)
  case atStart => exact ⟨0, none, 0, Nat.zero_le _, rfl, rfl, Own.nil _ _ _ _ _, Below.refl _ _⟩
  case round =>
    obtain ⟨k, A, c, hk, rfl, rfl, hO, hD⟩ := hrel
    have hpl := plc_len l k
    by_cases hlt : k < n
    · have hki : (k : Int) < (n : Int) := by omega
      have KG := Lib.hid (fget_any wr p l (HF.out.below (hD.out)) k (by rw [← EN.out]; exact hlt))
      have EP : plc l (k + 1) = plc l k ++ (if bt l k then [(k : Int)] else []) := rfl
      have EP := Lib.hid EP
      cases hb : bt l k with
      | false =>
        rw [hb] at KG EP
        have EP2 : Hid (plc l (k + 1) = plc l k) := by show _ = _; have := EP.out; simpa using this
        clear hb EP
        go_wp2_with fail
        refine (KG.out).mono ?_
        rintro e w' ⟨rfl, rfl⟩
        go_wp2_with fail
        go_roundw
        case rel => exact ⟨k + 1, A, c, hlt, by rw [EP2.out], by go_num, by rw [EP2.out]; exact hO, hD⟩
        case measure => simp [intOf]; omega
      | true =>
        rw [hb] at KG EP
        have EP2 : Hid (plc l (k + 1) = plc l k ++ [(k : Int)]) := by show _ = _; have := EP.out; simpa using this
        obtain ⟨A2, c2, w2, run, O2, fr, _, _⟩ := own_push (P := Tryd.prog) wr w.heap.size Tryd.underlying75 infoInt rfl hO.out hD.out.size (.int .i64 k) rfl (by omega) (by omega)
        have O3 : Hid (Own w2 w.heap.size 3 1 (plc l (k + 1)).length c2 A2 (ivs (plc l (k + 1)))) := by
          show Own _ _ _ _ _ _ _ _
          rw [EP2.out, List.length_append]
          exact O2.congr fun j hj => ivs_snoc _ _ j (by simpa using hj)
        have D3 := Lib.hid (hD.out.trans (fr.below hD.out.size fun b hb => (hO.out.blk b hb).1))
        have RUN := Lib.hid run
        have LL : Hid ((plc l (k + 1)).length = (plc l k).length + 1) := by show _ = _; rw [EP2.out]; simp
        obtain ⟨m, em⟩ : ∃ m, m = (plc l k).length := ⟨_, rfl⟩
        rw [← em] at RUN LL hpl ⊢
        clear hb EP run O2 fr hO hD em
        go_wp2_with fail
        refine (KG.out).mono ?_
        rintro e w' ⟨rfl, rfl⟩
        go_wp2_with (at_builtin; refine Hid.out ?_)
        refine Lib.hid (Lib.wpList_append_run _ rfl _ _ _ _ rfl _ _ rfl rfl _ _ (RUN.out _) ?_)
        go_wp2_with fail
        go_roundw
        case rel => exact ⟨k + 1, A2, c2, hlt, by rw [LL.out], by go_num, O3, D3⟩
        case measure => simp [intOf]; omega
    · obtain rfl : k = n := by omega
      have KS := sof_any wr A c (plc l k) (own_ints hO.out) (by omega) (fun x hx => by have := (plc_mem l x k).1 hx; exact ⟨by omega, by omega⟩)
      have NB : ¬ badPlace (plc l k) := by
        rintro ⟨x, hx, hb⟩
        have := (plc_mem l x k).1 hx
        omega
      have KS := Lib.hid KS
      have NB := Lib.hid NB
      have D3 := Lib.hid hD.out
      clear hO hD hpl
      generalize hm : (plc l k).length = m at KS ⊢
      clear hm
      go_wp2_with fail
      refine (KS.out).mono ?_
      rintro e w2 hp
      rcases hp with ⟨hb, _⟩ | ⟨_, R, hR, hme, A', rfl, hs, hb⟩
      · exact absurd hb NB.out
      have HS : SetOf l R := ⟨hR, fun i => by rw [hme, plc_mem, EN.out]⟩
      have hle := HS.len
      rw [show dS R = R from by unfold dS; rw [if_neg (by rw [← EN.out] at hle; omega)]] at hs ⊢
      have HS := Lib.hid HS
      have S3 := Lib.hid hs
      have D4 := Lib.hid (D3.out.trans (hb.mono D3.out.size))
      clear hR hme hs hb hle
      go_wp2_with fail
      go_ret
      exact ⟨R, A', HS.out, rfl, S3.out, D4.out⟩
end Go.Proofs.YteodkmndghaidaaDoor

/-
  The reference of layer 1: Spans of marks; the marks of an S; its set.
-/
import Derived.Test.YteodkmndghaidaaDoorSpaG
import Derived.Test.YteodkmndghaidaaDoorSliceL
namespace Go.Proofs.YteodkmndghaidaaDoor
open Go.RowKit
set_option linter.unusedVariables false
set_option linter.unusedSimpArgs false

/-- The set of the first k marks. -/
structure SpTo (m : Nat → Bool) (k : Nat) (O : Sp) : Prop where
  nf : NF O
  e1 : endS (-1) O ≤ k
  e2 : endS (-1) O = k ↔ 0 < k ∧ m (k - 1) = true
  me : ∀ i, memS O i ↔ 0 ≤ i ∧ i < k ∧ m i.toNat = true
theorem SpTo.start (m : Nat → Bool) : SpTo m 0 [] := by
  refine ⟨trivial, ?_, ?_, fun i => ?_⟩
  · show (-1 : Int) ≤ ((0 : Nat) : Int); omega
  · show (-1 : Int) = ((0 : Nat) : Int) ↔ _
    constructor
    · intro h; omega
    · rintro ⟨h, _⟩; omega
  · constructor
    · intro h; exact absurd h (memS_nil _)
    · rintro ⟨h1, h2, _⟩; omega
theorem SpTo.skip {m : Nat → Bool} {k : Nat} {O : Sp} (h : SpTo m k O) (hm : m k = false) : SpTo m (k + 1) O := by
  have h0 := h.e1
  refine ⟨h.nf, by push_cast; omega, ?_, fun i => ?_⟩
  · constructor
    · intro e; push_cast at e; omega
    · rintro ⟨_, q⟩; rw [Nat.add_sub_cancel, hm] at q; exact absurd q (by decide)
  · rw [h.me]
    constructor
    · rintro ⟨h1, h2, h3⟩; exact ⟨h1, by push_cast; omega, h3⟩
    · rintro ⟨h1, h2, h3⟩
      refine ⟨h1, ?_, h3⟩
      by_cases c : i = k
      · rw [c, Int.toNat_natCast, hm] at h3; exact absurd h3 (by decide)
      · push_cast at h2; omega
theorem SpTo.mark {m : Nat → Bool} {k : Nat} {O : Sp} (h : SpTo m k O) (hm : m k = true) (hk : k < 1000000000) : SpTo m (k + 1) (addS O k (k + 1)) := by
  obtain ⟨q1, q2, q3⟩ := addS_spec h.nf h.e1 (by omega) (show (k : Int) < (k : Int) + 1 by omega) (by omega)
  refine ⟨q1, by rw [q2]; push_cast; omega, ?_, fun i => ?_⟩
  · rw [q2, Nat.add_sub_cancel]
    exact ⟨fun _ => ⟨by omega, hm⟩, fun _ => by push_cast; rfl⟩
  · rw [q3, h.me]
    constructor
    · rintro (⟨h1, h2, h3⟩ | ⟨h1, h2⟩)
      · exact ⟨h1, by push_cast; omega, h3⟩
      · have : i = k := by omega
        rw [this]
        exact ⟨by omega, by push_cast; omega, by rw [Int.toNat_natCast]; exact hm⟩
    · rintro ⟨h1, h2, h3⟩
      push_cast at h2
      by_cases c : i = k
      · exact .inr ⟨by omega, by omega⟩
      · exact .inl ⟨h1, by omega, h3⟩
theorem own_last {w : World} {B c g : Nat} {e : TypeId} {P : Sp} {s : Int × Int} (O : Own w B e 2 (P ++ [s]).length c (some ⟨g, 0, none⟩) (spf (P ++ [s]))) (y : Int) :
    Own (w.setCell ⟨g, P.length * 2 + 1, none⟩ (.int .i64 y)) B e 2 (P ++ [(s.1, y)]).length c (some ⟨g, 0, none⟩) (spf (P ++ [(s.1, y)])) := by
  have O2 := O.set (P.length * 2 + 1) (.int .i64 y)
  have hlen : (P ++ [s]).length = P.length + 1 := by simp
  rw [show (P ++ [(s.1, y)]).length = P.length + 1 from by simp]
  rw [hlen] at O2
  refine O2.congr fun j hj => ?_
  show (if j = P.length * 2 + 1 then _ else spf (P ++ [s]) j) = spf (P ++ [(s.1, y)]) j
  by_cases d : j = P.length * 2 + 1
  · rw [if_pos d, d, spf_1, sg_app, if_neg (by omega), Nat.sub_self]; rfl
  · rw [if_neg d]
    unfold spf
    rw [sg_app, sg_app]
    by_cases d2 : j / 2 < P.length
    · rw [if_pos d2, if_pos d2]
    · rw [if_neg d2, if_neg d2, show j / 2 - P.length = 0 from by omega, if_pos (show j % 2 = 0 by omega), if_pos (show j % 2 = 0 by omega)]; rfl
theorem spf_snoc {L : Sp} {x y : Int} : ∀ j, j < (L.length + 1) * 2 → (if j < L.length * 2 then spf L j else if j = L.length * 2 then Value.int .i64 x else .int .i64 y) = spf (L ++ [(x, y)]) j := fun j hj => by
  unfold spf
  rw [sg_app]
  by_cases d : j < L.length * 2
  · rw [if_pos d, if_pos (show j / 2 < L.length by omega)]
  · rw [if_neg d, if_neg (show ¬ j / 2 < L.length by omega)]
    by_cases d2 : j = L.length * 2
    · rw [if_pos d2, if_pos (show j % 2 = 0 by omega), show j / 2 - L.length = 0 from by omega]; rfl
    · rw [if_neg d2, if_neg (show ¬ j % 2 = 0 by omega), show j / 2 - L.length = 0 from by omega]; rfl
def bls (m : Nat → Bool) : Nat → Value := fun j => .bool (m j)


set_option maxRecDepth 100000 in
set_option maxHeartbeats 3200000 in
theorem refSpans_any (w : World) (B : Nat) (A : Option Addr) (n c : Nat) (m : Nat → Bool) (h : Sees w B A n (bls m)) (hB : B ≤ w.heap.size) (hn : n ≤ 1000000) :
    Calls Tryd.prog 30 #[.slice A n c] w fun e w' => ∃ R A' c', e = .returned (.slice A' R.length c') ∧ SpTo m n R ∧ SeesP w' w'.heap.size A' R ∧ Below w.heap.size w w' := by
  have HS := Lib.hid (h.more hB)
  clear h
  go_enter Tryd.func30, Tryd.ntmps30
  go_wp2_with fail
  go_loopw [3, 4] (fun o i wr => ∃ (k : Nat) (O : Sp) (Ao : Option Addr) (co : Nat), k ≤ n ∧ o = .slice Ao O.length co ∧ i = .int .i64 k ∧ Hid (SpTo m k O) ∧ Hid (Own wr w.heap.size 64 2 O.length co Ao (spf O)) ∧ Hid (Below w.heap.size w wr)) (fun _ i _ => n - (intOf i).toNat)
  case atStart => exact ⟨0, [], none, 0, Nat.zero_le _, rfl, rfl, SpTo.start m, Own.nil _ _ _ _ _, Below.refl _ _⟩
  case round =>
    obtain ⟨k, O, Ao, co, hk, rfl, rfl, hT, hO, hD⟩ := hrel
    by_cases hlt : k < n
    · obtain ⟨b, o, rfl, hb, h3⟩ := (HS.out.below hD.out) (by omega)
      have c0 : wr.cell? ⟨b, o + k, none⟩ = some (.bool (m k)) := h3 k hlt
      have hki : (k : Int) < (n : Int) := by omega
      cases hmk : m k with
      | false =>
        rw [hmk] at c0
        have T2 : Hid (SpTo m (k + 1) O) := hT.out.skip hmk
        clear h3 hmk
        go_wp2_with fail
        go_roundw
        case rel => exact ⟨k + 1, O, Ao, co, by omega, rfl, by go_num, T2, hO, hD⟩
        case measure => simp [intOf]; omega
      | true =>
        rw [hmk] at c0
        have he1 := hT.out.e1
        have hlen := NF.len hT.out.nf
        by_cases heq : endS (-1) O = k
        · obtain ⟨k0, hm1⟩ := hT.out.e2.1 heq
          obtain ⟨j, rfl⟩ : ∃ j, k = j + 1 := ⟨k - 1, by omega⟩
          rw [Nat.add_sub_cancel] at hm1
          have c1 : wr.cell? ⟨b, o + j, none⟩ = some (.bool true) := by have := h3 j (by omega); rwa [show bls m j = .bool (m j) from rfl, hm1] at this
          rcases List.eq_nil_or_concat O with e | ⟨P, s, e⟩
          · exfalso
            rw [e] at heq
            have : (-1 : Int) = ((j + 1 : Nat) : Int) := heq
            omega
          · rw [List.concat_eq_append] at e
            subst e
            have hs2 : s.2 = ((j + 1 : Nat) : Int) := by rw [endS_append] at heq; exact heq
            have T2 : Hid (SpTo m (j + 1 + 1) (P ++ [(s.1, ((j + 1 : Nat) : Int) + 1)])) := by
              have := hT.out.mark hmk (by omega)
              rwa [addS_snoc (by omega), if_pos (by omega), show max s.2 (((j + 1 : Nat) : Int) + 1) = ((j + 1 : Nat) : Int) + 1 from by omega] at this
            obtain ⟨g, hA, hg1, hg2, hcells, hfz⟩ := hO.out.at_ (by simp)
            subst hA
            have hle := hO.out.le
            have z1 := hfz (P.length * 2 + 1)
            have hP : (P ++ [s]).length = P.length + 1 := by simp
            have ee := hcells (P.length * 2 + 1) (by omega)
            rw [spf_1, show sg (P ++ [s]) P.length = s from by rw [sg_app, if_neg (by omega), Nat.sub_self]; rfl] at ee
            have O2 := Lib.hid (own_last hO.out (((j + 1 : Nat) : Int) + 1))
            have D2 : Hid (Below w.heap.size w (wr.setCell ⟨g, P.length * 2 + 1, none⟩ (.int .i64 (((j + 1 : Nat) : Int) + 1)))) := hD.out.setCell (p := ⟨g, P.length * 2 + 1, none⟩) hg1 _
            rw [hP] at hlen hle ⊢
            obtain ⟨np, enp⟩ : ∃ n, n = P.length := ⟨_, rfl⟩
            have ENP := Lib.hid enp
            rw [← enp] at z1 ee O2 D2 hlen hle ⊢
            clear heq he1 hO hD hT h3 hmk hcells hfz hP enp hm1 hs2
            go_wp2_with fail
            go_roundw
            case rel => exact ⟨j + 1 + 1, P ++ [(s.1, ((j + 1 : Nat) : Int) + 1)], some ⟨g, 0, none⟩, co, by omega, by rw [List.length_append, ← ENP.out]; rfl, by go_num, T2, O2, D2⟩
            case measure => simp [intOf]; omega
        · cases k with
          | zero =>
            rw [Nat.add_zero] at c0
            obtain ⟨A2, c2, w2, run, O2, hb2, mx⟩ := push2 Tryd.underlying60 infoAr wr w.heap.size hO.out hD.out.size (0) (1) (by omega)
            have O3 := Lib.hid (O2.congr fun j hj => spf_snoc j hj)
            have OE : addS O ((0 : Nat) : Int) (((0 : Nat) : Int) + 1) = O ++ [((0 : Int), (1 : Int))] := by
              have ex : (((0 : Nat) : Int), ((0 : Nat) : Int) + 1) = ((0 : Int), (1 : Int)) := Prod.ext (by simp) (by simp)
              rw [← ex]
              rcases List.eq_nil_or_concat O with e | ⟨P, s, e⟩
              · rw [e, addS_nil (by omega)]; rfl
              · rw [List.concat_eq_append] at e
                rw [e] at heq he1 ⊢
                rw [endS_append] at heq he1
                have h1 : s.2 ≠ ((0 : Nat) : Int) := heq
                have h2 : s.2 ≤ ((0 : Nat) : Int) := he1
                rw [addS_snoc (by omega), if_neg (by omega)]
            have B2 : Hid (Below w.heap.size w w2) := hD.out.trans hb2
            have T2 : Hid (SpTo m (0 + 1) (O ++ [((0 : Int), (1 : Int))])) := by have := hT.out.mark hmk (by omega); rwa [OE] at this
            have RUN := Lib.hid run
            obtain ⟨nO, en⟩ : ∃ n, n = O.length := ⟨_, rfl⟩
            have ENO := Lib.hid en
            rw [← en] at RUN O3 ⊢
            clear run O2 hb2 mx heq he1 hO hD hT h3 hmk en OE
            go_wp2_with (at_builtin; refine Hid.out ?_)
            refine Lib.hid (Lib.wpList_append_run _ rfl _ _ _ _ rfl _ _ rfl rfl _ _ (RUN.out _) ?_)
            go_wp2_with fail
            go_roundw
            case rel => exact ⟨0 + 1, O ++ [((0 : Int), (1 : Int))], A2, c2, by omega, by rw [List.length_append, ← ENO.out]; rfl, by go_num, T2, by rw [List.length_append, List.length_singleton, ← ENO.out]; exact O3.out, B2⟩
            case measure => simp [intOf]; omega
          | succ j =>
            have c1 : wr.cell? ⟨b, o + j, none⟩ = some (.bool false) := by
              have h4 := h3 j (by omega)
              rw [show bls m j = .bool (m j) from rfl] at h4
              rw [h4]
              cases e : m j with
              | false => rfl
              | true => exact absurd (hT.out.e2.2 ⟨by omega, by rw [Nat.add_sub_cancel]; exact e⟩) heq
            obtain ⟨A2, c2, w2, run, O2, hb2, mx⟩ := push2 Tryd.underlying60 infoAr wr w.heap.size hO.out hD.out.size ((j : Int) + 1) ((j : Int) + 1 + 1) (by omega)
            have O3 := Lib.hid (O2.congr fun j hj => spf_snoc j hj)
            have OE : addS O ((j + 1 : Nat) : Int) (((j + 1 : Nat) : Int) + 1) = O ++ [(((j : Int) + 1 : Int), ((j : Int) + 1 + 1 : Int))] := by
              have ex : (((j + 1 : Nat) : Int), ((j + 1 : Nat) : Int) + 1) = (((j : Int) + 1 : Int), ((j : Int) + 1 + 1 : Int)) := Prod.ext (by simp) (by simp)
              rw [← ex]
              rcases List.eq_nil_or_concat O with e | ⟨P, s, e⟩
              · rw [e, addS_nil (by omega)]; rfl
              · rw [List.concat_eq_append] at e
                rw [e] at heq he1 ⊢
                rw [endS_append] at heq he1
                have h1 : s.2 ≠ ((j + 1 : Nat) : Int) := heq
                have h2 : s.2 ≤ ((j + 1 : Nat) : Int) := he1
                rw [addS_snoc (by omega), if_neg (by omega)]
            have B2 : Hid (Below w.heap.size w w2) := hD.out.trans hb2
            have T2 : Hid (SpTo m (j + 1 + 1) (O ++ [(((j : Int) + 1 : Int), ((j : Int) + 1 + 1 : Int))])) := by have := hT.out.mark hmk (by omega); rwa [OE] at this
            have RUN := Lib.hid run
            obtain ⟨nO, en⟩ : ∃ n, n = O.length := ⟨_, rfl⟩
            have ENO := Lib.hid en
            rw [← en] at RUN O3 ⊢
            clear run O2 hb2 mx heq he1 hO hD hT h3 hmk en OE
            go_wp2_with (at_builtin; refine Hid.out ?_)
            refine Lib.hid (Lib.wpList_append_run _ rfl _ _ _ _ rfl _ _ rfl rfl _ _ (RUN.out _) ?_)
            go_wp2_with fail
            go_roundw
            case rel => exact ⟨j + 1 + 1, O ++ [(((j : Int) + 1 : Int), ((j : Int) + 1 + 1 : Int))], A2, c2, by omega, by rw [List.length_append, ← ENO.out]; rfl, by go_num, T2, by rw [List.length_append, List.length_singleton, ← ENO.out]; exact O3.out, B2⟩
            case measure => simp [intOf]; omega
    · obtain rfl : k = n := by omega
      go_wp2_with fail
      go_ret
      exact ⟨O, Ao, co, rfl, hT.out, hO.out.sees, hD.out⟩
end Go.Proofs.YteodkmndghaidaaDoor

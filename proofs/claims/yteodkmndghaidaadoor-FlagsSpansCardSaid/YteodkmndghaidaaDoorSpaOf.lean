/-
  Contracts of package spans, seventh: Of.
-/
import Derived.Test.YteodkmndghaidaaDoorSpaF
import Derived.Test.YteodkmndghaidaaDoorSpaSeq
namespace Go.Proofs.YteodkmndghaidaaDoor
open Go.RowKit
set_option linter.unusedVariables false
set_option linter.unusedSimpArgs false

theorem srt_mem (L : List Int) (x : Int) : x ∈ srt L ↔ x ∈ L := by unfold srt; exact (List.mergeSort_perm L _).mem_iff
theorem srt_le (L : List Int) : (srt L).Pairwise (fun x y => x ≤ y) := by
  have := List.pairwise_mergeSort (le := fun (x y : Int) => decide (x ≤ y)) (fun a b c h1 h2 => by simp at *; omega) (fun a b => by simp; omega) L
  unfold srt
  exact this.imp (fun h => by simpa using h)
/-- The k-th of a list. -/
def nth (L : List Int) (k : Nat) : Int := L.getD k 0
theorem nth_get (L : List Int) {k : Nat} (h : k < L.length) : nth L k = L[k] := by simp [nth, List.getD_eq_getElem?_getD, List.getElem?_eq_getElem h]
theorem srt_step (L : List Int) {j k : Nat} (hj : j ≤ k) (hk : k < (srt L).length) : nth (srt L) j ≤ nth (srt L) k := by
  rw [nth_get _ hk, nth_get _ (by omega)]
  rcases Nat.lt_or_ge j k with c | c
  · exact List.pairwise_iff_getElem.1 (srt_le L) j k (by omega) hk c
  · have : j = k := by omega
    subst this
    exact Int.le_refl _
/-- The set of the first k places of a sorted list. -/
structure OfTo (S : List Int) (k : Nat) (O : Sp) : Prop where
  nf : NF O
  en : endS (-1) O = if k = 0 then -1 else nth S (k - 1) + 1
  me : ∀ i, memS O i ↔ i ∈ S.take k
theorem OfTo.start (S : List Int) : OfTo S 0 [] := ⟨trivial, rfl, fun i => by simp [memS_nil]⟩
theorem addS_again {O : Sp} {f : Int} (h : endS (-1) O = f + 1) (hf : 0 ≤ f) : addS O f (f + 1) = O := by
  rcases List.eq_nil_or_concat O with rfl | ⟨P, s, rfl⟩
  · have : endS (-1) ([] : Sp) = -1 := rfl
    omega
  · rw [List.concat_eq_append] at *
    rw [endS_append] at h
    have h : s.2 = f + 1 := h
    rw [addS_snoc (by omega), if_pos (by omega), Int.max_eq_left (by omega)]
theorem OfTo.step {L : List Int} {k : Nat} {O : Sp} (h : OfTo (srt L) k O) (hk : k < (srt L).length) (h0 : 0 ≤ nth (srt L) k) (h1 : nth (srt L) k < 1073741824) : OfTo (srt L) (k + 1) (addS O (nth (srt L) k) (nth (srt L) k + 1)) := by
  obtain ⟨a1, a2, a3⟩ := h
  have ht : ∀ i, i ∈ (srt L).take (k + 1) ↔ i ∈ (srt L).take k ∨ i = nth (srt L) k := fun i => by
    rw [List.take_succ_eq_append_getElem hk, List.mem_append, nth_get _ hk]
    simp
  by_cases c : endS (-1) O = nth (srt L) k + 1
  · rw [addS_again c h0]
    refine ⟨a1, by rw [if_neg (by omega)]; exact c, fun i => ?_⟩
    rw [a3, ht]
    constructor
    · exact .inl
    · rintro (h | rfl)
      · exact h
      · rcases Nat.eq_zero_or_pos k with hz | hp
        · rw [if_pos hz] at a2; omega
        · rw [if_neg (by omega)] at a2
          have : nth (srt L) (k - 1) = nth (srt L) k := by omega
          rw [← this, nth_get _ (by omega)]
          exact List.mem_take_iff_getElem.2 ⟨k - 1, by omega, rfl⟩
  · have he : endS (-1) O ≤ nth (srt L) k := by
      rcases Nat.eq_zero_or_pos k with hz | hp
      · rw [if_pos hz] at a2; omega
      · rw [if_neg (by omega)] at a2
        have := srt_step L (j := k - 1) (k := k) (by omega) hk
        omega
    obtain ⟨b1, b2, b3⟩ := addS_spec a1 he h0 (show nth (srt L) k < nth (srt L) k + 1 by omega) (by omega)
    refine ⟨b1, by rw [if_neg (by omega)]; exact b2, fun i => ?_⟩
    rw [b3, a3, ht]
    constructor
    · rintro (h | h)
      · exact .inl h
      · exact .inr (by omega)
    · rintro (h | h)
      · exact .inl h
      · exact .inr (by omega)
def badPlace (L : List Int) : Prop := ∃ x ∈ L, x < 0 ∨ 1073741824 ≤ x
def OfPost (w : World) (L : List Int) (e : Ending) (w' : World) : Prop :=
  (badPlace L ∧ SPost w [] 4 e w') ∨ (¬ badPlace L ∧ ∃ R, NF R ∧ (∀ i, memS R i ↔ i ∈ L) ∧ SPost w (dS R) (dE R) e w')
theorem badPlace_iff (L : List Int) (h : 0 < (srt L).length) : badPlace L ↔ nth (srt L) 0 < 0 ∨ 1073741824 ≤ nth (srt L) ((srt L).length - 1) := by
  constructor
  · rintro ⟨x, hx, hb⟩
    obtain ⟨j, hj, rfl⟩ := List.mem_iff_getElem.1 ((srt_mem L x).2 hx)
    rw [← nth_get _ hj] at hb
    have h1 := srt_step L (j := 0) (k := j) (by omega) hj
    have h2 := srt_step L (j := j) (k := (srt L).length - 1) (by omega) (by omega)
    omega
  · rintro (hb | hb)
    · exact ⟨nth (srt L) 0, (srt_mem L _).1 (by rw [nth_get _ h]; exact List.getElem_mem _), .inl hb⟩
    · exact ⟨nth (srt L) ((srt L).length - 1), (srt_mem L _).1 (by rw [nth_get _ (by omega)]; exact List.getElem_mem _), .inr hb⟩
theorem good_nth {L : List Int} (h : ¬ badPlace L) {k : Nat} (hk : k < (srt L).length) : 0 ≤ nth (srt L) k ∧ nth (srt L) k < 1073741824 := by
  have hm : nth (srt L) k ∈ L := (srt_mem L _).1 (by rw [nth_get _ hk]; exact List.getElem_mem _)
  constructor
  · rcases Int.lt_or_le (nth (srt L) k) 0 with c | c
    · exact absurd ⟨_, hm, .inl c⟩ h
    · exact c
  · rcases Int.lt_or_le (nth (srt L) k) 1073741824 with c | c
    · exact c
    · exact absurd ⟨_, hm, .inr c⟩ h

theorem values_any (w : World) (A : Option Addr) (n c : Nat) :
    Calls Tryd.prog 46 #[.slice A n c] w fun e w' => e = .returned (.func (.func 51) #[] #[.pointer (some ⟨w.heap.size, 0, none⟩)]) ∧ w' = w.alloc (.cells #[.slice A n c] 75) := by
  go_enter Tryd.func46, Tryd.ntmps46
  go_wp2_with fail
  go_ret
  exact ⟨rfl, rfl⟩
set_option maxRecDepth 100000 in
set_option maxHeartbeats 6400000 in
theorem sof_any (w : World) (A : Option Addr) (c : Nat) (L : List Int) (h : IntsAt w.heap.size w (.slice A L.length c) L) (hl : L.length ≤ 100000000) (hf : ∀ x ∈ L, Fits x) :
    Calls Tryd.prog 41 #[.slice A L.length c] w (OfPost w L) := by
  have B0 : Hid (Below w.heap.size w (w.alloc (.cells #[.slice A L.length c] 75))) := (Below.refl _ w).alloc (Nat.le_refl _) _
  have c0 : (w.alloc (.cells #[.slice A L.length c] 75)).cell? ⟨w.heap.size, 0, none⟩ = some (.slice A L.length c) := (World.rowIs_alloc w #[.slice A L.length c] 75 (fun _ => .slice A L.length c) (fun j hj => by
    have h0 : j = 0 := Nat.lt_one_iff.1 hj
    subst h0; rfl)).cell (i := 0) (by simp)
  have hI : IntsAt (w.alloc (.cells #[.slice A L.length c] 75)).heap.size (w.alloc (.cells #[.slice A L.length c] 75)) (.slice A L.length c) L := by
    rcases h.below B0.out with h | ⟨b, o, cc, h1, h2, h3⟩
    · exact .inl h
    · exact .inr ⟨b, o, cc, h1, by have := B0.out.size; omega, h3⟩
  have K := Lib.hid (sorted_any w.heap.size (.slice A L.length c) L (by omega) (w.alloc (.cells #[.slice A L.length c] 75)) (by rw [World.size_alloc]; omega) c0 hI)
  have hsl := srt_len L
  have HR : Hid (∀ v (w1 : World), w1.ownsRow (w.alloc (.cells #[.slice A L.length c] 75)).heap.size 3 1 v L.length ((srt L).map encI) → (v = .slice none 0 0 ∧ L.length = 0) ∨ ∃ b cc, v = .slice (some ⟨b, 0, none⟩) L.length cc ∧ w.heap.size ≤ b ∧ b < w1.heap.size ∧ ∀ j, j < L.length → w1.cell? ⟨b, j, none⟩ = some (.int .i64 (nth (srt L) j))) := by
    intro v w1 hrow
    rcases hrow.2 with ⟨rfl, hz⟩ | ⟨gb, cap, cur, rfl, hbase, hgb, r1, r2, r3, r4⟩
    · exact .inl ⟨rfl, hz⟩
    · refine .inr ⟨gb, cap, rfl, by rw [World.size_alloc] at hbase; omega, (Array.getElem?_eq_some_iff.1 hgb).1, fun j hj => ?_⟩
      have h1 : (cur.toList.take (L.length * 1))[j]? = ((srt L).map encI)[j]? := by rw [r4]
      rw [Nat.mul_one, List.getElem?_take_of_lt hj, List.getElem?_map, List.getElem?_eq_getElem (show j < (srt L).length by omega)] at h1
      simp only [World.cell?, hgb]
      simp only [Option.isSome_none, Bool.false_eq_true, if_false]
      rw [← Array.getElem?_toList, h1, nth_get _ (by omega)]
      rfl
  have HB : Hid (badPlace L → ∀ W, Below w.heap.size w W → OfPost w L (.returned (.tuple #[.slice none 0 0, .int .i64 4])) W) := fun hb W hW => .inl ⟨hb, SPost.none hW 4⟩
  have HG : Hid (¬ badPlace L → ∀ R e w', OfTo (srt L) L.length R → SPost w (dS R) (dE R) e w' → OfPost w L e w') := fun hb R e w' h1 h2 => .inr ⟨hb, R, h1.nf, fun i => by rw [h1.me, ← hsl, List.take_length, srt_mem], h2⟩
  have HI : Hid (0 < L.length → (badPlace L ↔ nth (srt L) 0 < 0 ∨ 1073741824 ≤ nth (srt L) (L.length - 1))) := fun h0 => by rw [← hsl]; exact badPlace_iff L (by omega)
  have HN : Hid (¬ badPlace L → ∀ k, k < L.length → 0 ≤ nth (srt L) k ∧ nth (srt L) k < 1073741824) := fun hb k hk => good_nth hb (by omega)
  have HST : Hid (¬ badPlace L → ∀ k O, k < L.length → OfTo (srt L) k O → OfTo (srt L) (k + 1) (addS O (nth (srt L) k) (nth (srt L) k + 1))) := fun hb k O hk h => h.step (by omega) (good_nth hb (by omega)).1 (good_nth hb (by omega)).2
  have HF : Hid (∀ k, k < L.length → Fits (nth (srt L) k)) := fun k hk => hf _ ((srt_mem L _).1 (by rw [nth_get _ (by omega)]; exact List.getElem_mem _))
  have hbad0 : L.length = 0 → ¬ badPlace L := fun h0 ⟨x, hx, _⟩ => by rw [List.length_eq_zero_iff.1 h0] at hx; cases hx
  obtain ⟨Q, eQ⟩ : ∃ Q, Q = OfPost w L := ⟨_, rfl⟩
  rw [← eQ] at HB HG ⊢
  obtain ⟨n, en⟩ : ∃ n, n = L.length := ⟨_, rfl⟩
  obtain ⟨bad, eb⟩ : ∃ b, b = badPlace L := ⟨_, rfl⟩
  rw [← eb] at HB HG HI HN HST hbad0
  rw [← en] at K HR HG HI HN HST HF hl hbad0 B0 ⊢
  have I0 : Hid (OfTo (srt L) 0 []) := OfTo.start _
  clear h hI c0 hsl hf eQ en eb
  have KV := Lib.hid (values_any w A n c)
  go_enter Tryd.func41, Tryd.ntmps41
  go_wp2_with fail
  refine (KV.out).mono ?_
  rintro e w0 ⟨rfl, rfl⟩
  go_wp2_with fail
  refine (K.out).mono ?_
  rintro e w1 ⟨v, rfl, hrow, hb⟩
  have B1 := Lib.hid (B0.out.trans (hb.mono B0.out.size))
  have hv := HR.out v w1 hrow
  clear hrow hb K KV HR
  rcases hv with ⟨rfl, n0⟩ | ⟨b, cc, rfl, hb1, hb2, hcells⟩
  · subst n0
    have hnb := hbad0 rfl
    go_wp2_with fail
    go_loopw [5, 31] (fun o i wr => o = .slice none 0 0 ∧ i = .int .i64 0 ∧ Hid (Below w.heap.size w wr)) (fun _ _ _ => 0)
    case atStart => exact ⟨rfl, rfl, B1⟩
    case round =>
      obtain ⟨rfl, rfl, hD⟩ := hrel
      have KD := Lib.hid (done_any w wr none 0 [] (seesP_nil _ _) (Nat.le_refl _) (by decide) hD.out)
      go_wp2_with fail
      refine (KD.out).mono ?_
      rintro e w5 ⟨A5, rfl, q1, hb⟩
      have HH := Lib.hid (HG.out hnb [] _ _ I0.out ⟨A5, rfl, q1, hb⟩)
      clear q1 hb KD
      go_wp2_with fail
      exact HH.out
  · by_cases n0 : n = 0
    · subst n0
      have hnb := hbad0 rfl
      clear hcells
      go_wp2_with fail
      go_loopw [5, 31] (fun o i wr => o = .slice none 0 0 ∧ i = .int .i64 0 ∧ Hid (Below w.heap.size w wr)) (fun _ _ _ => 0)
      case atStart => exact ⟨rfl, rfl, B1⟩
      case round =>
        obtain ⟨rfl, rfl, hD⟩ := hrel
        have KD := Lib.hid (done_any w wr none 0 [] (seesP_nil _ _) (Nat.le_refl _) (by decide) hD.out)
        go_wp2_with fail
        refine (KD.out).mono ?_
        rintro e w5 ⟨A5, rfl, q1, hb⟩
        have HH := Lib.hid (HG.out hnb [] _ _ I0.out ⟨A5, rfl, q1, hb⟩)
        clear q1 hb KD
        go_wp2_with fail
        exact HH.out
    · obtain ⟨m, rfl⟩ : ∃ m, n = m + 1 := ⟨n - 1, by omega⟩
      have CE := Lib.hid hcells
      have d0 := hcells 0 (by omega)
      have d1 := hcells m (by omega)
      have hbi := HI.out (by omega)
      rw [Nat.add_sub_cancel] at hbi
      obtain ⟨f01, f02⟩ := HF.out 0 (by omega)
      obtain ⟨f11, f12⟩ := HF.out m (by omega)
      have HBI := Lib.hid hbi
      obtain ⟨x0, ex0⟩ : ∃ x, x = nth (srt L) 0 := ⟨_, rfl⟩
      obtain ⟨xm, exm⟩ : ∃ x, x = nth (srt L) m := ⟨_, rfl⟩
      rw [← ex0] at d0 f01 f02 HBI
      rw [← exm] at d1 f11 f12 HBI
      clear hcells hbi ex0 exm
      by_cases t1 : x0 < 0
      · have H := Lib.hid (HB.out (HBI.out.2 (.inl t1)) w1 B1.out)
        clear HBI
        go_wp2_with fail
        exact H.out
      by_cases t2 : 1073741824 ≤ xm
      · have H := Lib.hid (HB.out (HBI.out.2 (.inr t2)) w1 B1.out)
        clear HBI
        go_wp2_with fail
        exact H.out
      have hnb : ¬ bad := fun hb => by have := HBI.out.1 hb; omega
      have HNB := Lib.hid hnb
      clear HBI hbad0 HB
      go_wp2_with fail
      go_loopw [5, 31] (fun o i wr => ∃ (k : Nat) (O : Sp) (Ao : Option Addr) (co : Nat), k ≤ m + 1 ∧ o = .slice Ao O.length co ∧ i = .int .i64 k ∧ Hid (OwnP wr w1.heap.size Ao co O) ∧ Hid (OfTo (srt L) k O) ∧ Hid (Below w1.heap.size w1 wr)) (fun _ i _ => m + 1 - (intOf i).toNat)
      case atStart => exact ⟨0, [], none, 0, Nat.zero_le _, rfl, rfl, Own.nil _ _ _ _ _, I0, Below.refl _ _⟩
      case round =>
        obtain ⟨k, O, Ao, co, hk, rfl, rfl, hO, hI, hD⟩ := hrel
        clear I0 d0 d1
        by_cases hlt : k < m + 1
        · have dk := (hD.out.cell (p := ⟨b, k, none⟩) hb2).trans (CE.out k hlt)
          obtain ⟨p1, p2⟩ := HN.out HNB.out k hlt
          have ST := Lib.hid (HST.out HNB.out k O hlt hI.out)
          have hlen := NF.len hI.out.nf
          obtain ⟨x, hx⟩ : ∃ x, x = nth (srt L) k := ⟨_, rfl⟩
          rw [← hx] at dk p1 p2 ST
          have KA := Lib.hid (add_any wr w1.heap.size Ao co O x (x + 1) hO.out hD.out.size (by omega) ⟨by omega, by omega⟩ ⟨by omega, by omega⟩ (NF.fits hI.out.nf))
          obtain ⟨O1, eO1⟩ : ∃ O1, O1 = addS O x (x + 1) := ⟨_, rfl⟩
          rw [← eO1] at KA ST
          obtain ⟨nO, enO⟩ : ∃ n, n = O.length := ⟨_, rfl⟩
          rw [← enO] at KA ⊢
          have hki : (k : Int) < (m : Int) + 1 := by omega
          clear hx eO1 enO hO hI hlen
          go_wp2_with fail
          refine (KA.out).mono ?_
          rintro e w5 ⟨A5, c5, rfl, O5, hb, _⟩
          have D5 := Lib.hid (hD.out.trans hb)
          have P5 := Lib.hid O5
          clear hb O5 KA dk
          go_wp2_with fail
          go_roundw
          case rel => exact ⟨k + 1, O1, A5, c5, by omega, rfl, by go_num, P5, ST, D5⟩
          case measure => simp [intOf]; omega
        · obtain rfl : k = m + 1 := by omega
          have KD := Lib.hid (done_any w wr Ao co O (hO.out.sees) hO.out.le (by have := NF.len hI.out.nf; omega) (B1.out.trans (hD.out.mono B1.out.size)))
          go_wp2_with fail
          refine (KD.out).mono ?_
          rintro e w5 ⟨A5, rfl, q1, hb⟩
          have HH := Lib.hid (HG.out HNB.out O _ _ hI.out ⟨A5, rfl, q1, hb⟩)
          clear q1 hb KD
          go_wp2_with fail
          exact HH.out
end Go.Proofs.YteodkmndghaidaaDoor

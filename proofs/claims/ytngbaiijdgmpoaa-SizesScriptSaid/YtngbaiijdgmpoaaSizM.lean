/-
  The reference of layer 6: Remove, Move.
-/
import Derived.Test.YtngbaiijdgmpoaaSizL
import Derived.Test.YtngbaiijdgmpoaaSliceL
namespace Go.Proofs.Ytngbaiijdgmpoaa
open Go.RowKit
set_option linter.unusedVariables false
set_option linter.unusedSimpArgs false

/-- What returns rows and an error. -/
def RwPost (w : World) (R : Rws) (err : Int) (e : Ending) (w' : World) : Prop := ∃ A c, e = .returned (.tuple #[.slice A R.length c, .int .i64 err]) ∧ SeesR w' w'.heap.size A R ∧ Below w.heap.size w w' ∧ R.length ≤ c ∧ c ≤ maxLen
theorem RwPost.no {w W : World} (hb : Below w.heap.size w W) (x : Int) : RwPost w [] x (.returned (.tuple #[.slice none 0 0, .int .i64 x])) W := ⟨none, 0, rfl, Sees.nil, hb, Nat.le_refl _, Nat.zero_le _⟩
theorem clone_R (w : World) {A : Option Addr} {c B : Nat} {L : Rws} (hs : SeesR w B A L) (hB : B ≤ w.heap.size) (hn : L.length ≤ 1000000) :
    ∃ A' c' w', (∀ ty, (Builtin.append_ #[25, 25] ty #[.slice (some ⟨w.heap.size, 0, none⟩) 0 0, .slice A L.length c]).run Try.prog (w.alloc (.cells #[] 44)) = .ok (.slice A' L.length c') w') ∧ OwnR w' w.heap.size A' c' L ∧ Below w.heap.size w w' ∧ c' ≤ maxLen := by
  have L0 : Below w.heap.size w (w.alloc (.cells #[] 44)) := (Below.refl _ w).alloc (Nat.le_refl _) _
  have hO : OwnR (w.alloc (.cells #[] 44)) w.heap.size (some ⟨w.heap.size, 0, none⟩) 0 [] := Own.lit0 w 44 2 (rwf [])
  obtain ⟨A', c', w', run, O, b, m, _⟩ := app_R (w.alloc (.cells #[] 44)) w.heap.size hO (by rw [World.size_alloc]; omega) (c2 := c) ((hs.more hB).below L0) (by show 0 + L.length ≤ _; omega)
  rw [show ([] : Rws).length = 0 from rfl, Nat.zero_add] at run
  rw [List.nil_append] at O
  exact ⟨A', c', w', run, O, L0.trans b, m (Nat.zero_le _)⟩
theorem SeesR.first {w : World} {B : Nat} {A : Option Addr} {L : Rws} (h : SeesR w B A L) (k : Nat) (hk : k ≤ L.length) : SeesR w B A (L.take k) := by
  intro hn
  rw [List.length_take, Nat.min_eq_left hk] at hn
  obtain ⟨b, o, h1, h2, h3⟩ := h (by omega)
  refine ⟨b, o, h1, h2, fun j hj => ?_⟩
  rw [List.length_take, Nat.min_eq_left hk] at hj
  rw [h3 j (by omega)]
  unfold rwf
  have e : rg (L.take k) (j / 2) = rg L (j / 2) := by
    unfold rg; rw [List.getD_eq_getElem?_getD, List.getD_eq_getElem?_getD, List.getElem?_take_of_lt (by omega)]
  rw [e]
theorem SeesR.sub {w : World} {B c : Nat} {A : Option Addr} {L : Rws} (h : SeesR w B A L) (hnc : L.length ≤ c) (lo hi : Nat) (h1 : lo ≤ hi) (h2 : hi ≤ L.length) : SeesR w B (subA A c lo 2) ((L.drop lo).take (hi - lo)) := by
  have h' := sees_sub (sz := 2) (n := L.length) (c := c) (lo := lo) (hi := hi) h hnc h1 h2
  unfold SeesR
  rw [List.length_take, List.length_drop, Nat.min_eq_left (by omega)]
  refine h'.congr fun j hj => ?_
  unfold rwf
  have e : rg ((L.drop lo).take (hi - lo)) (j / 2) = rg L ((lo * 2 + j) / 2) := by
    unfold rg
    rw [List.getD_eq_getElem?_getD, List.getD_eq_getElem?_getD, List.getElem?_take_of_lt (by omega), List.getElem?_drop, show lo + j / 2 = (lo * 2 + j) / 2 from by omega]
  rw [e, show (lo * 2 + j) % 2 = j % 2 from by omega]
theorem infoRow2 : (Try.prog.info? 44).map (·.size) = some 2 := by kernel_rfl
theorem slR_lh (A : Option Addr) (n c lo hi : Nat) (h1 : lo ≤ hi) (h2 : hi ≤ c) : ∀ wx, (Instr.sliceAt 25 (.slice A n c) (some (.int .i64 lo)) (some (.int .i64 hi)) none).run Try.prog wx = .ok (.slice (subA A c lo 2) (hi - lo) (c - lo)) wx :=
  slice_lh Try.underlying25 infoRow2 A n c lo hi h1 h2
theorem slR_h (A : Option Addr) (n c hi : Nat) (h2 : hi ≤ c) : ∀ wx, (Instr.sliceAt 25 (.slice A n c) none (some (.int .i64 hi)) none).run Try.prog wx = .ok (.slice A hi c) wx :=
  slice_h Try.underlying25 infoRow2 A n c hi h2
theorem slR_l (A : Option Addr) (n c lo : Nat) (h2 : lo ≤ n) : ∀ wx, (Instr.sliceAt 25 (.slice A n c) (some (.int .i64 lo)) none none).run Try.prog wx = .ok (.slice (subA A c lo 2) (n - lo) (c - lo)) wx :=
  slice_l Try.underlying25 infoRow2 A n c lo h2
theorem OwnR.see {w : World} {B c : Nat} {A : Option Addr} {L : Rws} (h : OwnR w B A c L) : SeesR w w.heap.size A L := h.sees
set_option maxRecDepth 100000 in
set_option maxHeartbeats 3200000 in
theorem rRemove_any (w : World) (A : Option Addr) (c B : Nat) (L : Rws) (h : SeesR w B A L) (hB : B ≤ w.heap.size) (hnc : L.length ≤ c) (hc : c ≤ maxLen) (hl : L.length ≤ 2000) (i n : Int) (fi : Fits i) (fn : Fits n) :
    Calls Try.prog 25 #[.slice A L.length c, .int .i64 i, .int .i64 n] w (RwPost w (iremTo L i n) (iremErr L i n)) := by
  obtain ⟨fi1, fi2⟩ := fi
  obtain ⟨fn1, fn2⟩ := fn
  have E : Hid (RwPost w [] 4 (.returned (.tuple #[.slice none 0 0, .int .i64 4])) w) := RwPost.no (Below.refl _ _) 4
  unfold iremTo iremErr cutErr
  rw [szs_len]
  by_cases cc : i < 0 ∨ n < 0 ∨ (L.length : Int) < i ∨ (L.length : Int) - i < n
  · rw [if_pos cc, if_neg (by decide)]
    obtain ⟨N, eN⟩ : ∃ N, N = L.length := ⟨_, rfl⟩
    rw [← eN] at cc hl ⊢
    clear h hnc eN
    by_cases c1 : i < 0
    · clear cc
      go_enter Try.func25, Try.ntmps25
      go_wp2_with fail
      go_ret2
      exact E.out
    by_cases c2 : n < 0
    · clear cc
      go_enter Try.func25, Try.ntmps25
      go_wp2_with fail
      go_ret2
      exact E.out
    by_cases c3 : (N : Int) < i
    · clear cc
      go_enter Try.func25, Try.ntmps25
      go_wp2_with fail
      go_ret2
      exact E.out
    · have c4 : (N : Int) - i < n := by omega
      clear cc
      go_enter Try.func25, Try.ntmps25
      go_wp2_with fail
      go_ret2
      exact E.out
  rw [if_neg cc, if_pos rfl]
  obtain ⟨k, rfl⟩ : ∃ k : Nat, i = (k : Int) := ⟨i.toNat, by omega⟩
  obtain ⟨m, rfl⟩ : ∃ k : Nat, n = (k : Int) := ⟨n.toNat, by omega⟩
  rw [Int.toNat_natCast, Int.toNat_natCast]
  have hkm : k + m ≤ L.length := by omega
  have l1 : (L.take k).length = k := by rw [List.length_take]; omega
  have l2 : (L.drop (k + m)).length = L.length - (k + m) := List.length_drop
  have D0 : Below w.heap.size w w.drew := (Below.refl _ _).drew
  obtain ⟨Ac, cc', w2, run, O, hb, hcm⟩ := clone_R w.drew (A := A) (c := c) (L := L.take k) ((h.first k (by omega)).below (D0.mono hB)) hB (by omega)
  rw [l1] at run
  have B2 := D0.trans hb
  have hsub := h.sub hnc (k + m) L.length hkm (Nat.le_refl _)
  rw [List.take_of_length_le (by rw [l2]; exact Nat.le_refl _)] at hsub
  obtain ⟨Ad, cd, w3, run2, O2, hb2, hcm2, _⟩ := app_R w2 w.heap.size O B2.size (c2 := c - (k + m)) (hsub.below (B2.mono hB)) (by omega)
  rw [l1, l2] at run2
  have HH : Hid (RwPost w (remR L k m) 0 (.returned (.tuple #[.slice Ad (k + (L.length - (k + m))) cd, .int .i64 0])) w3) := ⟨Ad, cd, by unfold remR; rw [List.length_append, l1, l2], O2.see, B2.trans hb2, O2.le, hcm2 hcm⟩
  have SA := slR_h A L.length c k (by omega)
  have SB := slR_l A L.length c (k + m) hkm
  rw [Int.natCast_add] at SB
  have hi6 : IntKind.i64.wrap ((k : Int) + (m : Int)) = (k : Int) + (m : Int) := IntWalk.i64_in _ (by omega)
  have R1 := Lib.hid run
  have R2 := Lib.hid run2
  have HB2 := Lib.hid B2
  have HB3 := Lib.hid (B2.trans hb2)
  have S0 := Lib.hid D0
  obtain ⟨N, eN⟩ : ∃ N, N = L.length := ⟨_, rfl⟩
  rw [← eN] at cc hl SA SB R2 HH ⊢
  have c1 : ¬ ((k : Int) < 0) := by omega
  have c2 : ¬ ((m : Int) < 0) := by omega
  have c3 : ¬ ((N : Int) < (k : Int)) := by omega
  have c4 : ¬ ((N : Int) - (k : Int) < (m : Int)) := by omega
  clear run run2 O O2 hb hb2 hcm hcm2 l1 l2 hsub B2 D0 h hnc eN cc hkm
  go_enter Try.func25, Try.ntmps25
  go_wp2_with fail
  refine wp_region_plan [(false, 1), (false, 2), (false, 3), (false, 5), (false, 6), (false, 7), (false, 8), (false, 9), (true, 0), (true, 4), (true, 10), (false, 11), (false, 12)] (Below w.heap.size w) (by kernel_rfl) (by kernel_rfl) (S0.out) _ (by simp only [pickH, List.getElem?_toArray, List.getElem?_cons_succ, List.getElem?_cons_zero]; rfl) ?_
  repeat (refine HWalk.step (fun K hK => ?_); first | (apply held_yes; (focus rfl); (focus (intro w' hw; obtain ⟨hc', hf'⟩ := below_cells hw; go_simp; rfl)); (go_simp; refine hK _ ?_; clear hK K)) | (refine ite_no (by decide) ?_; go_simp; refine hK _ ?_; clear hK K))
  clear SA SB hi6
  refine HWalk.mark ?_
  go_wp2_with fail
  refine ⟨((Below.refl _ w).alloc (Nat.le_refl _) (.cells #[] 44)).drew, ?_⟩
  repeat (refine HWalk.step (fun K hK => ?_); first | (apply held_yes; (focus rfl); (focus (intro w' hw; obtain ⟨hc', hf'⟩ := below_cells hw; go_simp; rfl)); (go_simp; refine hK _ ?_; clear hK K)) | (refine ite_no (by decide) ?_; go_simp; refine hK _ ?_; clear hK K))
  refine HWalk.mark ?_
  go_wp2_with (at_builtin; refine Hid.out ?_)
  refine Lib.hid (Lib.wpList_append_run _ rfl _ _ _ _ rfl _ _ rfl rfl _ _ (R1.out _) ?_)
  go_wp2_with fail
  refine ⟨HB2.out, ?_⟩
  repeat (refine HWalk.step (fun K hK => ?_); first | (apply held_yes; (focus rfl); (focus (intro w' hw; obtain ⟨hc', hf'⟩ := below_cells hw; go_simp; rfl)); (go_simp; refine hK _ ?_; clear hK K)) | (refine ite_no (by decide) ?_; go_simp; refine hK _ ?_; clear hK K))
  refine HWalk.mark ?_
  go_wp2_with (at_builtin; refine Hid.out ?_)
  refine Lib.hid (Lib.wpList_append_run _ rfl _ _ _ _ rfl _ _ rfl rfl _ _ (R2.out _) ?_)
  go_wp2_with fail
  refine ⟨HB3.out, ?_⟩
  repeat (refine HWalk.step (fun K hK => ?_); first | (apply held_yes; (focus rfl); (focus (intro w' hw; obtain ⟨hc', hf'⟩ := below_cells hw; go_simp; rfl)); (go_simp; refine hK _ ?_; clear hK K)) | (refine ite_no (by decide) ?_; go_simp; refine hK _ ?_; clear hK K))
  refine HWalk.done ?_
  go_wp2_with fail
  go_ret2
  exact HH.out
end Go.Proofs.Ytngbaiijdgmpoaa

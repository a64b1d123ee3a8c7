/-
  The reference of layer 4: Rank, Next, Insert, Remove, Move on plain lists of bits.
-/
import Derived.Test.YteodkmndghaidaaDoorFlaQ
import Derived.Test.YteodkmndghaidaaDoorRows
import Derived.Test.YteodkmndghaidaaDoorApp2
import Derived.Test.YteodkmndghaidaaDoorSliceL
import Derived.Test.YteodkmndghaidaaDoorHeld
import Derived.LoopTactic
import Derived.Outline
import Derived.BigQuiet
import Derived.IntWalk
namespace Go.Proofs.YteodkmndghaidaaDoor
open Go.RowKit
set_option linter.unusedVariables false
set_option linter.unusedSimpArgs false

def bvs (l : List Bool) : Nat → Value := fun j => .bool (bt l j)
theorem bvs_at (l : List Bool) (j : Nat) : bvs l j = .bool (bt l j) := rfl
theorem bvs_one (l : List Bool) (j : Nat) : (bvs l j).oneCell' = true := rfl
/-- A slice that shows bits. -/
abbrev SeesF (w : World) (B : Nat) (A : Option Addr) (l : List Bool) : Prop := Sees w B A l.length (bvs l)
abbrev OwnF (w : World) (B : Nat) (A : Option Addr) (c : Nat) (l : List Bool) : Prop := Own w B 4 1 l.length c A (bvs l)
theorem OwnF.see {w : World} {B c : Nat} {A : Option Addr} {L : List Bool} (h : OwnF w B A c L) : SeesF w w.heap.size A L := by
  have := h.sees; rw [Nat.mul_one] at this; exact this
theorem infoB : (Tryd.prog.info? 4).map (fun i => (i.zero, i.size, i.bytes)) = some (some (.bool false), 1, 1) := by kernel_rfl
theorem infoB1 : (Tryd.prog.info? 4).map (·.size) = some 1 := by kernel_rfl
/-- append(own, bits..). -/
theorem app_F (w : World) (B : Nat) {c : Nat} {A : Option Addr} {L : List Bool} (h : OwnF w B A c L) (hB : B ≤ w.heap.size) {A2 : Option Addr} {c2 B2 : Nat} {M : List Bool} (hs : SeesF w B2 A2 M) (hm : L.length + M.length ≤ 1000000000) :
    ∃ A' c' w', (∀ ty, (Builtin.append_ #[22, 22] ty #[.slice A L.length c, .slice A2 M.length c2]).run Tryd.prog w = .ok (.slice A' (L.length + M.length) c') w') ∧ OwnF w' B A' c' (L ++ M) ∧ Below B w w' ∧ (c ≤ maxLen → c' ≤ maxLen) ∧ Fr (fun b => A.map (·.block) = some b) w w' := by
  obtain ⟨A', c', w', run, O, fr, a, m⟩ := own_append2' (P := Tryd.prog) w B Tryd.underlying22 infoB rfl (by omega) Tryd.underlying22 h hB (c2 := c2) (f := bvs M) (by rw [Nat.mul_one]; exact hs) (fun j => bvs_one M j) hm (by omega)
  refine ⟨A', c', w', run, ?_, fr.below hB fun b hb => (h.blk b hb).1, m, fr⟩
  unfold OwnF
  rw [List.length_append]
  exact O.congr fun j hj => by
    rw [Nat.mul_one, bvs_at (L ++ M), bt_app]
    by_cases d : j < L.length
    · rw [if_pos d, if_pos d, bvs_at]
    · rw [if_neg d, if_neg d, bvs_at]
theorem lit_F (w : World) (v : Bool) : SeesF (w.alloc (.cells #[.bool v] 4)) (w.heap.size + 1) (some ⟨w.heap.size, 0, none⟩) [v] := by
  have := Sees.lit w #[.bool v] 4 (bvs [v]) 1 rfl (fun j hj => by
    have : j = 0 := by omega
    subst this; rfl)
  rw [World.size_alloc] at this
  exact this
theorem push_F (w : World) (B : Nat) {c : Nat} {A : Option Addr} {L : List Bool} (h : OwnF w B A c L) (hB : B ≤ w.heap.size) (v : Bool) (hm : L.length ≤ 900000000) :
    ∃ A' c' w', (∀ ty, (Builtin.append_ #[22, 22] ty #[.slice A L.length c, .slice (some ⟨w.heap.size, 0, none⟩) 1 1]).run Tryd.prog (w.alloc (.cells #[.bool v] 4)) = .ok (.slice A' (L.length + 1) c') w') ∧ OwnF w' B A' c' (L ++ [v]) ∧ Below B w w' ∧ (c ≤ maxLen → c' ≤ maxLen) ∧ Fr (fun b => A.map (·.block) = some b) w w' := by
  have L0 : Below w.heap.size w (w.alloc (.cells #[.bool v] 4)) := (Below.refl _ w).alloc (Nat.le_refl _) _
  obtain ⟨A', c', w', h1, h2, h3, h4, h5⟩ := app_F (w.alloc (.cells #[.bool v] 4)) B (h.below L0) (by rw [World.size_alloc]; omega) (c2 := 1) (lit_F w v) (by show L.length + 1 ≤ _; omega)
  exact ⟨A', c', w', h1, h2, (L0.mono hB).trans h3, h4, (Fr.of_below L0).trans h5⟩
theorem clone_F (w : World) {A : Option Addr} {c B : Nat} {L : List Bool} (hs : SeesF w B A L) (hB : B ≤ w.heap.size) (hn : L.length ≤ 1000000) :
    ∃ A' c' w', (∀ ty, (Builtin.append_ #[22, 22] ty #[.slice (some ⟨w.heap.size, 0, none⟩) 0 0, .slice A L.length c]).run Tryd.prog (w.alloc (.cells #[] 4)) = .ok (.slice A' L.length c') w') ∧ OwnF w' w.heap.size A' c' L ∧ Below w.heap.size w w' ∧ c' ≤ maxLen := by
  have L0 : Below w.heap.size w (w.alloc (.cells #[] 4)) := (Below.refl _ w).alloc (Nat.le_refl _) _
  have hO : OwnF (w.alloc (.cells #[] 4)) w.heap.size (some ⟨w.heap.size, 0, none⟩) 0 [] := Own.lit0 w 4 1 (bvs [])
  obtain ⟨A', c', w', run, O, b, m, _⟩ := app_F (w.alloc (.cells #[] 4)) w.heap.size hO (by rw [World.size_alloc]; omega) (c2 := c) ((hs.more hB).below L0) (by show 0 + L.length ≤ _; omega)
  rw [show ([] : List Bool).length = 0 from rfl, Nat.zero_add] at run
  rw [List.nil_append] at O
  exact ⟨A', c', w', run, O, L0.trans b, m (Nat.zero_le _)⟩
theorem SeesF.first {w : World} {B : Nat} {A : Option Addr} {L : List Bool} (h : SeesF w B A L) (k : Nat) (hk : k ≤ L.length) : SeesF w B A (L.take k) := by
  intro hn
  rw [List.length_take, Nat.min_eq_left hk] at hn
  obtain ⟨b, o, h1, h2, h3⟩ := h (by omega)
  refine ⟨b, o, h1, h2, fun j hj => ?_⟩
  rw [List.length_take, Nat.min_eq_left hk] at hj
  rw [h3 j (by omega), bvs_at, bvs_at, bt_take hj]
theorem SeesF.sub {w : World} {B c : Nat} {A : Option Addr} {L : List Bool} (h : SeesF w B A L) (hnc : L.length ≤ c) (lo hi : Nat) (h1 : lo ≤ hi) (h2 : hi ≤ L.length) : SeesF w B (subA A c lo 1) ((L.drop lo).take (hi - lo)) := by
  have h' := sees_sub (sz := 1) (n := L.length) (c := c) (lo := lo) (hi := hi) (F := bvs L) (by rw [Nat.mul_one]; exact h) hnc h1 h2
  unfold SeesF
  rw [List.length_take, List.length_drop, Nat.min_eq_left (by omega)]
  rw [Nat.mul_one] at h'
  refine h'.congr fun j hj => ?_
  rw [bvs_at, bvs_at, bt_take hj, bt_drop, Nat.mul_one]
theorem SeesF.rest {w : World} {B c : Nat} {A : Option Addr} {L : List Bool} (h : SeesF w B A L) (hnc : L.length ≤ c) (lo : Nat) (h1 : lo ≤ L.length) : SeesF w B (subA A c lo 1) (L.drop lo) := by
  have := h.sub hnc lo L.length h1 (Nat.le_refl _)
  rwa [List.take_of_length_le (by rw [List.length_drop]; exact Nat.le_refl _)] at this
theorem slF_lh (A : Option Addr) (n c lo hi : Nat) (h1 : lo ≤ hi) (h2 : hi ≤ c) : ∀ wx, (Instr.sliceAt 22 (.slice A n c) (some (.int .i64 lo)) (some (.int .i64 hi)) none).run Tryd.prog wx = .ok (.slice (subA A c lo 1) (hi - lo) (c - lo)) wx :=
  slice_lh Tryd.underlying22 infoB1 A n c lo hi h1 h2
theorem slF_h (A : Option Addr) (n c hi : Nat) (h2 : hi ≤ c) : ∀ wx, (Instr.sliceAt 22 (.slice A n c) none (some (.int .i64 hi)) none).run Tryd.prog wx = .ok (.slice A hi c) wx :=
  slice_h Tryd.underlying22 infoB1 A n c hi h2
theorem slF_l (A : Option Addr) (n c lo : Nat) (h2 : lo ≤ n) : ∀ wx, (Instr.sliceAt 22 (.slice A n c) (some (.int .i64 lo)) none none).run Tryd.prog wx = .ok (.slice (subA A c lo 1) (n - lo) (c - lo)) wx :=
  slice_l Tryd.underlying22 infoB1 A n c lo h2

set_option maxRecDepth 100000 in
set_option maxHeartbeats 800000 in
theorem rRank_any (w : World) (A : Option Addr) (c B : Nat) (L : List Bool) (h : SeesF w B A L) (k : Nat) (hk : k ≤ L.length) (hl : L.length ≤ 1000000) :
    Calls Tryd.prog 13 #[.slice A L.length c, .int .i64 k] w fun e w' => e = .returned (.int .i64 (cnt (bt L) k)) ∧ w = w' := by
  have HS := Lib.hid h
  obtain ⟨n, en⟩ : ∃ n, n = L.length := ⟨_, rfl⟩
  rw [← en] at hk hl ⊢
  have EN := Lib.hid en
  clear en h
  go_enter Tryd.func13, Tryd.ntmps13
  go_wp2_with fail
  go_loopw [5, 6] (fun s i wr => ∃ j : Nat, j ≤ k ∧ s = .int .i64 (cnt (bt L) j) ∧ i = .int .i64 j ∧ Hid (w = wr)) (fun _ i _ => k - (intOf i).toNat)
  case atStart => exact ⟨0, Nat.zero_le _, rfl, rfl, rfl⟩
  case round =>
    obtain ⟨j, hj, rfl, rfl, hw⟩ := hrel
    have q := cnt_le (bt L) j
    by_cases hlt : j < k
    · obtain ⟨b, o, rfl, hb, hc⟩ := HS.out.at_ (k := j) (by rw [← EN.out]; omega)
      rw [bvs_at, hw.out] at hc
      have hji : (j : Int) < (k : Int) := by omega
      have hjn : (j : Int) < (n : Int) := by omega
      have HC := Lib.hid (cnt_succ (bt L) j)
      cases e : bt L j with
      | false =>
        rw [e] at hc HC
        have X : cnt (bt L) (j + 1) = cnt (bt L) j := HC.out
        go_wp2_with fail
        go_roundw
        case rel => exact ⟨j + 1, by omega, by rw [X], by go_num, hw⟩
        case measure => simp [intOf]; omega
      | true =>
        rw [e] at hc HC
        have X : cnt (bt L) (j + 1) = cnt (bt L) j + 1 := HC.out
        have X := Lib.hid X
        go_wp2_with fail
        go_roundw
        case rel => exact ⟨j + 1, by omega, by rw [X.out]; go_num, by go_num, hw⟩
        case measure => simp [intOf]; omega
    · obtain rfl : j = k := by omega
      go_wp2_with fail
      go_ret
      exact ⟨rfl, hw.out⟩

set_option maxRecDepth 100000 in
set_option maxHeartbeats 800000 in
theorem rNext_any (w : World) (A : Option Addr) (c B : Nat) (L : List Bool) (h : SeesF w B A L) (i : Nat) (hi : i ≤ L.length) (hl : L.length ≤ 1000000) (v : Bool) :
    Calls Tryd.prog 17 #[.slice A L.length c, .int .i64 i, .bool v] w fun e w' => ((∃ t : Nat, e = .returned (.int .i64 t) ∧ i ≤ t ∧ t < L.length ∧ bt L t = v ∧ ∀ j, i ≤ j → j < t → bt L j = !v) ∨ (e = .returned (.int .i64 (-1)) ∧ ∀ j, i ≤ j → j < L.length → bt L j = !v)) ∧ w = w' := by
  have HS := Lib.hid h
  obtain ⟨n, en⟩ : ∃ n, n = L.length := ⟨_, rfl⟩
  rw [← en] at hi hl ⊢
  have EN := Lib.hid en
  clear en h
  go_enter Tryd.func17, Tryd.ntmps17
  go_wp2_with fail
  go_loopw [7] (fun i' wr => ∃ k : Nat, k ≤ n ∧ i ≤ k ∧ i' = .int .i64 k ∧ Hid (∀ j, i ≤ j → j < k → bt L j = !v) ∧ Hid (w = wr)) (fun i' _ => n - (intOf i').toNat)
  case atStart => exact ⟨i, hi, Nat.le_refl _, rfl, fun j h1 h2 => by omega, rfl⟩
  case round =>
    obtain ⟨k, hk, hik, rfl, hf, hw⟩ := hrel
    by_cases hlt : k < n
    · obtain ⟨b, o, rfl, hb, hc⟩ := HS.out.at_ (k := k) (by rw [← EN.out]; omega)
      rw [bvs_at, hw.out] at hc
      have hkn : (k : Int) < (n : Int) := by omega
      by_cases e : bt L k = v
      · have E := Lib.hid e
        have be : (bt L k == v) = true := by rw [e]; exact beq_self_eq_true v
        clear e
        go_wp2_with fail
        go_ret
        exact ⟨.inl ⟨k, rfl, hik, hlt, E.out, hf.out⟩, hw.out⟩
      · have be : (bt L k == v) = false := by rw [beq_eq_false_iff_ne]; exact e
        have E : Hid (bt L k = !v) := by show _ = _; cases v <;> cases q : bt L k <;> simp_all
        clear e
        go_wp2_with fail
        go_roundw
        case rel => exact ⟨k + 1, by omega, by omega, by go_num, fun j h1 h2 => by
          by_cases d : j = k
          · rw [d]; exact E.out
          · exact hf.out j h1 (by omega), hw⟩
        case measure => simp [intOf]; omega
    · obtain rfl : k = n := by omega
      go_wp2_with fail
      go_ret
      exact ⟨.inr ⟨rfl, hf.out⟩, hw.out⟩

/-- What returns bits and an error. -/
def FPost (w : World) (R : List Bool) (err : Int) (e : Ending) (w' : World) : Prop := ∃ A c, e = .returned (.tuple #[.slice A R.length c, .int .i64 err]) ∧ SeesF w' w'.heap.size A R ∧ Below w.heap.size w w' ∧ R.length ≤ c ∧ c ≤ maxLen
theorem FPost.same {w W : World} {A : Option Addr} {c B : Nat} {L : List Bool} (h : SeesF w B A L) (hB : B ≤ w.heap.size) (hnc : L.length ≤ c) (hc : c ≤ maxLen) (hb : Below w.heap.size w W) (x : Int) : FPost w L x (.returned (.tuple #[.slice A L.length c, .int .i64 x])) W :=
  ⟨A, c, rfl, ((h.more hB).below hb).more hb.size, hb, hnc, hc⟩
def fRem (L : List Bool) (k m : Nat) : List Bool := L.take k ++ L.drop (k + m)
def fRemErr (L : List Bool) (i n : Int) : Int := if i < 0 ∨ n < 0 ∨ (L.length : Int) < i ∨ (L.length : Int) - i < n then 4 else 0
def fRemTo (L : List Bool) (i n : Int) : List Bool := if fRemErr L i n = 0 then fRem L i.toNat n.toNat else L
theorem fRem_len {L : List Bool} {k m : Nat} (h : k + m ≤ L.length) : (fRem L k m).length = L.length - m := by
  unfold fRem; rw [List.length_append, List.length_take, List.length_drop]; omega
set_option maxRecDepth 100000 in
set_option maxHeartbeats 3200000 in
theorem rRem_any (w : World) (A : Option Addr) (c B : Nat) (L : List Bool) (h : SeesF w B A L) (hB : B ≤ w.heap.size) (hnc : L.length ≤ c) (hc : c ≤ maxLen) (hl : L.length ≤ 100000) (i n : Int) (fi : Fits i) (fn : Fits n) :
    Calls Tryd.prog 23 #[.slice A L.length c, .int .i64 i, .int .i64 n] w (FPost w (fRemTo L i n) (fRemErr L i n)) := by
  obtain ⟨fi1, fi2⟩ := fi
  obtain ⟨fn1, fn2⟩ := fn
  have E : Hid (FPost w L 4 (.returned (.tuple #[.slice A L.length c, .int .i64 4])) w) := FPost.same h hB hnc hc (Below.refl _ _) 4
  unfold fRemTo fRemErr
  by_cases cc : i < 0 ∨ n < 0 ∨ (L.length : Int) < i ∨ (L.length : Int) - i < n
  · rw [if_pos cc, if_neg (by decide)]
    obtain ⟨N, eN⟩ : ∃ N, N = L.length := ⟨_, rfl⟩
    rw [← eN] at cc hl E ⊢
    clear h hnc eN
    by_cases c1 : i < 0
    · clear cc
      go_enter Tryd.func23, Tryd.ntmps23
      go_wp2_with fail
      go_ret2
      exact E.out
    by_cases c2 : n < 0
    · clear cc
      go_enter Tryd.func23, Tryd.ntmps23
      go_wp2_with fail
      go_ret2
      exact E.out
    by_cases c3 : (N : Int) < i
    · clear cc
      go_enter Tryd.func23, Tryd.ntmps23
      go_wp2_with fail
      go_ret2
      exact E.out
    · have c4 : (N : Int) - i < n := by omega
      clear cc
      go_enter Tryd.func23, Tryd.ntmps23
      go_wp2_with fail
      go_ret2
      exact E.out
  rw [if_neg cc, if_pos rfl]
  obtain ⟨k, rfl⟩ : ∃ k : Nat, i = (k : Int) := ⟨i.toNat, by omega⟩
  obtain ⟨m, rfl⟩ : ∃ k : Nat, n = (k : Int) := ⟨n.toNat, by omega⟩
  rw [Int.toNat_natCast, Int.toNat_natCast]
  have hkm : k + m ≤ L.length := by omega
  have l1 : (L.take k).length = k := by rw [List.length_take]; omega
  have l2 : (L.drop (k + m)).length = L.length - (k + m) := List.length_drop
  have D0 : Below w.heap.size w w.drew := (Below.refl _ _).drew
  obtain ⟨Ac, cc', w2, run, O, hb, hcm⟩ := clone_F w.drew (A := A) (c := c) (L := L.take k) ((SeesF.first h k (by omega)).below (D0.mono hB)) hB (by omega)
  rw [l1] at run
  have B2 := D0.trans hb
  have hsub := SeesF.rest h hnc (k + m) hkm
  obtain ⟨Ad, cd, w3, run2, O2, hb2, hcm2, _⟩ := app_F w2 w.heap.size O B2.size (c2 := c - (k + m)) (hsub.below (B2.mono hB)) (by omega)
  rw [l1, l2] at run2
  have HH : Hid (FPost w (fRem L k m) 0 (.returned (.tuple #[.slice Ad (k + (L.length - (k + m))) cd, .int .i64 0])) w3) := ⟨Ad, cd, by unfold fRem; rw [List.length_append, l1, l2], OwnF.see O2, B2.trans hb2, O2.le, hcm2 hcm⟩
  have SA := slF_h A L.length c k (by omega)
  have SB := slF_l A L.length c (k + m) hkm
  rw [Int.natCast_add] at SB
  have hi6 : IntKind.i64.wrap ((k : Int) + (m : Int)) = (k : Int) + (m : Int) := IntWalk.i64_in _ (by omega)
  have R1 := Lib.hid run
  have R2 := Lib.hid run2
  have HB2 := Lib.hid B2
  have HB3 := Lib.hid (B2.trans hb2)
  have S0 := Lib.hid D0
  obtain ⟨N, eN⟩ : ∃ N, N = L.length := ⟨_, rfl⟩
  rw [← eN] at cc hl SA SB R2 HH ⊢
  have c1 : ¬ ((k : Int) < 0) := by omega
  have c2 : ¬ ((m : Int) < 0) := by omega
  have c3 : ¬ ((N : Int) < (k : Int)) := by omega
  have c4 : ¬ ((N : Int) - (k : Int) < (m : Int)) := by omega
  clear run run2 O O2 hb hb2 hcm hcm2 l1 l2 hsub B2 D0 h hnc eN cc hkm E
  go_enter Tryd.func23, Tryd.ntmps23
  go_wp2_with fail
  refine wp_region_plan [(false, 1), (false, 2), (false, 3), (false, 5), (false, 6), (false, 7), (false, 8), (false, 9), (true, 0), (true, 4), (true, 10), (false, 11), (false, 12)] (Below w.heap.size w) (by kernel_rfl) (by kernel_rfl) (S0.out) _ (by simp only [pickH, List.getElem?_toArray, List.getElem?_cons_succ, List.getElem?_cons_zero]; rfl) ?_
  repeat (refine HWalk.step (fun K hK => ?_); first | (apply held_yes; (focus rfl); (focus (intro w' hw; obtain ⟨hc', hf'⟩ := below_cells hw; go_simp; rfl)); (go_simp; refine hK _ ?_; clear hK K)) | (refine ite_no (by decide) ?_; go_simp; refine hK _ ?_; clear hK K))
  clear SA SB hi6
  refine HWalk.mark ?_
  go_wp2_with fail
  refine ⟨((Below.refl _ w).alloc (Nat.le_refl _) (.cells #[] 4)).drew, ?_⟩
  repeat (refine HWalk.step (fun K hK => ?_); first | (apply held_yes; (focus rfl); (focus (intro w' hw; obtain ⟨hc', hf'⟩ := below_cells hw; go_simp; rfl)); (go_simp; refine hK _ ?_; clear hK K)) | (refine ite_no (by decide) ?_; go_simp; refine hK _ ?_; clear hK K))
  refine HWalk.mark ?_
  go_wp2_with (at_builtin; refine Hid.out ?_)
  refine Lib.hid (Lib.wpList_append_run _ rfl _ _ _ _ rfl _ _ rfl rfl _ _ (R1.out _) ?_)
  go_wp2_with fail
  refine ⟨HB2.out, ?_⟩
  repeat (refine HWalk.step (fun K hK => ?_); first | (apply held_yes; (focus rfl); (focus (intro w' hw; obtain ⟨hc', hf'⟩ := below_cells hw; go_simp; rfl)); (go_simp; refine hK _ ?_; clear hK K)) | (refine ite_no (by decide) ?_; go_simp; refine hK _ ?_; clear hK K))
  refine HWalk.mark ?_
  go_wp2_with (at_builtin; refine Hid.out ?_)
  refine Lib.hid (Lib.wpList_append_run _ rfl _ _ _ _ rfl _ _ rfl rfl _ _ (R2.out _) ?_)
  go_wp2_with fail
  refine ⟨HB3.out, ?_⟩
  repeat (refine HWalk.step (fun K hK => ?_); first | (apply held_yes; (focus rfl); (focus (intro w' hw; obtain ⟨hc', hf'⟩ := below_cells hw; go_simp; rfl)); (go_simp; refine hK _ ?_; clear hK K)) | (refine ite_no (by decide) ?_; go_simp; refine hK _ ?_; clear hK K))
  refine HWalk.done ?_
  go_wp2_with fail
  go_ret2
  exact HH.out
end Go.Proofs.YteodkmndghaidaaDoor

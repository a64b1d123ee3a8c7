/-
  Law package 06: I.Rows and I.Of.
-/
import Derived.Test.YtngbaiijdgmpoaaSizI
import Derived.Test.YtngbaiijdgmpoaaApp2
import Derived.BigQuiet
namespace Go.Proofs.Ytngbaiijdgmpoaa
open Go.RowKit
set_option linter.unusedVariables false
set_option linter.unusedSimpArgs false

theorem infoRow : (Try.prog.info? 44).map (fun i => (i.zero, i.size, i.bytes)) = some (some (.agg #[.int .i64 0, .bool false]), 2, 16) := by kernel_rfl
abbrev OwnR (w : World) (B : Nat) (A : Option Addr) (c : Nat) (R : Rws) : Prop := Own w B 44 2 R.length c A (rwf R)
theorem rg_app (L M : Rws) (k : Nat) : rg (L ++ M) k = if k < L.length then rg L k else rg M (k - L.length) := by
  unfold rg
  rw [List.getD_eq_getElem?_getD, List.getD_eq_getElem?_getD, List.getD_eq_getElem?_getD]
  by_cases c : k < L.length
  · rw [if_pos c, List.getElem?_append_left c]
  · rw [if_neg c, List.getElem?_append_right (by omega)]
theorem rwf_app (L M : Rws) (j : Nat) : rwf (L ++ M) j = if j < L.length * 2 then rwf L j else rwf M (j - L.length * 2) := by
  unfold rwf
  rw [rg_app]
  by_cases d : j < L.length * 2
  · rw [if_pos d, if_pos (show j / 2 < L.length by omega)]
  · rw [if_neg d, if_neg (show ¬ j / 2 < L.length by omega), show (j - L.length * 2) % 2 = j % 2 from by omega, show (j - L.length * 2) / 2 = j / 2 - L.length from by omega]
theorem rwf_one (R : Rws) (j : Nat) : (rwf R j).oneCell' = true := by
  rcases rwf_ib R j with ⟨k, x, h⟩ | ⟨b, h⟩ <;> (rw [h]; rfl)
/-- append(own, rows..). -/
theorem app_R (w : World) (B : Nat) {c : Nat} {A : Option Addr} {L : Rws} (h : OwnR w B A c L) (hB : B ≤ w.heap.size) {A2 : Option Addr} {c2 B2 : Nat} {M : Rws} (hs : SeesR w B2 A2 M) (hm : L.length + M.length ≤ 1000000000) :
    ∃ A' c' w', (∀ ty, (Builtin.append_ #[25, 25] ty #[.slice A L.length c, .slice A2 M.length c2]).run Try.prog w = .ok (.slice A' (L.length + M.length) c') w') ∧ OwnR w' B A' c' (L ++ M) ∧ Below B w w' ∧ (c ≤ maxLen → c' ≤ maxLen) ∧ Fr (fun b => A.map (·.block) = some b) w w' := by
  obtain ⟨A', c', w', run, O, fr, a, m⟩ := own_append2' (P := Try.prog) w B Try.underlying25 infoRow rfl (by omega) Try.underlying25 h hB (c2 := c2) hs (fun j => rwf_one M j) hm (by omega)
  refine ⟨A', c', w', run, ?_, fr.below hB fun b hb => (h.blk b hb).1, m, fr⟩
  unfold OwnR
  rw [List.length_append]
  exact O.congr fun j hj => by rw [rwf_app]
theorem lit_R (w : World) (x : Int) (b : Bool) : SeesR (w.alloc (.cells #[.int .i64 x, .bool b] 44)) (w.heap.size + 1) (some ⟨w.heap.size, 0, none⟩) [(x, b)] := by
  have := Sees.lit w #[.int .i64 x, .bool b] 44 (rwf [(x, b)]) 2 rfl (fun j hj => by
    have : j = 0 ∨ j = 1 := by omega
    rcases this with rfl | rfl <;> rfl)
  rw [World.size_alloc] at this
  exact this
theorem push_R (w : World) (B : Nat) {c : Nat} {A : Option Addr} {L : Rws} (h : OwnR w B A c L) (hB : B ≤ w.heap.size) (x : Int) (b : Bool) (hm : L.length ≤ 900000000) :
    ∃ A' c' w', (∀ ty, (Builtin.append_ #[25, 25] ty #[.slice A L.length c, .slice (some ⟨w.heap.size, 0, none⟩) 1 1]).run Try.prog (w.alloc (.cells #[.int .i64 x, .bool b] 44)) = .ok (.slice A' (L.length + 1) c') w') ∧ OwnR w' B A' c' (L ++ [(x, b)]) ∧ Below B w w' ∧ (c ≤ maxLen → c' ≤ maxLen) ∧ Fr (fun b => A.map (·.block) = some b) w w' := by
  have L0 : Below w.heap.size w (w.alloc (.cells #[.int .i64 x, .bool b] 44)) := (Below.refl _ w).alloc (Nat.le_refl _) _
  obtain ⟨A', c', w', h1, h2, h3, h4, h5⟩ := app_R (w.alloc (.cells #[.int .i64 x, .bool b] 44)) B (h.below L0) (by rw [World.size_alloc]; omega) (c2 := 1) (lit_R w x b) (by show L.length + 1 ≤ _; omega)
  exact ⟨A', c', w', h1, h2, (L0.mono hB).trans h3, h4, (Fr.of_below L0).trans h5⟩

/-- The rows of an I. -/
def u8r (f : Nat → Int) : Nat → Value := fun j => .int .u8 (f j)
theorem u8r_at (f : Nat → Int) (k : Nat) : u8r f k = .int .u8 (f k) := rfl
def irow0 (f : Nat → Int) (j : Nat) : Int × Bool := (1 + f j % 16, decide (127 < f j))
def irow (f : Nat → Int) (g : Bool) (j : Nat) : Int × Bool := (if j = 0 ∧ g = true then 2305843009213693952 else 1 + f j % 16, decide (127 < f j))
def upR (r : Nat → Int × Bool) (k : Nat) : Rws := (List.range k).map r
theorem upR_len (r : Nat → Int × Bool) (k : Nat) : (upR r k).length = k := by simp [upR]
theorem upR_succ (r : Nat → Int × Bool) (k : Nat) : upR r (k + 1) = upR r k ++ [r k] := by simp [upR, List.range_succ]
theorem upR_take (r : Nat → Int × Bool) {k n : Nat} (h : k ≤ n) : (upR r n).take k = upR r k := by
  unfold upR; rw [← List.map_take, List.take_range, Nat.min_eq_left h]
theorem upR_rg (r : Nat → Int × Bool) {k n : Nat} (h : k < n) : rg (upR r n) k = r k := by
  rw [rg_get _ (by rw [upR_len]; exact h)]; simp [upR]
theorem upR_sum (r : Nat → Int × Bool) (k : Nat) : (szs (upR r (k + 1))).sum = (szs (upR r k)).sum + (r k).1 := by
  rw [upR_succ, szs_app, List.sum_append]; simp [szs]
def irows (f : Nat → Int) (m : Nat) (g : Bool) : Rws := upR (irow f g) (min m 60)
structure IOk (R : Rws) : Prop where
  ok : LOk (szs R)
  ps : ∀ x ∈ szs R, 1 ≤ x ∧ x ≤ 2305843009213693952
  len : R.length ≤ 60
theorem irow_bd (f : Nat → Int) (g : Bool) (j : Nat) : 1 ≤ (irow f g j).1 ∧ (irow f g j).1 ≤ 2305843009213693952 := by
  unfold irow
  dsimp only
  split <;> omega
theorem irows_sum (f : Nat → Int) (g : Bool) : ∀ k, 0 ≤ (szs (upR (irow f g) k)).sum ∧ (szs (upR (irow f g) k)).sum ≤ 2305843009213693952 + 16 * k := by
  intro k
  induction k with
  | zero => show (0 : Int) ≤ 0 ∧ (0 : Int) ≤ _; omega
  | succ k ih =>
    rw [upR_sum]
    obtain ⟨h1, h2⟩ := ih
    by_cases c : k = 0 ∧ g = true
    · have e : (irow f g k).1 = 2305843009213693952 := if_pos c
      obtain ⟨rfl, _⟩ := c
      have : (szs (upR (irow f g) 0)).sum = 0 := rfl
      omega
    · have e : (irow f g k).1 = 1 + f k % 16 := if_neg c
      omega
theorem irows_ok (f : Nat → Int) (m : Nat) (g : Bool) : IOk (irows f m g) := by
  have hp : ∀ x ∈ szs (irows f m g), 1 ≤ x ∧ x ≤ 2305843009213693952 := fun x hx => by
    unfold szs irows upR at hx
    rw [List.map_map] at hx
    obtain ⟨j, _, rfl⟩ := List.mem_map.1 hx
    exact irow_bd f g j
  have hl : (irows f m g).length ≤ 60 := by unfold irows; rw [upR_len]; omega
  refine ⟨⟨fun x hx => by have := (hp x hx).1; omega, by rw [szs_len]; omega, ?_⟩, hp, hl⟩
  have := (irows_sum f g (min m 60)).2
  unfold irows
  omega
set_option maxRecDepth 100000 in
set_option maxHeartbeats 3200000 in
theorem Rows_any (w : World) (A : Option Addr) (m c : Nat) (f : Nat → Int) (g : Bool) (hs : Sees w w.heap.size A m (u8r f)) (hf : ∀ j, j < m → 0 ≤ f j ∧ f j ≤ 255) (hm : m ≤ maxLen) :
    Calls Try.prog 8 #[.agg #[.slice A m c, .bool g]] w fun e w' => ∃ A' c', e = .returned (.slice A' (irows f m g).length c') ∧ SeesR w' w'.heap.size A' (irows f m g) ∧ Below w.heap.size w w' ∧ (irows f m g).length ≤ c' ∧ c' ≤ maxLen := by
  have B0 : Hid (Below w.heap.size w (w.alloc (.cells #[.slice A m c, .bool g] 24))) := (Below.refl _ w).alloc (Nat.le_refl _) _
  have V0 : Hid ((w.alloc (.cells #[.slice A m c, .bool g] 24)).rowIs w.heap.size 24 2 (fun j => if j = 0 then .slice A m c else .bool g)) := World.rowIs_alloc w #[.slice A m c, .bool g] _ _ (fun j hj => by
    have : j = 0 ∨ j = 1 := by simp at hj; omega
    rcases this with rfl | rfl <;> rfl)
  have S0 := Lib.hid (hs.below B0.out)
  have HF := Lib.hid hf
  have hm2 : m ≤ 9223372036854775807 := by simpa [maxLen] using hm
  clear hs hf hm
  obtain ⟨N, eN⟩ : ∃ N, N = min m 60 := ⟨_, rfl⟩
  have EI : Hid (irows f m g = upR (irow f g) N) := by rw [eN]; rfl
  rw [EI.out, upR_len]
  have EN : Hid (∀ k : Nat, k < N ↔ k < m ∧ k < 60) := fun k => by omega
  have hN : N ≤ 60 := by omega
  clear eN
  obtain ⟨w0, e0⟩ : ∃ w0, w0 = w.alloc (.cells #[.slice A m c, .bool g] 24) := ⟨_, rfl⟩
  go_enter Try.func8, Try.ntmps8
  go_wp2_with fail
  change Code.wp _ _ _ _ (w.alloc _)
  rw [← e0] at B0 V0 S0 ⊢
  have lt0 : w.heap.size < w0.heap.size := by rw [e0, World.size_alloc]; omega
  clear e0
  go_loopw [3, 4] (fun o i wr => ∃ (k cc : Nat) (A' : Option Addr), i = .int .i64 k ∧ o = .slice A' k cc ∧ k ≤ N ∧ cc ≤ maxLen ∧ Hid (OwnR wr w0.heap.size A' cc (upR (irow0 f) k)) ∧ Hid (Below w0.heap.size w0 wr)) (fun _ i _ => N - (intOf i).toNat)
  case atStart => exact ⟨0, 0, none, rfl, rfl, Nat.zero_le _, Nat.zero_le _, Own.nil _ _ _ _ _, Below.refl _ _⟩
  case round =>
    obtain ⟨k, cc, A', rfl, rfl, hk, hcc, hO, hB⟩ := hrel
    have V1 := Lib.hid (V0.out.of_block (hB.out.block _ lt0))
    have d0 := V1.out.cell (i := 0) (by omega)
    have d1 := V1.out.cell (i := 1) (by omega)
    rw [if_pos rfl] at d0
    rw [if_neg (by decide)] at d1
    by_cases hlt : k < N
    · obtain ⟨b, o, rfl, lb, hc⟩ := (S0.out.below (hB.out.mono B0.out.size)).at_ (show k < m from ((EN.out k).1 hlt).1)
      have k1 := ((EN.out k).1 hlt).1
      have k2 := ((EN.out k).1 hlt).2
      rw [u8r_at] at hc
      obtain ⟨f1, f2⟩ := HF.out k k1
      have hO2 := hO.out.below ((Below.refl wr.heap.size wr).drew)
      have hl := hB.out.size
      obtain ⟨A2, c2, w2, run, O2, bl, mx, _⟩ := push_R wr.drew w0.heap.size hO2 hl (1 + f k % 16) (decide (127 < f k)) (by rw [upR_len]; omega)
      rw [upR_len] at run
      have RUN := Lib.hid run
      have O3 : Hid (OwnR w2 w0.heap.size A2 c2 (upR (irow0 f) (k + 1))) := by rw [upR_succ]; exact O2
      have B3 : Hid (Below w0.heap.size w0 w2) := hB.out.trans (((Below.refl _ wr).drew).trans bl)
      have hc2 := mx hcc
      have lt1 : w.heap.size < wr.heap.size := by omega
      have lb2 : b < wr.heap.size := by omega
      have wr1 : IntKind.i64.wrap (1 + f k % 16) = 1 + f k % 16 := IntWalk.i64_in _ (by omega)
      have wr2 : IntKind.i64.wrap (f k % 16) = f k % 16 := IntWalk.i64_in _ (by omega)
      clear run O2 bl mx hO hO2
      have S1 : Hid (Below w0.heap.size w0 wr.drew) := hB.out.drew
      have S2 : Hid (∀ o, Below w0.heap.size w0 (wr.drew.alloc o)) := fun o => S1.out.alloc hl _
      go_wp2_with fail
      have z0 := V0.out.cell (i := 0) (by omega)
      have z1 := V0.out.cell (i := 1) (by omega)
      rw [if_pos rfl] at z0
      rw [if_neg (by decide)] at z1
      have hc0 := (hB.out.cell (p := ⟨b, o + k, none⟩) (Nat.lt_of_lt_of_le lb B0.out.size)).symm.trans hc
      have lb3 : b < w0.heap.size := Nat.lt_of_lt_of_le lb B0.out.size
      clear d0 d1 hc hl lt1 lb2
      refine wp_region_plan [(false, 0), (false, 1), (false, 2), (false, 3), (false, 4), (false, 5), (false, 6), (false, 7), (false, 8), (false, 9), (false, 10), (false, 11), (false, 12), (false, 13), (false, 14), (false, 15), (true, 16), (true, 17), (false, 18)] (Below w0.heap.size w0) (by kernel_rfl) (by kernel_rfl) (S1.out) _ (by simp only [pickH, List.getElem?_toArray, List.getElem?_cons_succ, List.getElem?_cons_zero]; rfl) ?_
      repeat (refine HWalk.step (fun K hK => ?_); first | (apply held_yes; (focus rfl); (focus (intro w' hw; obtain ⟨hc', hf'⟩ := below_cells hw; go_simp; rfl)); (go_simp; refine hK _ ?_; clear hK K)) | (refine ite_no (by decide) ?_; go_simp; refine hK _ ?_; clear hK K))
      refine HWalk.mark ?_
      go_wp2_with fail
      refine ⟨(S2.out _), ?_⟩
      repeat (refine HWalk.step (fun K hK => ?_); first | (apply held_yes; (focus rfl); (focus (intro w' hw; obtain ⟨hc', hf'⟩ := below_cells hw; go_simp; rfl)); (go_simp; refine hK _ ?_; clear hK K)) | (refine ite_no (by decide) ?_; go_simp; refine hK _ ?_; clear hK K))
      refine HWalk.mark ?_
      go_wp2_with (at_builtin; refine Hid.out ?_)
      refine Lib.hid (Lib.wpList_append_run _ rfl _ _ _ _ rfl _ _ rfl rfl _ _ (RUN.out _) ?_)
      go_wp2_with fail
      refine ⟨B3.out, ?_⟩
      repeat (refine HWalk.step (fun K hK => ?_); first | (apply held_yes; (focus rfl); (focus (intro w' hw; obtain ⟨hc', hf'⟩ := below_cells hw; go_simp; rfl)); (go_simp; refine hK _ ?_; clear hK K)) | (refine ite_no (by decide) ?_; go_simp; refine hK _ ?_; clear hK K))
      refine HWalk.done ?_
      go_wp2_with fail
      go_roundw
      case rel => exact ⟨k + 1, c2, A2, by go_num, rfl, by omega, hc2, O3, B3⟩
      case measure => simp [intOf]; omega
    · obtain rfl : k = N := by omega
      have hK : ∀ h : k < m, 60 ≤ k := fun h => by
        have := (EN.out k)
        have : ¬ (k < m ∧ k < 60) := fun h' => absurd (this.2 h') (Nat.lt_irrefl k)
        omega
      have hkm : k < m ∨ ¬ k < m := Nat.lt_or_ge k m |>.imp id (fun h => by omega)
      have len : (upR (irow0 f) k).length = k := upR_len _ _
      by_cases hg : g = true ∧ 0 < k
      · obtain ⟨rfl, kp⟩ := hg
        obtain ⟨q, rfl, q1, q2, q3, q4⟩ := hO.out.at_ (by rw [upR_len]; exact kp)
        have e0 := q3 0 (by omega)
        have e1 := q4 0
        have O3 := hO.out.set 0 (.int .i64 2305843009213693952)
        have O4 : Hid (SeesR (wr.setCell ⟨q, 0, none⟩ (.int .i64 2305843009213693952)) wr.heap.size (some ⟨q, 0, none⟩) (upR (irow f true) k)) := by
          have h1 := O3.sees
          have h2 : ((wr.setCell ⟨q, 0, none⟩ (.int .i64 2305843009213693952)).heap.size) = wr.heap.size := by simp [World.setCell]
          rw [h2] at h1
          intro hn
          obtain ⟨b, o, j1, j2, j3⟩ := h1 (by rw [upR_len] at hn ⊢; exact hn)
          refine ⟨b, o, j1, j2, fun j hj => (j3 j (by rw [upR_len] at hj ⊢; exact hj)).trans (congrArg some ?_)⟩
          rw [upR_len] at hj
          show (if j = 0 then Value.int .i64 2305843009213693952 else rwf (upR (irow0 f) k) j) = _
          unfold rwf
          rw [upR_rg _ (show j / 2 < k by omega), upR_rg _ (show j / 2 < k by omega)]
          unfold irow irow0
          by_cases c : j = 0
          · subst c; rfl
          · rw [if_neg c]
            by_cases d : j % 2 = 0
            · rw [if_pos d, if_pos d, if_neg (by omega)]
            · rw [if_neg d, if_neg d]
        have B3 : Hid (Below w.heap.size w (wr.setCell ⟨q, 0, none⟩ (.int .i64 2305843009213693952))) := (B0.out.trans (hB.out.mono B0.out.size)).setCell (p := ⟨q, 0, none⟩) (by show w.heap.size ≤ q; omega) _
        have sz : Hid ((wr.setCell ⟨q, 0, none⟩ (.int .i64 2305843009213693952)).heap.size = wr.heap.size) := by simp [World.setCell, Lib.hid]
        have le : k ≤ cc := by have := hO.out.le; rw [upR_len] at this; exact this
        have LE := Lib.hid le
        clear q3 q4 hO O3 le
        rcases hkm with hkm | hkm
        · have := hK hkm
          go_wp2_with fail
          go_ret
          exact ⟨_, _, rfl, O4.out.more (by rw [sz.out]; exact Nat.le_refl _), B3.out, LE.out, hcc⟩
        · go_wp2_with fail
          go_ret
          exact ⟨_, _, rfl, O4.out.more (by rw [sz.out]; exact Nat.le_refl _), B3.out, LE.out, hcc⟩
      · have O4 : Hid (SeesR wr wr.heap.size A' (upR (irow f g) k)) := by
          have h1 := hO.out.sees
          intro hn
          obtain ⟨b, o, j1, j2, j3⟩ := h1 (by rw [upR_len] at hn ⊢; exact hn)
          refine ⟨b, o, j1, j2, fun j hj => (j3 j (by rw [upR_len] at hj ⊢; exact hj)).trans (congrArg some ?_)⟩
          rw [upR_len] at hj
          have ei : irow f g (j / 2) = irow0 f (j / 2) := by unfold irow irow0; rw [if_neg (fun hh => hg ⟨hh.2, by omega⟩)]
          unfold rwf
          rw [upR_rg _ (show j / 2 < k by omega), upR_rg _ (show j / 2 < k by omega), ei]
        have B3 : Hid (Below w.heap.size w wr) := B0.out.trans (hB.out.mono B0.out.size)
        have le : k ≤ cc := by have := hO.out.le; rw [upR_len] at this; exact this
        have LE := Lib.hid le
        have hg' : g = false ∨ (g = true ∧ k = 0) := by
          cases g with
          | false => exact .inl rfl
          | true => exact .inr ⟨rfl, by apply Classical.byContradiction; intro h; exact hg ⟨rfl, by omega⟩⟩
        clear hO hg le
        rcases hkm with hkm | hkm
        · have := hK hkm
          rcases hg' with rfl | ⟨rfl, k0⟩
          · go_wp2_with fail
            go_ret
            exact ⟨_, _, rfl, O4.out, B3.out, LE.out, hcc⟩
          · omega
        · rcases hg' with rfl | ⟨rfl, k0⟩
          · go_wp2_with fail
            go_ret
            exact ⟨_, _, rfl, O4.out, B3.out, LE.out, hcc⟩
          · subst k0
            go_wp2_with fail
            go_ret
            exact ⟨_, _, rfl, O4.out, B3.out, LE.out, hcc⟩
end Go.Proofs.Ytngbaiijdgmpoaa

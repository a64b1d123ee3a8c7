/-
  Flags: Get, Set, Rank, Select, Next.
-/
import Derived.Test.YteodkmndghaidaaDoorFlaB
import Derived.Test.YteodkmndghaidaaDoorSliceL
import Derived.Test.YteodkmndghaidaaDoorFlaW
import Derived.LoopTactic
import Derived.BigQuiet
import Derived.IntWalk
namespace Go.Proofs.YteodkmndghaidaaDoor
open Go.RowKit
set_option linter.unusedVariables false
set_option linter.unusedSimpArgs false

theorem flErr_0 {n : Nat} {i k : Int} (h : 0 ≤ i ∧ 0 ≤ k ∧ i + k ≤ n) : flErr n i k = 0 := by unfold flErr; rw [if_neg (by omega)]
theorem flErr_4 {n : Nat} {i k : Int} (h : i < 0 ∨ k < 0 ∨ (n : Int) < i + k) : flErr n i k = 4 := by unfold flErr; rw [if_pos (by omega)]
theorem flErr_cases (n : Nat) (i k : Int) : (flErr n i k = 4 ∧ (i < 0 ∨ k < 0 ∨ (n : Int) < i + k)) ∨ (flErr n i k = 0 ∧ ∃ a b : Nat, i = a ∧ k = b ∧ a + b ≤ n) := by
  by_cases h : i < 0 ∨ k < 0 ∨ (n : Int) < i + k
  · exact .inl ⟨flErr_4 h, h⟩
  · exact .inr ⟨flErr_0 (by omega), i.toNat, k.toNat, by omega, by omega, by omega⟩

set_option maxHeartbeats 800000 in
theorem fGet_ok (w : World) (p : Nat) (l : List Bool) (h : Fl w p l) (i : Nat) (hi : i < l.length) :
    Calls Tryd.prog 18 #[.pointer (some ⟨p, 0, none⟩), .int .i64 i] w fun e w' => e = .returned (.tuple #[.bool (bt l i), .int .i64 0]) ∧ w = w' := by
  have hn := h.len
  have KC := Lib.hid (fcheck_any w p l h i 1 ⟨by omega, by omega⟩ ⟨by omega, by omega⟩)
  rw [flErr_0 (by omega)] at KC
  have KG := Lib.hid (fget_any w p l h i hi)
  clear h hi hn
  go_enter Tryd.func18, Tryd.ntmps18
  go_wp2_with fail
  refine (KC.out).mono ?_
  rintro e w' ⟨rfl, rfl⟩
  go_wp2_with fail
  refine (KG.out).mono ?_
  rintro e w' ⟨rfl, rfl⟩
  go_wp2_with fail
  go_ret2
  exact ⟨rfl, rfl⟩
set_option maxHeartbeats 800000 in
theorem fGet_bad (w : World) (p : Nat) (l : List Bool) (h : Fl w p l) (i : Int) (fi : Fits i) (hi : i < 0 ∨ (l.length : Int) ≤ i) :
    Calls Tryd.prog 18 #[.pointer (some ⟨p, 0, none⟩), .int .i64 i] w fun e w' => e = .returned (.tuple #[.bool false, .int .i64 4]) ∧ w = w' := by
  have KC := Lib.hid (fcheck_any w p l h i 1 fi ⟨by omega, by omega⟩)
  rw [flErr_4 (by omega)] at KC
  clear h hi
  go_enter Tryd.func18, Tryd.ntmps18
  go_wp2_with fail
  refine (KC.out).mono ?_
  rintro e w' ⟨rfl, rfl⟩
  go_wp2_with fail
  go_ret2
  exact ⟨rfl, rfl⟩
set_option maxHeartbeats 800000 in
theorem fSet_ok (w : World) (p : Nat) (l : List Bool) (h : Fl w p l) (i : Nat) (hi : i < l.length) (v : Bool) :
    Calls Tryd.prog 19 #[.pointer (some ⟨p, 0, none⟩), .int .i64 i, .bool v] w fun e w' => e = .returned (.int .i64 0) ∧ Fl w' p (l.set i v) ∧ Fr (fun b => b = p) w w' := by
  have hn := h.len
  have KC := Lib.hid (fcheck_any w p l h i 1 ⟨by omega, by omega⟩ ⟨by omega, by omega⟩)
  rw [flErr_0 (by omega)] at KC
  have KG := Lib.hid (fput_any w p l h i hi v)
  clear h hi hn
  go_enter Tryd.func19, Tryd.ntmps19
  go_wp2_with fail
  refine (KC.out).mono ?_
  rintro e w' ⟨rfl, rfl⟩
  go_wp2_with fail
  refine (KG.out).mono ?_
  rintro e w2 ⟨rfl, h1, h2⟩
  have H1 := Lib.hid h1
  have H2 := Lib.hid h2
  clear h1 h2
  go_wp2_with fail
  go_ret
  exact ⟨rfl, H1.out, H2.out⟩
set_option maxHeartbeats 800000 in
theorem fSet_bad (w : World) (p : Nat) (l : List Bool) (h : Fl w p l) (i : Int) (fi : Fits i) (hi : i < 0 ∨ (l.length : Int) ≤ i) (v : Bool) :
    Calls Tryd.prog 19 #[.pointer (some ⟨p, 0, none⟩), .int .i64 i, .bool v] w fun e w' => e = .returned (.int .i64 4) ∧ w = w' := by
  have KC := Lib.hid (fcheck_any w p l h i 1 fi ⟨by omega, by omega⟩)
  rw [flErr_4 (by omega)] at KC
  clear h hi
  go_enter Tryd.func19, Tryd.ntmps19
  go_wp2_with fail
  refine (KC.out).mono ?_
  rintro e w' ⟨rfl, rfl⟩
  go_wp2_with fail
  go_ret
  exact ⟨rfl, rfl⟩

theorem lenW : Tryd.prog.underlying 54 = some (.array (Tryd.prog.arrayLen 54) (Tryd.prog.elem 54)) := by kernel_rfl
theorem lenW2 : Tryd.prog.arrayLen 54 = 64 := by kernel_rfl
theorem sizeW : (Tryd.prog.info? (Tryd.prog.elem 54)).map (·.size) = some 1 := by kernel_rfl
theorem sl_words (p i : Nat) (h : i ≤ 4096) (wx : World) : (Instr.sliceAt 54 (.pointer (some ⟨p, 2, none⟩)) none (some (.int .i64 ((i : Int) / 64))) none).run Tryd.prog wx = .ok (.slice (some ⟨p, 2, none⟩) (i / 64) 64) wx := by
  rw [run_sliceAt_array_h wx 54 ⟨p, 2, none⟩ lenW .i64 ((i : Int) / 64) (by omega) (by rw [lenW2]; omega), sizeOf_eq sizeW]
  simp only [Result.andThen, slicedAt, lenW2]
  rw [show ((i : Int) / 64).toNat = i / 64 from by omega]
  rfl
theorem rank_end (l : List Bool) (i : Nat) : cnt (bt l) (64 * (i / 64)) + cnt (wd l (i / 64)).testBit (i % 64) = cnt (bt l) i := by
  rw [cnt_wd_part l _ _ (Nat.le_of_lt (Nat.mod_lt _ (by omega))), Nat.div_add_mod]
theorem shl_wrap (x k : Nat) : IntKind.u64.wrap ((x : Int) * 2 ^ k) = ((x * 2 ^ k % 18446744073709551616 : Nat) : Int) := by
  rw [IntKind.wrap_u64, Int.natCast_emod, Int.natCast_mul, Int.natCast_pow]; rfl
set_option maxRecDepth 100000 in
set_option maxHeartbeats 1600000 in
theorem fRank_ok (w : World) (p : Nat) (l : List Bool) (h : Fl w p l) (i : Nat) (hi : i ≤ l.length) :
    Calls Tryd.prog 12 #[.pointer (some ⟨p, 0, none⟩), .int .i64 i] w fun e w' => e = .returned (.tuple #[.int .i64 (cnt (bt l) i), .int .i64 0]) ∧ w = w' := by
  have hn := h.len
  have KC := Lib.hid (fcheck_any w p l h i 0 ⟨by omega, by omega⟩ ⟨by omega, by omega⟩)
  rw [flErr_0 (by omega)] at KC
  obtain ⟨c0, c1, cw, fz⟩ := h.cells
  have CW := Lib.hid cw
  clear h c0 c1 fz cw
  have hi2 : i ≤ 4096 := by omega
  have SL := sl_words p i hi2
  clear hi hn
  go_enter Tryd.func12, Tryd.ntmps12
  go_wp2_with fail
  refine (KC.out).mono ?_
  rintro e w' ⟨rfl, rfl⟩
  go_wp2_with fail
  clear SL
  go_loopw [7, 24] (fun s k wr => ∃ j : Nat, j ≤ i / 64 ∧ s = .int .i64 (cnt (bt l) (64 * j)) ∧ k = .int .i64 j ∧ Hid (w = wr)) (fun _ k _ => i / 64 - (intOf k).toNat)
  case atStart => exact ⟨0, Nat.zero_le _, rfl, rfl, rfl⟩
  case round =>
    obtain ⟨j, hj, rfl, rfl, hw⟩ := hrel
    have hc1 := cnt_le (bt l) (64 * j)
    by_cases hlt : j < i / 64
    · have hc := CW.out j (by omega)
      rw [hw.out] at hc
      have KO := Lib.hid (ones_any wr (wd l j) (wd_lt l j))
      have hc2 := cnt_le (wd l j).testBit 64
      have X := Lib.hid (cnt_wd l j)
      generalize cnt (wd l j).testBit 64 = o at KO hc2 X
      generalize wd l j = x at hc KO
      generalize cnt (bt l) (64 * j) = s at hc1 X
      have hji : (j : Int) < ((i / 64 : Nat) : Int) := by omega
      go_wp2_with fail
      refine (KO.out).mono ?_
      rintro e w' ⟨rfl, rfl⟩
      go_wp2_with fail
      go_roundw
      case rel => exact ⟨j + 1, by omega, by rw [← X.out]; go_num, by go_num, hw⟩
      case measure => simp [intOf]; omega
    · obtain rfl : j = i / 64 := by omega
      have X := Lib.hid (rank_end l i)
      by_cases hr : i % 64 = 0
      · have hri : (i : Int) % 64 = 0 := by omega
        have E : cnt (bt l) (64 * (i / 64)) = cnt (bt l) i := by have := X.out; rw [hr, cnt_zero, Nat.add_zero] at this; exact this
        have HE := Lib.hid E
        clear E hr
        go_wp2_with fail
        go_ret2
        exact ⟨ret_int2 (by rw [HE.out]) rfl, hw.out⟩
      · have hc := CW.out (i / 64) (by omega)
        rw [hw.out] at hc
        have hri : 0 < (i : Int) % 64 := by omega
        have KO := ones_any wr (wd l (i / 64) * 2 ^ (64 - i % 64) % 18446744073709551616) (Nat.mod_lt _ (by omega))
        rw [cnt_shl _ _ (Nat.le_of_lt (Nat.mod_lt _ (by omega))), ← shl_wrap] at KO
        have KO := Lib.hid KO
        have hc2 := cnt_le (wd l (i / 64)).testBit (i % 64)
        have hmod : i % 64 < 64 := Nat.mod_lt _ (by omega)
        generalize cnt (wd l (i / 64)).testBit (i % 64) = o at KO hc2 X
        generalize cnt (bt l) (64 * (i / 64)) = s at hc1 X ⊢
        clear hr
        go_wp2_with fail
        refine (KO.out).mono ?_
        rintro e w' ⟨rfl, rfl⟩
        go_wp2_with fail
        go_ret2
        exact ⟨ret_int2 (by rw [← X.out]; go_num) rfl, hw.out⟩
theorem fRank_bad (w : World) (p : Nat) (l : List Bool) (h : Fl w p l) (i : Int) (fi : Fits i) (hi : i < 0 ∨ (l.length : Int) < i) :
    Calls Tryd.prog 12 #[.pointer (some ⟨p, 0, none⟩), .int .i64 i] w fun e w' => e = .returned (.tuple #[.int .i64 0, .int .i64 4]) ∧ w = w' := by
  have KC := Lib.hid (fcheck_any w p l h i 0 fi ⟨by omega, by omega⟩)
  rw [flErr_4 (by omega)] at KC
  clear h hi
  go_enter Tryd.func12, Tryd.ntmps12
  go_wp2_with fail
  refine (KC.out).mono ?_
  rintro e w' ⟨rfl, rfl⟩
  go_wp2_with fail
  go_ret2
  exact ⟨rfl, rfl⟩

/-- The words as an array. -/
def wds (l : List Bool) : Array Value := ((List.range 64).map fun k => .int .u64 (wd l k)).toArray
theorem wds_at (l : List Bool) {k : Nat} (h : k < 64) : (wds l)[k]? = some (.int .u64 (wd l k)) := by
  unfold wds
  rw [List.getElem?_toArray, List.getElem?_map, List.getElem?_range h]; rfl
theorem wds_size (l : List Bool) : (wds l).size = 64 := by simp [wds]
theorem infoW : (Tryd.prog.info? 54).map (·.size) = some 64 := by kernel_rfl
theorem load_words (w : World) (p : Nat) (l : List Bool) (h : Fl w p l) : (Instr.loadAt 54 (.pointer (some ⟨p, 2, none⟩))).run Tryd.prog w = .ok (.agg (wds l)) w := by
  have h1 := run_loadCells_list (P := Tryd.prog) w ⟨p, 2, none⟩ (wds l).toList (fun j v hv => by
    rw [add_none]
    have hj : j < 64 := by
      rcases Nat.lt_or_ge j 64 with c | c
      · exact c
      · rw [List.getElem?_eq_none (by simp [wds]; omega)] at hv; cases hv
    rw [h.cells.cw j hj, ← hv, Array.getElem?_toList, wds_at l hj])
  rw [Array.length_toList, wds_size] at h1
  simp only [Instr.loadAt, Instr.sureAddr, Sem.run_bind, Sem.run_pure, Result.andThen, loadVar, isAgg, sizeOf_eq infoW]
  simp [run_underlying Tryd.underlying54, h1]
theorem infoE : (Tryd.prog.info? 53).map (·.size) = some 1 := by kernel_rfl
theorem index_words (l : List Bool) {j : Nat} (hj : j < 64) (wx : World) : (Instr.index 54 (.agg (wds l)) (.int .i64 j)).run Tryd.prog wx = .ok (.int .u64 (wd l j)) wx := by
  have h2 : ((j : Int) < 64) := by omega
  simp [Instr.index, asIntOf, run_underlying Tryd.underlying54, run_underlying Tryd.underlying53, sizeOf_eq infoE, part, isAgg, wds_at l hj, hj]
theorem clr_u64 (v : Nat) (h0 : 0 < v) (h : v < 18446744073709551616) : bits .and .u64 (v : Int) ((v : Int) - 1) = ((clr v : Nat) : Int) := by
  rw [show (v : Int) - 1 = ((v - 1 : Nat) : Int) from by omega]
  exact bits_and_u64 _ _ h (by omega)
set_option maxRecDepth 100000 in
set_option maxHeartbeats 1600000 in
theorem fSel_ok (w : World) (p : Nat) (l : List Bool) (h : Fl w p l) (i : Nat) (hi : bt l i = true) :
    Calls Tryd.prog 14 #[.pointer (some ⟨p, 0, none⟩), .int .i64 (cnt (bt l) i)] w fun e w' => e = .returned (.tuple #[.int .i64 i, .int .i64 0]) ∧ w = w' := by
  have hn := h.len
  have hil := bt_mem hi
  have HT := Lib.hid h.tab
  obtain ⟨c0, c1, cw, fz⟩ := h.cells
  have hk : cnt (bt l) i < cn l := by
    have := cnt_mono (bt l) (show i + 1 ≤ l.length from hil)
    rw [cnt_hit hi] at this
    exact this
  have hcn := cn_le l
  have LW := Lib.hid (load_words w p l h)
  have HI := Lib.hid hi
  obtain ⟨k, ek⟩ : ∃ k, k = cnt (bt l) i := ⟨_, rfl⟩
  rw [← ek] at hk ⊢
  have EK := Lib.hid ek
  have hi2 : i < 4096 := by omega
  clear c0 fz cw h hi ek hn hil
  go_enter Tryd.func14, Tryd.ntmps14
  go_wp2_with (refine wpList_load_run rfl 54 _ rfl _ rfl LW.out ?_)
  clear c1 hk hcn LW
  go_loopw [1, 27] (fun k' j' wr => ∃ j r : Nat, 64 * j ≤ i ∧ k' = .int .i64 r ∧ j' = .int .i64 j ∧ r ≤ 4096 ∧ Hid (r + cnt (bt l) (64 * j) = k) ∧ Hid (w = wr)) (fun _ j' _ => 64 - (intOf j').toNat)
  case atStart => exact ⟨0, k, Nat.zero_le _, rfl, rfl, by have := EK.out; have := cnt_le (bt l) i; omega, rfl, rfl⟩
  case round =>
    obtain ⟨j, r, hj, rfl, rfl, hr4, hr, hw⟩ := hrel
    have hwe := hw.out
    subst hwe
    clear hw
    have hj6 : j < 64 := by omega
    have hji : (j : Int) < 64 := by omega
    have IX := index_words l hj6
    have KO := Lib.hid (ones_any w (wd l j) (wd_lt l j))
    have X := Lib.hid (cnt_wd l j)
    have hc2 := cnt_le (wd l j).testBit 64
    by_cases hlt : 64 * (j + 1) ≤ i
    · have h1 : cnt (wd l j).testBit 64 ≤ r := by have := cnt_mono (bt l) hlt; have := X.out; have := hr.out; have := EK.out; omega
      generalize cnt (wd l j).testBit 64 = o at KO hc2 X h1
      go_wp2_with fail
      refine (KO.out).mono ?_
      rintro e w' ⟨rfl, rfl⟩
      go_wp2_with fail
      go_roundw
      case rel => exact ⟨j + 1, r - o, hlt, by go_num, by go_num, by omega, by have := X.out; have := hr.out; show _ = _; omega, by first | rfl | exact trivial⟩
      case measure => simp [intOf]; omega
    · have e1 : i / 64 = j := by omega
      have e2 : 64 * j + i % 64 = i := by omega
      have hmod : i % 64 < 64 := Nat.mod_lt _ (by omega)
      have hb : Hid ((wd l j).testBit (i % 64) = true) := by show _ = _; rw [testBit_wd l j _ hmod, e2]; exact HI.out
      have hr2 : Hid (cnt (wd l j).testBit (i % 64) = r) := by
        have := cnt_wd_part l j (i % 64) (by omega); rw [e2] at this; have := hr.out; have := EK.out; show _ = _; omega
      have h1 : r < cnt (wd l j).testBit 64 := by
        have := cnt_mono (wd l j).testBit (show i % 64 + 1 ≤ 64 from hmod)
        rw [cnt_hit hb.out, hr2.out] at this
        omega
      have hxl := wd_lt l j
      generalize cnt (wd l j).testBit 64 = o at KO hc2 X h1
      go_wp2_with fail
      refine (KO.out).mono ?_
      rintro e w' ⟨rfl, rfl⟩
      go_wp2_with fail
      go_loopw [1, 7] (fun k' v' wr => ∃ m v : Nat, m ≤ r ∧ k' = .int .i64 (r - m : Nat) ∧ v' = .int .u64 v ∧ v < 18446744073709551616 ∧ Hid (Less (wd l j) v m) ∧ Hid (w = wr)) (fun k' _ _ => (intOf k').toNat)
      case atStart => exact ⟨0, wd l j, Nat.zero_le _, rfl, rfl, hxl, Less.start _, rfl⟩
      case round =>
        obtain ⟨m, v, hm, rfl, rfl, hv, hL, hw2⟩ := hrel
        have hvt : v.testBit (i % 64) = true := by rw [hL.out, hb.out, hr2.out, decide_eq_true hm]; rfl
        have hv0 : 0 < v := by
          rcases Nat.eq_zero_or_pos v with e | e
          · rw [e, Nat.zero_testBit] at hvt; exact absurd hvt (by decide)
          · exact e
        by_cases hmr : m < r
        · have ea := clr_u64 v hv0 hv
          have hc3 := clr_lt v hv0
          have hrm : 0 < r - m := by omega
          have HV := Lib.hid hvt
          clear hvt
          go_wp2_with fail
          go_roundw
          case rel => exact ⟨m + 1, clr v, hmr, by go_num, by go_num, by omega, hL.out.step, hw2⟩
          case measure => simp [intOf]; omega
        · obtain rfl : m = r := by omega
          have h0 : ∀ q, q < i % 64 → v.testBit q = false := fun q hq => by
            rw [hL.out]
            cases e : (wd l j).testBit q with
            | false => rfl
            | true =>
              have := cnt_mono (wd l j).testBit (show q + 1 ≤ i % 64 from hq)
              rw [cnt_hit e, hr2.out] at this
              rw [decide_eq_false (by omega)]; rfl
          have KT := Lib.hid (trail_any wr (by rw [← hw2.out]; exact HT.out) v (i % 64) hv hmod hvt h0)
          clear hvt h0
          go_wp2_with fail
          refine (KT.out).mono ?_
          rintro e w' ⟨rfl, rfl⟩
          go_wp2_with fail
          go_ret2
          exact ⟨ret_int2 (by omega) rfl, hw2.out⟩
end Go.Proofs.YteodkmndghaidaaDoor

/-
  Flags: New, Copy, list.
-/
import Derived.Test.YteodkmndghaidaaDoorFlaD
import Derived.Test.YteodkmndghaidaaDoorFlaR
import Derived.Lib.JoinLaws
namespace Go.Proofs.YteodkmndghaidaaDoor
open Go.RowKit
set_option linter.unusedVariables false
set_option linter.unusedSimpArgs false

theorem zc_eq : Tryd.zeroCells56 = #[.int .i64 0, .int .i64 0] ++ Array.replicate 64 (.int .u64 0) := by kernel_rfl
theorem zc_size : Tryd.zeroCells56.size = 66 := by rw [zc_eq]; simp
theorem zc_at (j : Nat) (hj : j < 66) : Tryd.zeroCells56[j]? = some (if j < 2 then .int .i64 0 else .int .u64 0) := by
  rw [zc_eq]
  by_cases c : j < 2
  · rw [if_pos c, Array.getElem?_append_left (by simp; omega)]
    have : j = 0 ∨ j = 1 := by omega
    rcases this with rfl | rfl <;> rfl
  · rw [if_neg c, Array.getElem?_append_right (by simp; omega), Array.getElem?_replicate, if_pos (by simp; omega)]
theorem flc_rep (n j : Nat) : flc (List.replicate n false) j = if j = 0 then .int .i64 n else if j = 1 then .int .i64 0 else .int .u64 0 := by
  unfold flc
  rw [List.length_replicate, cn_rep, wd_rep]
  rfl
theorem infoFl : (Tryd.prog.info? 56).map (·.size) = some 66 := by kernel_rfl
/-- The cells as an array. -/
def cel (l : List Bool) : Array Value := ((List.range 66).map (flc l)).toArray
theorem cel_size (l : List Bool) : (cel l).size = 66 := by simp [cel]
theorem cel_at (l : List Bool) {j : Nat} (hj : j < 66) : (cel l)[j]? = some (flc l j) := by
  unfold cel; rw [List.getElem?_toArray, List.getElem?_map, List.getElem?_range hj]; rfl
theorem flc_one (l : List Bool) (j : Nat) : (flc l j).oneCell' = true := by unfold flc; split; · rfl
                                                                            split <;> rfl
theorem cel_one (l : List Bool) : (cel l).all (·.oneCell') = true := by
  rw [Array.all_eq_true]
  intro i hi
  have h := cel_at l (j := i) (by rw [cel_size] at hi; exact hi)
  rw [Array.getElem?_eq_getElem hi] at h
  injection h with h
  rw [h]; exact flc_one l i
theorem Fl.alloc' (w : World) (hT : Tab w) (hs : 0 < w.heap.size) (l : List Bool) (hl : l.length ≤ 4096) (cs : Array Value) (hz : cs.size = 66) (hc : ∀ j, j < 66 → cs[j]? = some (flc l j)) : Fl (w.alloc (.cells cs 56)) w.heap.size l := by
  have hr := World.rowIs_alloc w cs 56 (flc l) (fun j hj => by rw [hc j (by omega)])
  rw [hz] at hr
  exact ⟨hr, hl, hT.below ((Below.refl w.heap.size w).alloc (Nat.le_refl _) _) hs, hs⟩
set_option maxRecDepth 100000 in
set_option maxHeartbeats 1600000 in
theorem fnew_any (w : World) (hT : Tab w) (hs : 0 < w.heap.size) (n : Nat) (hn : n ≤ 4096) :
    Calls Tryd.prog 29 #[.int .i64 n] w fun e w' => ∃ p, e = .returned (.tuple #[.pointer (some ⟨p, 0, none⟩), .int .i64 0]) ∧ Fl w' p (List.replicate n false) ∧ w.heap.size ≤ p ∧ Below w.heap.size w w' := by
  have h1 : ¬ (n : Int) < 0 := by omega
  have h2 : ¬ 4096 < (n : Int) := by omega
  have HF : Hid (Fl (w.alloc (.cells (Tryd.zeroCells56.setIfInBounds 0 (.int .i64 n)) 56)) w.heap.size (List.replicate n false)) :=
    Fl.alloc' w hT hs _ (by simp; omega) _ (by rw [Array.size_setIfInBounds, zc_size]) fun j hj => by
      rw [flc_rep, Array.getElem?_setIfInBounds]
      by_cases c : j = 0
      · subst c; simp [zc_size]
      · rw [if_neg (fun e => c e.symm), zc_at j hj, if_neg c]
        by_cases d : j = 1
        · subst d; rfl
        · rw [if_neg (by omega), if_neg d]
  have HB : Hid (∀ o, Below w.heap.size w (w.alloc o)) := fun o => (Below.refl _ w).alloc (Nat.le_refl _) o
  clear hT hs
  go_enter Tryd.func29, Tryd.ntmps29
  go_wp2_with fail
  go_ret2
  exact ⟨_, rfl, HF.out, Nat.le_refl _, HB.out _⟩
theorem fnew_neg (w : World) (n : Int) (hn : n < 0) :
    Calls Tryd.prog 29 #[.int .i64 n] w fun e w' => e = .returned (.tuple #[.pointer none, .int .i64 4]) ∧ w = w' := by
  go_enter Tryd.func29, Tryd.ntmps29
  go_wp2_with fail
  go_ret2
  exact ⟨rfl, rfl⟩
set_option maxRecDepth 100000 in
set_option maxHeartbeats 800000 in
theorem fnew_big (w : World) (n : Int) (hn : 4096 < n) :
    Calls Tryd.prog 29 #[.int .i64 n] w fun e w' => e = .returned (.tuple #[.pointer none, .int .i64 3]) ∧ w = w' := by
  have h0 : ¬ n < 0 := by omega
  go_enter Tryd.func29, Tryd.ntmps29
  go_wp2_with fail
  go_ret2
  exact ⟨rfl, rfl⟩

theorem load_fl (w : World) (p : Nat) (l : List Bool) (h : Fl w p l) : (Instr.loadAt 56 (.pointer (some ⟨p, 0, none⟩))).run Tryd.prog w = .ok (.agg (cel l)) w := by
  have h1 := run_loadCells_list (P := Tryd.prog) w ⟨p, 0, none⟩ (cel l).toList (fun j v hv => by
    rw [add_none, Nat.zero_add]
    have hj : j < 66 := by
      rcases Nat.lt_or_ge j 66 with c | c
      · exact c
      · rw [List.getElem?_eq_none (by simp [cel]; omega)] at hv; cases hv
    rw [h.row.cell (i := j) hj, ← hv, Array.getElem?_toList, cel_at l hj])
  rw [Array.length_toList, cel_size] at h1
  simp only [Instr.loadAt, Instr.sureAddr, Sem.run_bind, Sem.run_pure, Result.andThen, loadVar, isAgg, sizeOf_eq infoFl]
  simp [run_underlying Tryd.underlying56, h1]
set_option maxRecDepth 100000 in
set_option maxHeartbeats 1600000 in
theorem fcopy_any (w : World) (p : Nat) (l : List Bool) (h : Fl w p l) :
    Calls Tryd.prog 20 #[.pointer (some ⟨p, 0, none⟩)] w fun e w' => ∃ q, e = .returned (.pointer (some ⟨q, 0, none⟩)) ∧ Fl w' q l ∧ w.heap.size ≤ q ∧ Below w.heap.size w w' := by
  have LW := Lib.hid (load_fl w p l h)
  have ST := Lib.hid (run_storeAt_new (P := Tryd.prog) w 56 Tryd.zeroCells56 (cel l) (by rw [cel_size]; exact infoFl) (by rw [zc_size, cel_size]) (cel_one l))
  have HF : Hid (Fl (w.alloc (.cells (cel l) 56)) w.heap.size l) := Fl.alloc' w h.tab (Nat.lt_trans h.pos h.lt) l h.len _ (cel_size l) (fun j hj => cel_at l hj)
  have HB : Hid (∀ o, Below w.heap.size w (w.alloc o)) := fun o => (Below.refl _ w).alloc (Nat.le_refl _) o
  clear h
  go_enter Tryd.func20, Tryd.ntmps20
  go_wp2_with (first | (refine wpList_load_run rfl 56 _ rfl _ rfl LW.out ?_) | (refine wpList_store_run rfl 56 _ _ rfl _ _ rfl rfl ST.out ?_))
  go_ret
  exact ⟨_, rfl, HF.out, Nat.le_refl _, HB.out _⟩
theorem fcopy_nil (w : World) :
    Calls Tryd.prog 20 #[.pointer none] w fun e w' => e = .returned (.pointer none) ∧ w = w' := by
  go_enter Tryd.func20, Tryd.ntmps20
  go_wp2_with fail
  go_ret
  exact ⟨rfl, rfl⟩

theorem make_F (n : Nat) (hn : n ≤ 4096) (W : World) : (Instr.makeSlice 22 (.int .i64 n) (.int .i64 n)).run Tryd.prog W = .ok (.slice (some ⟨W.heap.size, 0, none⟩) n n) (W.alloc (.cells (madeCells #[.bool false] n) 4)) :=
  run_make_row' 22 4 (.bool false) 1 Tryd.underlying22 infoB rfl .i64 .i64 n (by omega) (by omega) W
set_option maxRecDepth 100000 in
set_option maxHeartbeats 1600000 in
theorem flist_any (w : World) (p : Nat) (l : List Bool) (h : Fl w p l) :
    Calls Tryd.prog 39 #[.pointer (some ⟨p, 0, none⟩)] w fun e w' => ∃ g, e = .returned (.slice (some ⟨g, 0, none⟩) l.length l.length) ∧ w'.rowIs g 4 l.length (bvs l) ∧ w.heap.size ≤ g ∧ Below w.heap.size w w' := by
  have hn := h.len
  have HF := Lib.hid h
  obtain ⟨c0, c1, cw, fz⟩ := h.cells
  have hm := make_F l.length hn
  obtain ⟨n, en⟩ : ∃ n, n = l.length := ⟨_, rfl⟩
  have EN := Lib.hid en
  rw [← en] at hm hn c0 ⊢
  have R0 : Hid ((w.alloc (.cells (madeCells #[.bool false] n) 4)).rowIs w.heap.size 4 n (fun j => if j < 0 then .bool (bt l j) else .bool false)) := (World.rowIs_made w (.bool false) n 4).congr fun j _ => by rw [if_neg (by omega)]
  have B0 : Hid (Below w.heap.size w (w.alloc (.cells (madeCells #[.bool false] n) 4))) := (Below.refl _ w).alloc (Nat.le_refl _) _
  clear c1 cw fz h en
  go_enter Tryd.func39, Tryd.ntmps39
  go_wp2_with fail
  clear hm c0
  obtain ⟨g, eg⟩ : ∃ g, g = w.heap.size := ⟨_, rfl⟩
  have EG := Lib.hid eg
  rw [← eg]
  clear eg
  go_loopw [12] (fun i wr => ∃ k : Nat, k ≤ n ∧ i = .int .i64 k ∧ Hid (wr.rowIs w.heap.size 4 n (fun j => if j < k then .bool (bt l j) else .bool false)) ∧ Hid (Below w.heap.size w wr)) (fun i _ => n - (intOf i).toNat)
  case atStart => exact ⟨0, Nat.zero_le _, rfl, R0, B0⟩
  case round =>
    obtain ⟨k, hk, rfl, hR, hB⟩ := hrel
    clear R0 B0
    by_cases hlt : k < n
    · have hki : (k : Int) < (n : Int) := by omega
      have KG := Lib.hid (fget_any wr p l (HF.out.below hB.out) k (by rw [← EN.out]; exact hlt))
      have hc := hR.out.cell (i := k) hlt
      have hf := hR.out.frozen k
      rw [if_neg (Nat.lt_irrefl k), ← EG.out] at hc
      rw [← EG.out] at hf
      have R2 : Hid (∀ v, v = bt l k → (wr.setCell ⟨g, k, none⟩ (.bool v)).rowIs w.heap.size 4 n (fun j => if j < k + 1 then .bool (bt l j) else .bool false)) := fun v hv => by
        rw [EG.out]
        refine (hR.out.set k (.bool v)).congr fun j hj => ?_
        show (if j = k then Value.bool v else if j < k then .bool (bt l j) else .bool false) = _
        by_cases c : j = k
        · rw [if_pos c, if_pos (by omega), c, hv]
        · rw [if_neg c]
          by_cases d : j < k
          · rw [if_pos d, if_pos (by omega)]
          · rw [if_neg d, if_neg (by omega)]
      have B2 : Hid (∀ v, Below w.heap.size w (wr.setCell ⟨g, k, none⟩ v)) := fun v => hB.out.setCell (p := ⟨g, k, none⟩) (by show _ ≤ g; rw [EG.out]; exact Nat.le_refl _) v
      obtain ⟨v, ev⟩ : ∃ v, v = bt l k := ⟨_, rfl⟩
      rw [← ev] at KG
      have EV := Lib.hid ev
      clear hR hB ev
      go_wp2_with fail
      refine (KG.out).mono ?_
      rintro e w' ⟨rfl, rfl⟩
      go_wp2_with fail
      go_roundw
      case rel => exact ⟨k + 1, hlt, by go_num, R2.out _ EV.out, B2.out _⟩
      case measure => simp [intOf]; omega
    · obtain rfl : k = n := by omega
      have HR : Hid (wr.rowIs g 4 k (bvs l)) := by rw [EG.out]; exact hR.out.congr fun j hj => by rw [if_pos hj]; rfl
      have hle : Hid (w.heap.size ≤ g) := by rw [EG.out]; exact Nat.le_refl _
      go_wp2_with fail
      go_ret
      exact ⟨g, rfl, HR.out, hle.out, hB.out⟩
end Go.Proofs.YteodkmndghaidaaDoor

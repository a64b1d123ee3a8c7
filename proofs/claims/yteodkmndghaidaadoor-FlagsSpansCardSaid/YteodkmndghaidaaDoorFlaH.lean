/-
  Flags: Insert.
-/
import Derived.Test.YteodkmndghaidaaDoorFlaG
namespace Go.Proofs.YteodkmndghaidaaDoor
open Go.RowKit
set_option linter.unusedVariables false
set_option linter.unusedSimpArgs false

set_option maxRecDepth 100000 in
set_option maxHeartbeats 800000 in
theorem fins_bad (w : World) (p : Nat) (l : List Bool) (h : Fl w p l) (i n : Int) (v : Bool) (fi : Fits i) (fn : Fits n) (hE : fInsErr l i n ≠ 0) :
    Calls Tryd.prog 22 #[.pointer (some ⟨p, 0, none⟩), .int .i64 i, .int .i64 n, .bool v] w fun e w' => e = .returned (.int .i64 (fInsErr l i n)) ∧ w = w' := by
  have KC := Lib.hid (fcheck_any w p l h i 0 fi ⟨by omega, by omega⟩)
  have hl := h.len
  obtain ⟨c0, c1, cw, fz⟩ := h.cells
  unfold fInsErr at hE ⊢
  generalize l.length = N at c0 hl hE KC ⊢
  clear c1 cw fz h
  by_cases ci : i < 0 ∨ (N : Int) < i
  · rw [flErr_4 (by omega)] at KC
    rw [if_pos (by omega)]
    clear hE ci
    go_enter Tryd.func22, Tryd.ntmps22
    go_wp2_with fail
    refine (KC.out).mono ?_
    rintro e w' ⟨rfl, rfl⟩
    go_wp2_with fail
    go_ret
    exact ⟨rfl, rfl⟩
  rw [flErr_0 (by omega)] at KC
  by_cases cn0 : n < 0
  · rw [if_pos (by omega)]
    clear hE ci
    go_enter Tryd.func22, Tryd.ntmps22
    go_wp2_with fail
    refine (KC.out).mono ?_
    rintro e w' ⟨rfl, rfl⟩
    go_wp2_with fail
    go_ret
    exact ⟨rfl, rfl⟩
  rw [if_neg (show ¬ (i < 0 ∨ (N : Int) < i ∨ n < 0) by omega)] at hE ⊢
  by_cases cb : 4096 - (N : Int) < n
  · rw [if_pos cb]
    clear hE ci
    go_enter Tryd.func22, Tryd.ntmps22
    go_wp2_with fail
    refine (KC.out).mono ?_
    rintro e w' ⟨rfl, rfl⟩
    go_wp2_with fail
    go_ret
    exact ⟨rfl, rfl⟩
  · rw [if_neg cb] at hE; exact absurd rfl hE
set_option maxRecDepth 100000 in
set_option maxHeartbeats 3200000 in
theorem fins_ok (w : World) (p : Nat) (l : List Bool) (h : Fl w p l) (k m : Nat) (v : Bool) (hk : k ≤ l.length) (hm : l.length + m ≤ 4096) :
    Calls Tryd.prog 22 #[.pointer (some ⟨p, 0, none⟩), .int .i64 k, .int .i64 m, .bool v] w fun e w' => e = .returned (.int .i64 0) ∧ Fl w' p (fIns l k m v) ∧ Fr (fun b => b = p) w w' := by
  have KC := Lib.hid (fcheck_any w p l h k 0 ⟨by omega, by omega⟩ ⟨by omega, by omega⟩)
  rw [flErr_0 (by omega)] at KC
  have HF := Lib.hid h
  have c0 := h.cells.c0
  obtain ⟨n, en⟩ : ∃ n, n = l.length := ⟨_, rfl⟩
  rw [← en] at hk hm c0
  have EN := Lib.hid en
  have hmk := make_F m (by omega)
  have q1 : ¬ (m : Int) < 0 := by omega
  have q2 : ¬ 4096 - (n : Int) < (m : Int) := by omega
  have R0 : Hid ((w.alloc (.cells (madeCells #[.bool false] m) 4)).rowIs w.heap.size 4 m (fun j => if j < 0 then .bool v else .bool false)) := (World.rowIs_made w (.bool false) m 4).congr fun j _ => by rw [if_neg (by omega)]
  have B0 : Hid (Below w.heap.size w (w.alloc (.cells (madeCells #[.bool false] m) 4))) := (Below.refl _ w).alloc (Nat.le_refl _) _
  clear h en
  go_enter Tryd.func22, Tryd.ntmps22
  go_wp2_with fail
  refine (KC.out).mono ?_
  rintro e w' ⟨rfl, rfl⟩
  go_wp2_with fail
  clear hmk c0 q1 q2 KC
  obtain ⟨g, eg⟩ : ∃ g, g = w.heap.size := ⟨_, rfl⟩
  have EG := Lib.hid eg
  rw [← eg]
  clear eg
  go_loopw [34] (fun i wr => ∃ j : Nat, j ≤ m ∧ i = .int .i64 j ∧ Hid (wr.rowIs w.heap.size 4 m (fun q => if q < j then .bool v else .bool false)) ∧ Hid (Below w.heap.size w wr)) (fun i _ => m - (intOf i).toNat)
  case atStart => exact ⟨0, Nat.zero_le _, rfl, R0, B0⟩
  case round =>
    obtain ⟨j, hj, rfl, hR, hB⟩ := hrel
    clear R0 B0
    by_cases hlt : j < m
    · have hji : (j : Int) < (m : Int) := by omega
      have hc := hR.out.cell (i := j) hlt
      have hf := hR.out.frozen j
      rw [if_neg (Nat.lt_irrefl j), ← EG.out] at hc
      rw [← EG.out] at hf
      have R2 : Hid ((wr.setCell ⟨g, j, none⟩ (.bool v)).rowIs w.heap.size 4 m (fun q => if q < j + 1 then .bool v else .bool false)) := by
        show World.rowIs _ _ _ _ _
        rw [EG.out]
        refine (hR.out.set j (.bool v)).congr fun q hq => ?_
        show (if q = j then Value.bool v else if q < j then .bool v else .bool false) = _
        by_cases c : q = j
        · rw [if_pos c, if_pos (by omega)]
        · rw [if_neg c]
          by_cases d : q < j
          · rw [if_pos d, if_pos (by omega)]
          · rw [if_neg d, if_neg (by omega)]
      have B2 : Hid (Below w.heap.size w (wr.setCell ⟨g, j, none⟩ (.bool v))) := hB.out.setCell (p := ⟨g, j, none⟩) (by show _ ≤ g; rw [EG.out]; exact Nat.le_refl _) _
      clear hR hB
      go_wp2_with fail
      go_roundw
      case rel => exact ⟨j + 1, hlt, by go_num, R2, B2⟩
      case measure => simp [intOf]; omega
    · obtain rfl : j = m := by omega
      have KL := Lib.hid (flist_any wr p l (HF.out.below hB.out))
      have RM : Hid (wr.rowIs g 4 j (bvs (List.replicate j v))) := by
        show World.rowIs _ _ _ _ _
        rw [EG.out]
        exact hR.out.congr fun q hq => by rw [if_pos hq, bvs_at, bt_rep, decide_eq_true hq]; rfl
      have BW := Lib.hid hB.out
      rw [← EN.out] at KL
      have HGP : Hid (g ≠ p) := by have := HF.out.lt; have := EG.out; show _ ≠ _; omega
      clear hR hB
      go_wp2_with fail
      refine (KL.out).mono ?_
      rintro e w1 ⟨gl, rfl, h1, h2, h3⟩
      have F1 := Lib.hid ((HF.out.below BW.out).below h3)
      have R1 := Lib.hid h1
      have RM1 := Lib.hid (RM.out.of_block (h3.block g RM.out.lt))
      have B1 := Lib.hid (BW.out.trans (h3.mono BW.out.size))
      have hgp : gl ≠ p := by have := (HF.out.below BW.out).lt; omega
      have SA := slF_h (some ⟨gl, 0, none⟩) n n k (by omega)
      have SB := slF_l (some ⟨gl, 0, none⟩) n n k hk
      have S0 : Hid (Fr (fun b => b = p) w1 w1.drew) := (Fr.refl _ _).drawn ⟨1, rfl⟩
      have KB := become_at w1 p l F1.out [(some ⟨gl, 0, none⟩, n, l.take k), (some ⟨g, 0, none⟩, j, List.replicate j v), (subA (some ⟨gl, 0, none⟩) n k 1, n - k, l.drop k)] #[.slice (some ⟨gl, 0, none⟩) k n, .slice (some ⟨g, 0, none⟩) j j, .slice (subA (some ⟨gl, 0, none⟩) n k 1) (n - k) (n - k)] rfl (fun q hq => by
          have : q = 0 ∨ q = 1 ∨ q = 2 := by simp at hq; omega
          rcases this with rfl | rfl | rfl
          · show some (Value.slice (some ⟨gl, 0, none⟩) k n) = some (.slice (some ⟨gl, 0, none⟩) (l.take k).length n)
            rw [List.length_take, Nat.min_eq_left (by rw [← EN.out]; omega)]
          · show some (Value.slice (some ⟨g, 0, none⟩) j j) = some (.slice (some ⟨g, 0, none⟩) (List.replicate j v).length j)
            rw [List.length_replicate]
          · show some (Value.slice _ (n - k) _) = some (.slice _ (l.drop k).length _)
            rw [List.length_drop, EN.out]; rfl) (fun x hx => by
          have hs := row_seesO R1.out EN.out hgp
          simp only [List.mem_cons, List.not_mem_nil, or_false] at hx
          rcases hx with rfl | rfl | rfl
          · exact hs.first k (by rw [← EN.out]; omega)
          · exact row_seesO RM1.out (List.length_replicate ..).symm HGP.out
          · exact hs.rest (by rw [← EN.out]; exact Nat.le_refl _) (by rw [← EN.out]; exact hk)) (by
          show (l.take k ++ (List.replicate j v ++ (l.drop k ++ []))).length ≤ 4096
          rw [List.append_nil, List.length_append, List.length_append, List.length_take, List.length_drop, List.length_replicate, ← EN.out]; omega) (by show 3 ≤ 100; omega)
      rw [show cat [(some (⟨gl, 0, none⟩ : Addr), n, l.take k), (some ⟨g, 0, none⟩, j, List.replicate j v), (subA (some ⟨gl, 0, none⟩) n k 1, n - k, l.drop k)] = fIns l k j v from by unfold cat fIns; simp] at KB
      have KB := Lib.hid KB
      have FB : Hid (Fr (fun b => b = p) w w1) := ⟨B1.out.os, B1.out.tape, B1.out.output, B1.out.size, fun q hq _ => B1.out.block q hq⟩
      clear hgp KL h1 h2 h3 hlt
      go_wp2_with fail
      refine wp_region_plan [(false, 0), (false, 1), (false, 2), (false, 3), (false, 4), (false, 5), (false, 6), (false, 7), (true, 8), (true, 9)] (Fr (fun b => b = p) w1) (by kernel_rfl) (by kernel_rfl) (S0.out) _ (by simp only [pickH, List.getElem?_toArray, List.getElem?_cons_succ, List.getElem?_cons_zero]; rfl) ?_
      repeat (refine HWalk.step (fun K hK => ?_); first | (apply held_yes; (focus rfl); (focus (intro w' hw; have hc' := fr_cells hw; go_simp; rfl)); (go_simp; refine hK _ ?_; clear hK K)) | (refine ite_no (by decide) ?_; go_simp; refine hK _ ?_; clear hK K))
      clear SA SB
      refine HWalk.mark ?_
      go_wp2_with fail
      refine ⟨(((Fr.refl _ w1).alloc _).drawn ⟨1, rfl⟩), ?_⟩
      repeat (refine HWalk.step (fun K hK => ?_); first | (apply held_yes; (focus rfl); (focus (intro w' hw; have hc' := fr_cells hw; go_simp; rfl)); (go_simp; refine hK _ ?_; clear hK K)) | (refine ite_no (by decide) ?_; go_simp; refine hK _ ?_; clear hK K))
      refine HWalk.mark ?_
      go_wp2_with fail
      refine (KB.out).mono ?_
      rintro e w2 ⟨rfl, k1, k2⟩
      have F2 := Lib.hid k1
      have R2 := Lib.hid k2
      clear k1 k2
      go_wp2_with fail
      refine ⟨R2.out, ?_⟩
      repeat (refine HWalk.step (fun K hK => ?_); first | (apply held_yes; (focus rfl); (focus (intro w' hw; have hc' := fr_cells hw; go_simp; rfl)); (go_simp; refine hK _ ?_; clear hK K)) | (refine ite_no (by decide) ?_; go_simp; refine hK _ ?_; clear hK K))
      refine HWalk.done ?_
      go_wp2_with fail
      go_ret
      exact ⟨rfl, F2.out, FB.out.trans R2.out⟩
end Go.Proofs.YteodkmndghaidaaDoor

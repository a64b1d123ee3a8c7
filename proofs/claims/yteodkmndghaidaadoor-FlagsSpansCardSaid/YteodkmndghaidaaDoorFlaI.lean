/-
  Flags: Move.
-/
import Derived.Test.YteodkmndghaidaaDoorFlaH
namespace Go.Proofs.YteodkmndghaidaaDoor
open Go.RowKit
set_option linter.unusedVariables false
set_option linter.unusedSimpArgs false

set_option maxRecDepth 100000 in
set_option maxHeartbeats 800000 in
theorem fmov_bad (w : World) (p : Nat) (l : List Bool) (h : Fl w p l) (i n t : Int) (fi : Fits i) (fn : Fits n) (ft : Fits t) (hE : fMovErr l i n t = 4) :
    Calls Tryd.prog 26 #[.pointer (some ⟨p, 0, none⟩), .int .i64 i, .int .i64 n, .int .i64 t] w fun e w' => e = .returned (.int .i64 4) ∧ w = w' := by
  have KC := Lib.hid (fcheck_any w p l h i n fi fn)
  have hl := h.len
  obtain ⟨c0, c1, cw, fz⟩ := h.cells
  unfold fMovErr at hE
  generalize l.length = N at c0 hl hE KC
  obtain ⟨fn1, fn2⟩ := fn
  obtain ⟨ft1, ft2⟩ := ft
  clear c1 cw fz h
  by_cases ci : i < 0 ∨ n < 0 ∨ (N : Int) < i + n
  · rw [flErr_4 ci] at KC
    clear hE ci
    go_enter Tryd.func26, Tryd.ntmps26
    go_wp2_with fail
    refine (KC.out).mono ?_
    rintro e w' ⟨rfl, rfl⟩
    go_wp2_with fail
    go_ret
    exact ⟨rfl, rfl⟩
  rw [flErr_0 (by omega)] at KC
  have h2 : t < 0 ∨ (N : Int) - n < t := by
    by_cases c : t < 0 ∨ (N : Int) - n < t
    · exact c
    · rw [if_neg (by omega)] at hE; exact absurd hE (by decide)
  by_cases c1 : t < 0
  · clear hE ci h2
    go_enter Tryd.func26, Tryd.ntmps26
    go_wp2_with fail
    refine (KC.out).mono ?_
    rintro e w' ⟨rfl, rfl⟩
    go_wp2_with fail
    go_ret
    exact ⟨rfl, rfl⟩
  · have c2 : (N : Int) - n < t := by omega
    have c3 : ¬ n < 0 := by omega
    clear hE ci h2
    go_enter Tryd.func26, Tryd.ntmps26
    go_wp2_with fail
    refine (KC.out).mono ?_
    rintro e w' ⟨rfl, rfl⟩
    go_wp2_with fail
    go_ret
    exact ⟨rfl, rfl⟩
theorem subA_some (g c lo : Nat) : subA (some ⟨g, 0, none⟩) c lo 1 = some ⟨g, if c = lo then 0 else lo, none⟩ := by
  unfold subA
  by_cases h : c = lo
  · rw [if_pos h, if_pos h]
  · rw [if_neg h, if_neg h]
    show some (Addr.add _ _) = _
    rw [add_none, Nat.zero_add, Nat.mul_one]
/-- What the list holds behind the two copies. -/
def shut (l : List Bool) (k m : Nat) : List Bool := fRem l k m ++ l.drop (l.length - m)
theorem shut_len {l : List Bool} {k m : Nat} (h : k + m ≤ l.length) : (shut l k m).length = l.length := by
  unfold shut; rw [List.length_append, fRem_len h, List.length_drop]; omega
theorem bt_fRem {l : List Bool} {k m : Nat} (h : k + m ≤ l.length) (j : Nat) : bt (fRem l k m) j = if j < k then bt l j else bt l (j + m) := by
  unfold fRem
  rw [bt_app, List.length_take, Nat.min_eq_left (by omega)]
  by_cases c : j < k
  · rw [if_pos c, if_pos c, bt_take c]
  · rw [if_neg c, if_neg c, bt_drop, show k + m + (j - k) = j + m from by omega]
theorem bt_shut {l : List Bool} {k m : Nat} (h : k + m ≤ l.length) (j : Nat) : bt (shut l k m) j = if k ≤ j ∧ j < k + (l.length - (k + m)) then bt l (j + m) else bt l j := by
  unfold shut
  rw [bt_app, fRem_len h, bt_fRem h, bt_drop]
  by_cases c : j < l.length - m
  · rw [if_pos c]
    by_cases d : j < k
    · rw [if_pos d, if_neg (by omega)]
    · rw [if_neg d, if_pos (by omega)]
  · rw [if_neg c, if_neg (by omega), show l.length - m + (j - (l.length - m)) = j from by omega]
theorem shut_take {l : List Bool} {k m q : Nat} (h : k + m ≤ l.length) (hq : q ≤ l.length - m) : (shut l k m).take q = (fRem l k m).take q := by
  unfold shut; rw [List.take_append_of_le_length (by rw [fRem_len h]; exact hq)]
theorem shut_part {l : List Bool} {k m q : Nat} (h : k + m ≤ l.length) (hq : q ≤ l.length - m) : ((shut l k m).drop q).take (l.length - m - q) = (fRem l k m).drop q := by
  unfold shut
  rw [List.drop_append_of_le_length (by rw [fRem_len h]; exact hq), List.take_append_of_le_length (by rw [List.length_drop, fRem_len h]; exact Nat.le_refl _), List.take_of_length_le (by rw [List.length_drop, fRem_len h]; exact Nat.le_refl _)]
/-- copy(moved, l[at:]), copy(l[at:], l[at+n:]). -/
theorem two_copies (w : World) (g gm n k m : Nat) (l : List Bool) (hn : n = l.length) (hg : w.rowIs g 4 n (bvs l)) (hm : w.rowIs gm 4 m (fun _ => .bool false)) (hne : g ≠ gm) (hkm : k + m ≤ n) :
    ∃ w1, (∀ ty, (Builtin.copy_ #[22, 22] ty #[.slice (some ⟨gm, 0, none⟩) m m, .slice (subA (some ⟨g, 0, none⟩) n k 1) (n - k) (n - k)]).run Tryd.prog w = .ok (goInt m) w1) ∧
      ∃ w2, (∀ ty, (Builtin.copy_ #[22, 22] ty #[.slice (subA (some ⟨g, 0, none⟩) n k 1) (n - k) (n - k), .slice (subA (some ⟨g, 0, none⟩) n (k + m) 1) (n - (k + m)) (n - (k + m))]).run Tryd.prog w1.drew = .ok (goInt (n - (k + m) : Nat)) w2) ∧
        w2.rowIs g 4 n (bvs (shut l k m)) ∧ w2.rowIs gm 4 m (bvs ((l.drop k).take m)) ∧ Only w w1 gm ∧ Only w1.drew w2 g := by
  have hs : Sees w w.heap.size (some ⟨g, 0, none⟩) (n * 1) (bvs l) := by rw [Nat.mul_one]; exact Sees.row hg (Nat.le_refl _)
  have h1 := sees_sub (sz := 1) (c := n) (lo := k) (hi := n) hs (Nat.le_refl _) (by omega) (Nat.le_refl _)
  rw [Nat.mul_one] at h1
  obtain ⟨w1, r1, m1, o1⟩ := copy_row (P := Tryd.prog) w (dT := 22) (sT := 22) Tryd.underlying22 infoB1 hm 0 m m h1 (fun j => rfl) m (by show m = min (n - k) m; omega) (by omega) (sCap := n - k)
  have hg1 : w1.rowIs g 4 n (bvs l) := o1.row hg hne
  have hgd : w1.drew.rowIs g 4 n (bvs l) := hg1
  have hs2 : Sees w1.drew w1.drew.heap.size (some ⟨g, 0, none⟩) (n * 1) (bvs l) := by rw [Nat.mul_one]; exact Sees.row hgd (Nat.le_refl _)
  have h2 := sees_sub (sz := 1) (c := n) (lo := k + m) (hi := n) hs2 (Nat.le_refl _) (by omega) (Nat.le_refl _)
  rw [Nat.mul_one] at h2
  obtain ⟨w2, r2, m2, o2⟩ := copy_row (P := Tryd.prog) w1.drew (dT := 22) (sT := 22) Tryd.underlying22 infoB1 hgd (if n = k then 0 else k) (n - k) (n - k) h2 (fun j => rfl) (n - (k + m)) (by show _ = min (n - (k + m)) (n - k); omega) (by split <;> omega) (sCap := n - (k + m))
  refine ⟨w1, r1, w2, by rw [subA_some g n k]; exact r2, m2.congr fun j hj => ?_, (o2.row (show w1.drew.rowIs gm _ _ _ from m1) (Ne.symm hne)).congr fun j hj => ?_, o1, o2⟩
  · show (if (if n = k then 0 else k) ≤ j ∧ j < (if n = k then 0 else k) + (n - (k + m)) then Value.bool (bt l ((k + m) * 1 + (j - if n = k then 0 else k))) else Value.bool (bt l j)) = Value.bool (bt (shut l k m) j)
    rw [bt_shut (by omega), ← hn]
    by_cases c0 : n = k
    · rw [if_neg (by omega), if_neg (by omega)]
    · rw [if_neg c0]
      by_cases c : k ≤ j ∧ j < k + (n - (k + m))
      · rw [if_pos c, if_pos c]
        congr 2; omega
      · rw [if_neg c, if_neg c]
  · show (if 0 ≤ j ∧ j < 0 + m then Value.bool (bt l (k * 1 + (j - 0))) else Value.bool false) = Value.bool (bt ((l.drop k).take m) j)
    rw [if_pos (by omega), bt_take hj, bt_drop]
    congr 2; omega
set_option maxRecDepth 100000 in
set_option maxHeartbeats 6400000 in
theorem fmov_ok (w : World) (p : Nat) (l : List Bool) (h : Fl w p l) (k m q : Nat) (hkm : k + m ≤ l.length) (hq : q ≤ l.length - m) :
    Calls Tryd.prog 26 #[.pointer (some ⟨p, 0, none⟩), .int .i64 k, .int .i64 m, .int .i64 q] w fun e w' => e = .returned (.int .i64 0) ∧ Fl w' p (fMov l k m q) ∧ Fr (fun b => b = p) w w' := by
  have hn := h.len
  have KC := Lib.hid (fcheck_any w p l h k m ⟨by omega, by omega⟩ ⟨by omega, by omega⟩)
  rw [flErr_0 (by omega)] at KC
  have KL := Lib.hid (flist_any w p l h)
  have HF := Lib.hid h
  have c0 := h.cells.c0
  obtain ⟨n, en⟩ : ∃ n, n = l.length := ⟨_, rfl⟩
  rw [← en] at hn hkm KL hq c0
  have EN := Lib.hid en
  have hmk := make_F m (by omega)
  have q1 : ¬ (q : Int) < 0 := by omega
  have q2 : ¬ (n : Int) - (m : Int) < (q : Int) := by omega
  clear h en
  go_enter Tryd.func26, Tryd.ntmps26
  go_wp2_with fail
  refine (KC.out).mono ?_
  rintro e w' ⟨rfl, rfl⟩
  go_wp2_with fail
  clear c0 q1 q2 KC
  refine (KL.out).mono ?_
  rintro e w1 ⟨g, rfl, h1, h2, h3⟩
  have F1 := Lib.hid (HF.out.below h3)
  have hgp : g ≠ p := by have := HF.out.lt; omega
  have hg1 := h1.lt
  obtain ⟨W2, e2⟩ : ∃ W, W = w1.alloc (.cells (madeCells #[.bool false] m) 4) := ⟨_, rfl⟩
  have B2 : Hid (Below w1.heap.size w1 W2) := by rw [e2]; exact (Below.refl _ w1).alloc (Nat.le_refl _) _
  have RM : W2.rowIs w1.heap.size 4 m (fun _ => .bool false) := by rw [e2]; exact World.rowIs_made w1 (.bool false) m 4
  have RG : W2.rowIs g 4 n (bvs l) := h1.of_block (B2.out.block g hg1)
  obtain ⟨w3, r3, w4, r4, m3, m4, o3, o4⟩ := two_copies W2 g w1.heap.size n k m l EN.out RG RM (by omega) hkm
  have SA := slF_l (some ⟨g, 0, none⟩) n n k (by omega)
  have SB := slF_l (some ⟨g, 0, none⟩) n n (k + m) hkm
  rw [Int.natCast_add] at SB
  have hi6 : IntKind.i64.wrap ((k : Int) + (m : Int)) = (k : Int) + (m : Int) := IntWalk.i64_in _ (by omega)
  have S0 : Hid (Fr (fun b => b = g) w3 w3.drew) := (Fr.refl _ _).drawn ⟨1, rfl⟩
  have S1 : Hid (Fr (fun b => b = g) w3 w4) := S0.out.trans ⟨o4.os, o4.tape, o4.output, o4.size, fun x hx hn => o4.block x hx (fun e => hn (by injection e))⟩
  have O3 : Hid (Fr (fun b => b = w1.heap.size) W2 w3) := ⟨o3.os, o3.tape, o3.output, o3.size, fun x hx hn => o3.block x hx (fun e => hn (by injection e))⟩
  have B1 := Lib.hid h3
  have M3 := Lib.hid m3
  have M4 := Lib.hid m4
  have HGP := Lib.hid hgp
  have HG2 := Lib.hid h2
  have R3 := Lib.hid r3
  have R4 := Lib.hid r4
  have E2 := Lib.hid e2
  have HSA := Lib.hid SA
  clear KL h1 h2 h3 RM RG m3 m4 o3 o4 r3 r4 e2 hgp SB hi6
  have rc := R3.out
  rw [E2.out] at rc
  go_wp2_with fail
  clear SA rc hmk
  have SA := HSA.out
  have SB := slF_l (some ⟨g, 0, none⟩) n n (k + m) hkm
  rw [Int.natCast_add] at SB
  have hi6 : IntKind.i64.wrap ((k : Int) + (m : Int)) = (k : Int) + (m : Int) := IntWalk.i64_in _ (by omega)
  refine wp_region_plan [(false, 0), (false, 1), (false, 2), (false, 3), (false, 4), (false, 5), (false, 6), (false, 7), (true, 8)] (Fr (fun b => b = g) w3) (by kernel_rfl) (by kernel_rfl) (S0.out) _ (by simp only [pickH, List.getElem?_toArray, List.getElem?_cons_succ, List.getElem?_cons_zero]; rfl) ?_
  repeat (refine HWalk.step (fun K hK => ?_); first | (apply held_yes; (focus rfl); (focus (intro w' hw; have hc' := fr_cells hw; go_simp; rfl)); (go_simp; refine hK _ ?_; clear hK K)) | (refine ite_no (by decide) ?_; go_simp; refine hK _ ?_; clear hK K))
  clear SA SB hi6
  have rc := R4.out
  refine HWalk.mark ?_
  go_wp2_with fail
  clear rc
  refine ⟨S1.out, ?_⟩
  repeat (refine HWalk.step (fun K hK => ?_); first | (apply held_yes; (focus rfl); (focus (intro w' hw; have hc' := fr_cells hw; go_simp; rfl)); (go_simp; refine hK _ ?_; clear hK K)) | (refine ite_no (by decide) ?_; go_simp; refine hK _ ?_; clear hK K))
  refine HWalk.done ?_
  go_wp2_with fail
  have F4 : Hid (Fl w4 p l) := by
    have f2 := F1.out.below B2.out
    have f3 := f2.fr O3.out (by have := F1.out.lt; omega) (by have := F1.out.lt; have := F1.out.pos; omega)
    exact f3.fr S1.out (fun e => HGP.out e.symm) (by have := HG2.out; have := HF.out.lt; have := HF.out.pos; omega)
  have FB : Hid (Fr (fun b => b = p) w w4) := by
    have b1 : Below w.heap.size w W2 := B1.out.trans (B2.out.mono B1.out.size)
    have b2 : Below w.heap.size W2 w3 := O3.out.below b1.size (by rintro b rfl; exact B1.out.size)
    have b3 : Below w.heap.size w3 w4 := S1.out.below (Nat.le_trans b1.size b2.size) (by rintro b rfl; exact HG2.out)
    exact Fr.of_below ((b1.trans b2).trans b3)
  obtain ⟨gm, egm⟩ : ∃ gm, gm = w1.heap.size := ⟨_, rfl⟩
  rw [← egm] at M4 ⊢
  have hgm : gm ≠ p := by have := F1.out.lt; omega
  clear egm R3 R4 E2 HSA S0 S1 O3 B1 B2 F1 HG2 hg1
  have c4 := F4.out.cells.c0
  rw [← EN.out] at c4
  have SA := slF_h (some ⟨g, 0, none⟩) n n q (by omega)
  have SB := slF_lh (some ⟨g, 0, none⟩) n n q (n - m) hq (by omega)
  rw [Int.natCast_sub (show m ≤ n by omega)] at SB
  have hi6 : IntKind.i64.wrap ((n : Int) - (m : Int)) = (n : Int) - (m : Int) := IntWalk.i64_in _ (by omega)
  have hl2 := shut_len (l := l) (k := k) (m := m) (by rw [← EN.out]; exact hkm)
  have hqs : q ≤ l.length - m := by rw [← EN.out]; exact hq
  have hkl : k + m ≤ l.length := by rw [← EN.out]; exact hkm
  have KB := become_at w4 p l F4.out [(some ⟨g, 0, none⟩, n, (fRem l k m).take q), (some ⟨gm, 0, none⟩, m, (l.drop k).take m), (subA (some ⟨g, 0, none⟩) n q 1, n - q, (fRem l k m).drop q)] #[.slice (some ⟨g, 0, none⟩) q n, .slice (some ⟨gm, 0, none⟩) m m, .slice (subA (some ⟨g, 0, none⟩) n q 1) (n - m - q) (n - q)] rfl (fun j hj => by
      have : j = 0 ∨ j = 1 ∨ j = 2 := by simp at hj; omega
      rcases this with rfl | rfl | rfl
      · show some (Value.slice (some ⟨g, 0, none⟩) q n) = some (.slice (some ⟨g, 0, none⟩) ((fRem l k m).take q).length n)
        rw [List.length_take, fRem_len hkl, Nat.min_eq_left hqs]
      · show some (Value.slice (some ⟨gm, 0, none⟩) m m) = some (.slice (some ⟨gm, 0, none⟩) ((l.drop k).take m).length m)
        rw [List.length_take, List.length_drop, Nat.min_eq_left (by omega)]
      · show some (Value.slice _ (n - m - q) _) = some (.slice _ ((fRem l k m).drop q).length _)
        rw [List.length_drop, fRem_len hkl, EN.out]; rfl) (fun x hx => by
      have hs := row_seesO M3.out (EN.out.trans hl2.symm) HGP.out
      simp only [List.mem_cons, List.not_mem_nil, or_false] at hx
      rcases hx with rfl | rfl | rfl
      · have := hs.first q (by rw [hl2]; omega)
        rwa [shut_take hkl hqs] at this
      · exact row_seesO M4.out (by rw [List.length_take, List.length_drop]; omega) hgm
      · have := SeesO.part (c := n) (lo := q) (hi := n - m) hs (by rw [hl2, EN.out]; exact Nat.le_refl _) hq (by rw [hl2, EN.out]; omega)
        rw [EN.out] at this ⊢
        rwa [shut_part hkl hqs] at this) (by
      show ((fRem l k m).take q ++ ((l.drop k).take m ++ ((fRem l k m).drop q ++ []))).length ≤ 4096
      rw [List.append_nil, ← List.append_assoc]
      show (fMov l k m q).length ≤ 4096
      rw [fMov_len hkl hqs, ← EN.out]; exact hn) (by show 3 ≤ 100; omega)
  rw [show cat [(some (⟨g, 0, none⟩ : Addr), n, (fRem l k m).take q), (some ⟨gm, 0, none⟩, m, (l.drop k).take m), (subA (some ⟨g, 0, none⟩) n q 1, n - q, (fRem l k m).drop q)] = fMov l k m q from by unfold cat fMov; simp] at KB
  have KB := Lib.hid KB
  have LM : Hid ((fMov l k m q).length = n) := by show _ = _; rw [fMov_len hkl hqs, EN.out]
  have S0 : Hid (Fr (fun b => b = p) w4 w4.drew ∧ w4.drew.cell? ⟨p, 0, none⟩ = some (.int .i64 n)) := ⟨(Fr.refl _ _).drawn ⟨1, rfl⟩, c4⟩
  have C4 := Lib.hid c4
  have hp4 := F4.out.lt
  clear hl2 hqs hkl hgm
  refine wp_region_plan [(false, 0), (false, 1), (false, 2), (false, 3), (false, 4), (false, 5), (false, 6), (false, 7), (false, 8), (false, 9), (false, 10), (false, 11), (false, 12), (false, 13), (true, 14), (true, 15)] (fun y => Fr (fun b => b = p) w4 y ∧ y.cell? ⟨p, 0, none⟩ = some (.int .i64 n)) (by kernel_rfl) (by kernel_rfl) (S0.out) _ (by simp only [pickH, List.getElem?_toArray, List.getElem?_cons_succ, List.getElem?_cons_zero]; rfl) ?_
  repeat (refine HWalk.step (fun K hK => ?_); first | (apply held_yes; (focus rfl); (focus (intro w' hw; have hc' := hw.2; go_simp; rfl)); (go_simp; refine hK _ ?_; clear hK K)) | (refine ite_no (by decide) ?_; go_simp; refine hK _ ?_; clear hK K))
  clear SA SB hi6
  refine HWalk.mark ?_
  go_wp2_with fail
  refine ⟨((Fr.refl _ w4).alloc _).drawn ⟨1, rfl⟩, ?_⟩
  repeat (refine HWalk.step (fun K hK => ?_); first | (apply held_yes; (focus rfl); (focus (intro w' hw; have hc' := hw.2; go_simp; rfl)); (go_simp; refine hK _ ?_; clear hK K)) | (refine ite_no (by decide) ?_; go_simp; refine hK _ ?_; clear hK K))
  refine HWalk.mark ?_
  go_wp2_with fail
  refine (KB.out).mono ?_
  rintro e w5 ⟨rfl, k1, k2⟩
  have F5 := Lib.hid k1
  have R5 := Lib.hid k2
  have c5 := k1.cells.c0
  rw [LM.out] at c5
  have C5 := Lib.hid c5
  clear k1 k2 c5 c4
  go_wp2_with fail
  refine ⟨⟨R5.out, C5.out⟩, ?_⟩
  repeat (refine HWalk.step (fun K hK => ?_); first | (apply held_yes; (focus rfl); (focus (intro w' hw; have hc' := hw.2; go_simp; rfl)); (go_simp; refine hK _ ?_; clear hK K)) | (refine ite_no (by decide) ?_; go_simp; refine hK _ ?_; clear hK K))
  refine HWalk.done ?_
  go_wp2_with fail
  go_ret
  exact ⟨rfl, F5.out, FB.out.trans R5.out⟩
end Go.Proofs.YteodkmndghaidaaDoor

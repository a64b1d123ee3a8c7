/-
  Contracts of package fenwicks, second: At, Sum, add.
-/
import Derived.Test.YtafgdknfhchnpaaFenA
import Derived.LoopTactic
namespace Go.Proofs.Ytafgdknfhchnpaa
open Go.RowKit
set_option linter.unusedVariables false

set_option maxHeartbeats 400000 in
theorem fAt_ok (w : World) (B p n : Nat) (l : Nat → Int) (h : Fen w B p n l) (i : Nat) (hi : i < n) :
    Calls Try.prog 31 #[.pointer (some ⟨p, 0, none⟩), .int .i64 i] w fun e w' => e = .returned (.tuple #[.int .i64 (l i), .int .i64 0]) ∧ w = w' := by
  have HF := Lib.hid h
  obtain ⟨gs, gt, h1, _⟩ := h
  obtain ⟨c0, c1, c2, c3, fz⟩ := tcells_of h1.hp
  have hc := h1.hs.cell hi
  rw [i64s_at] at hc
  have hn := h1.ok.le
  clear fz h1
  go_enter Try.func31, Try.ntmps31
  go_wp2_with fail
  refine (flen_any w B p n l HF.out).mono ?_
  rintro e w' ⟨rfl, rfl⟩
  go_wp2_with fail
  refine (fat_ok w p c0 _ _ (by omega) (by omega)).mono ?_
  rintro e w' ⟨rfl, rfl⟩
  go_wp2_with fail
  go_ret2
  exact ⟨rfl, rfl⟩
set_option maxHeartbeats 400000 in
theorem fAt_bad (w : World) (B p n : Nat) (l : Nat → Int) (h : Fen w B p n l) (i : Int) (hi : i < 0 ∨ (n : Int) ≤ i) :
    Calls Try.prog 31 #[.pointer (some ⟨p, 0, none⟩), .int .i64 i] w fun e w' => e = .returned (.tuple #[.int .i64 0, .int .i64 4]) ∧ w = w' := by
  have HF := Lib.hid h
  obtain ⟨gs, gt, h1, _⟩ := h
  obtain ⟨c0, c1, c2, c3, fz⟩ := tcells_of h1.hp
  have hn := h1.ok.le
  have HI := Lib.hid hi
  clear fz h1 hi
  go_enter Try.func31, Try.ntmps31
  go_wp2_with fail
  refine (flen_any w B p n l HF.out).mono ?_
  rintro e w' ⟨rfl, rfl⟩
  go_wp2_with fail
  refine (fat_bad w p c0 _ _ (by have := HI.out; omega)).mono ?_
  rintro e w' ⟨rfl, rfl⟩
  go_wp2_with fail
  go_ret2
  exact ⟨rfl, rfl⟩

set_option maxHeartbeats 800000 in
theorem fSum_ok (w : World) (B p n : Nat) (l : Nat → Int) (h : Fen w B p n l) (i : Nat) (hi : i ≤ n) :
    Calls Try.prog 32 #[.pointer (some ⟨p, 0, none⟩), .int .i64 i] w fun e w' => e = .returned (.tuple #[.int .i64 (psum l i), .int .i64 0]) ∧ w = w' := by
  have HF := Lib.hid h
  obtain ⟨gs, gt, h1, _⟩ := h
  obtain ⟨c0, c1, c2, c3, fz⟩ := tcells_of h1.hp
  have HT := Lib.hid h1.ht
  have HO := Lib.hid h1.ok
  have hn := h1.ok.le
  clear fz h1
  go_enter Try.func32, Try.ntmps32
  go_wp2_with fail
  refine (flen_any w B p n l HF.out).mono ?_
  rintro e w' ⟨rfl, rfl⟩
  go_wp2_with fail
  refine (fat_ok w p c0 _ _ (by omega) (by omega)).mono ?_
  rintro e w' ⟨rfl, rfl⟩
  go_wp2_with fail
  go_loop [7, 8] (fun s k => ∃ (j : Nat) (x : Int), j ≤ i ∧ k = .int .i64 j ∧ s = .int .i64 x ∧ Hid (x = psum l i - psum l j)) (fun _ k => (intOf k).toNat)
  case atStart => exact ⟨i, 0, Nat.le_refl _, rfl, rfl, (by show _ = _; omega)⟩
  case round =>
    obtain ⟨j, x, hj, rfl, rfl, hx⟩ := hrel
    by_cases j0 : 0 < j
    · have hc := HT.out.cell (i := j) (by omega)
      rw [i64s_at] at hc
      have hb := bits_clr j j0 (by omega)
      have hlt := clr_lt j j0
      have b1 : 0 ≤ x ∧ x ≤ 4611686018427387904 := by
        have := hx.out; have := HO.out.mono hj hi; have := HO.out.bd hi; have := HO.out.bd (a := j) (by omega); omega
      have b2 := HO.out.fsum_bd (k := j) (by omega)
      have b3 : Hid (x + fsum l j = psum l i - psum l (clr j)) := by show _ = _; have := hx.out; unfold fsum; omega
      have b4 : x + fsum l j ≤ 4611686018427387904 := by
        rw [b3.out]; have := HO.out.bd hi; have := HO.out.bd (a := clr j) (by omega); omega
      obtain ⟨q, hq⟩ : ∃ q, q = fsum l j := ⟨_, rfl⟩
      obtain ⟨d, hd⟩ : ∃ d, d = clr j := ⟨_, rfl⟩
      rw [← hq] at hc b2 b3 b4
      rw [← hd] at hb hlt b3
      clear hq hd
      obtain ⟨b21, b22⟩ := b2
      obtain ⟨b11, b12⟩ := b1
      go_wp2_with fail
      go_round
      case rel => exact ⟨d, x + q, by omega, rfl, by go_num, b3⟩
      case measure => simp [intOf]; omega
    · obtain rfl : j = 0 := by omega
      have h0 : Hid (x = psum l i) := by show _ = _; have := hx.out; rw [this]; show psum l i - 0 = _; omega
      go_wp2_with fail
      go_ret2
      exact ⟨by rw [h0.out]; rfl, rfl⟩
set_option maxHeartbeats 400000 in
theorem fSum_bad (w : World) (B p n : Nat) (l : Nat → Int) (h : Fen w B p n l) (i : Int) (hi : i < 0 ∨ (n : Int) < i) :
    Calls Try.prog 32 #[.pointer (some ⟨p, 0, none⟩), .int .i64 i] w fun e w' => e = .returned (.tuple #[.int .i64 0, .int .i64 4]) ∧ w = w' := by
  have HF := Lib.hid h
  obtain ⟨gs, gt, h1, _⟩ := h
  obtain ⟨c0, c1, c2, c3, fz⟩ := tcells_of h1.hp
  have hn := h1.ok.le
  have HI := Lib.hid hi
  clear fz h1 hi
  go_enter Try.func32, Try.ntmps32
  go_wp2_with fail
  refine (flen_any w B p n l HF.out).mono ?_
  rintro e w' ⟨rfl, rfl⟩
  go_wp2_with fail
  refine (fat_bad w p c0 _ _ (by have := HI.out; omega)).mono ?_
  rintro e w' ⟨rfl, rfl⟩
  go_wp2_with fail
  go_ret2
  exact ⟨rfl, rfl⟩

theorem plusAt_at (l : Nat → Int) (i : Nat) (b : Int) : plusAt l i b i = l i + b := if_pos rfl
theorem plusAt_ne (l : Nat → Int) {i j : Nat} (b : Int) (h : j ≠ i) : plusAt l i b j = l j := if_neg h

set_option maxHeartbeats 1600000 in
theorem add_any (w : World) (B p n : Nat) (l : Nat → Int) (h : Fen w B p n l) (hB : B ≤ w.heap.size) (i : Nat) (hi : i < n) (b : Int) (fb : Fits b) (ho : Sizes (plusAt l i b) n) :
    Calls Try.prog 48 #[.pointer (some ⟨p, 0, none⟩), .int .i64 i, .int .i64 b] w fun e w' => e = .returned (.tuple #[]) ∧ Fen w' B p n (plusAt l i b) ∧ Below B w w' := by
  obtain ⟨gs, gt, h1, b1, b2, b3⟩ := h
  obtain ⟨c0, c1, c2, c3, fz⟩ := tcells_of h1.hp
  have z3 := fz 3
  have hc := h1.hs.cell hi
  have hf := h1.hs.frozen i
  rw [i64s_at] at hc
  have hn := h1.ok.le
  have o1 := ho.nn i hi
  have o2 := h1.ok.nn i hi
  have o3 := h1.ok.mono (a := i) (b := i + 1) (by omega) hi
  have o4 := h1.ok.bd (a := i + 1) hi
  have o5 := h1.ok.bd (a := i) (by omega)
  rw [psum_succ] at o4 o3
  have o6 := ho.mono (a := i) (b := i + 1) (by omega) hi
  have o7 := ho.bd (a := i + 1) hi
  have o8 := ho.bd (a := i) (by omega)
  rw [psum_succ] at o7 o6
  rw [plusAt_at] at o1 o6 o7
  have t1 := h1.ok.bd (Nat.le_refl n)
  have t2 := ho.bd (Nat.le_refl n)
  have t3 := psum_plusAt l i b n
  rw [if_pos hi] at t3
  have T3 := Lib.hid t3
  have t4 : 0 ≤ psum l n + b ∧ psum l n + b ≤ 4611686018427387904 := by omega
  obtain ⟨a1, a2⟩ : 0 ≤ l i + b ∧ l i + b ≤ 4611686018427387904 := by omega
  obtain ⟨a3, a4⟩ := t4
  have HG := Lib.hid h1
  have HO := Lib.hid ho
  have NE1 := Lib.hid h1.ne1
  obtain ⟨f1, f2⟩ := fb
  have e1 : psum l n ≤ 4611686018427387904 := t1.2
  have e2 : 0 ≤ psum l n := t1.1
  have e3 : l i ≤ 4611686018427387904 := by omega
  clear t1 t2 t3 o3 o4 o5 o6 o7 o8 o1 fz h1 ho
  have k3 : ∀ v, (w.setCell ⟨gs, i, none⟩ v).cell? ⟨p, 3, none⟩ = some (.int .i64 (psum l n)) := fun v => by
    rw [World.cell?_setCell_other _ _ _ _ (fun e => NE1.out (by injection e))]; exact c3
  -- the tree behind the two stores, its sums as before
  have HW : ∀ w2, w2 = (w.setCell ⟨gs, i, none⟩ (.int .i64 (l i + b))).setCell ⟨p, 3, none⟩ (.int .i64 (psum l n + b)) →
      w2.rowIs p 79 4 (treeCells gs gt n (psum (plusAt l i b) n)) ∧ w2.rowIs gs 2 n (i64s (plusAt l i b)) ∧ w2.rowIs gt 2 (n + 1) (i64s (fsum l)) ∧ Below B w w2 := by
    rintro w2 rfl
    refine ⟨(((HG.out.hp.setOther (Ne.symm NE1.out) _).set 3 _)).congr fun j hj => ?_, ((HG.out.hs.set i _).setOther NE1.out _).congr fun j hj => ?_, (HG.out.ht.setOther HG.out.ne3 _).setOther HG.out.ne2 _, (((Below.refl B w).setCell (p := ⟨gs, i, none⟩) b2 _).setCell (p := ⟨p, 3, none⟩) b1 _)⟩
    · match j, hj with
      | 0, _ => rfl
      | 1, _ => rfl
      | 2, _ => rfl
      | 3, _ => show Value.int .i64 _ = Value.int .i64 _; rw [T3.out]
    · show (if j = i then Value.int .i64 (l i + b) else .int .i64 (l j)) = .int .i64 (plusAt l i b j)
      by_cases c : j = i
      · rw [if_pos c, c, plusAt_at]
      · rw [if_neg c, plusAt_ne l b c]
  have HW' := Lib.hid HW
  clear HW
  go_enter Try.func48, Try.ntmps48
  go_wp2_with fail
  obtain ⟨w2, e2⟩ : ∃ w2, w2 = (w.setCell ⟨gs, i, none⟩ (.int .i64 (l i + b))).setCell ⟨p, 3, none⟩ (.int .i64 (psum l n + b)) := ⟨_, rfl⟩
  rw [← e2]
  obtain ⟨r1, r2, r3, r4⟩ := HW'.out w2 e2
  clear e2 HW' k3
  have NE2 := Lib.hid HG.out.ne2
  have NE3 := Lib.hid HG.out.ne3
  have OL := Lib.hid HG.out.ok
  have R := Lib.hid (show w2.rowIs p 79 4 (treeCells gs gt n (psum (plusAt l i b) n)) ∧ w2.rowIs gs 2 n (i64s (plusAt l i b)) ∧ w2.rowIs gt 2 (n + 1) (i64s fun m => if m < i + 1 then fsum (plusAt l i b) m else fsum l m) ∧ Below B w w2 from
    ⟨r1, r2, r3.congr (fun m _ => by
      show Value.int .i64 (fsum l m) = Value.int .i64 (if m < i + 1 then fsum (plusAt l i b) m else fsum l m)
      by_cases c : m < i + 1
      · rw [if_pos c, fsum_plusAt, if_neg (by omega), Int.add_zero]
      · rw [if_neg c]), r4⟩)
  have hci := clr_lt (i + 1) (by omega)
  clear r1 r2 r3 r4 c0 c1 c2 c3 z3 hc hf HG T3
  go_loopw [7] (fun k wr => ∃ j : Nat, clr j ≤ i ∧ i < j ∧ j ≤ 8192 ∧ k = .int .i64 j ∧ Hid (wr.rowIs p 79 4 (treeCells gs gt n (psum (plusAt l i b) n)) ∧ wr.rowIs gs 2 n (i64s (plusAt l i b)) ∧ wr.rowIs gt 2 (n + 1) (i64s fun m => if m < j then fsum (plusAt l i b) m else fsum l m) ∧ Below B w wr)) (fun k _ => n + 1 - (intOf k).toNat)
  case atStart => exact ⟨i + 1, by omega, by omega, by omega, by first | rfl | go_num, R⟩
  case round =>
    obtain ⟨j, hj1, hj2, hj3, rfl, hR⟩ := hrel
    obtain ⟨c0, c1, c2, c3, fz⟩ := tcells_of hR.out.1
    clear R fz
    by_cases hlt : j < n + 1
    · have hc := hR.out.2.2.1.cell (i := j) hlt
      have hf := hR.out.2.2.1.frozen j
      rw [i64s_at, if_neg (Nat.lt_irrefl j)] at hc
      have hki : (j : Int) < (n : Int) + 1 := by omega
      have b5 := OL.out.fsum_bd (k := j) (by omega)
      have b6 := HO.out.fsum_bd (k := j) (by omega)
      have b7 := fsum_plusAt l i b j
      rw [if_pos ⟨hj1, hj2⟩] at b7
      rw [b7] at b6
      obtain ⟨b51, b52⟩ := b5
      obtain ⟨b61, b62⟩ := b6
      have B7 := Lib.hid b7
      have u1 := up_gt j (by omega)
      have u2 := up_le j
      have u3 := clr_up j (by omega)
      have u4 := clr_mid j (by omega)
      have U4 := Lib.hid u4
      clear b7 u4
      have HN : Hid (∀ wr', wr' = wr.setCell ⟨gt, j, none⟩ (.int .i64 (fsum l j + b)) → wr'.rowIs p 79 4 (treeCells gs gt n (psum (plusAt l i b) n)) ∧ wr'.rowIs gs 2 n (i64s (plusAt l i b)) ∧ wr'.rowIs gt 2 (n + 1) (i64s fun m => if m < up j then fsum (plusAt l i b) m else fsum l m) ∧ Below B w wr') := by
        rintro wr' rfl
        refine ⟨hR.out.1.setOther (Ne.symm NE2.out) _, hR.out.2.1.setOther (Ne.symm NE3.out) _, (hR.out.2.2.1.set j _).congr fun m _ => ?_, hR.out.2.2.2.setCell (p := ⟨gt, j, none⟩) b3 _⟩
        show (if m = j then Value.int .i64 (fsum l j + b) else .int .i64 (if m < j then fsum (plusAt l i b) m else fsum l m)) = .int .i64 (if m < up j then fsum (plusAt l i b) m else fsum l m)
        by_cases d1 : m = j
        · rw [if_pos d1, d1, if_pos u1, B7.out]
        · rw [if_neg d1]
          by_cases d2 : m < j
          · rw [if_pos d2, if_pos (by omega)]
          · rw [if_neg d2]
            by_cases d3 : m < up j
            · rw [if_pos d3, fsum_plusAt, if_neg (by have := U4.out m (by omega) d3; omega), Int.add_zero]
            · rw [if_neg d3]
      obtain ⟨q, hq⟩ : ∃ q, q = up j := ⟨_, rfl⟩
      have HU : Hid (∀ W, Calls Try.prog 56 #[.int .i64 j] W fun e w' => e = .returned (.int .i64 q) ∧ W = w') := by rw [hq]; exact fun W => up_any W j (by omega) (by omega)
      rw [← hq] at u1 u2 u3 HN
      clear hq U4 B7 hR
      go_wp2_with fail
      refine (HU.out _).mono ?_
      rintro e w' ⟨rfl, rfl⟩
      go_wp2_with fail
      go_roundw
      case rel => exact ⟨q, by omega, by omega, by omega, by go_num, HN.out _ rfl⟩
      case measure => simp [intOf]; omega
    · have HE : Hid (Fen wr B p n (plusAt l i b) ∧ Below B w wr) := ⟨⟨gs, gt, ⟨hR.out.1, hR.out.2.1, hR.out.2.2.1.congr fun m hm => by show Value.int .i64 (if m < j then _ else _) = _; rw [if_pos (by omega)]; rfl, NE1.out, NE2.out, NE3.out, HO.out⟩, b1, b2, b3⟩, hR.out.2.2.2⟩
      clear hR
      go_wp2_with fail
      go_end0
      exact ⟨rfl, HE.out⟩
end Go.Proofs.Ytafgdknfhchnpaa

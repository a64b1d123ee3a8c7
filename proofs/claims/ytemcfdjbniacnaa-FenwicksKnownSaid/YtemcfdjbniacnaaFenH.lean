/-
  Contracts of package fenwicks, eighth: add and Set, with the blocks that they turn.
-/
import Derived.Test.YtemcfdjbniacnaaFenE
import Derived.Test.YtemcfdjbniacnaaFr
namespace Go.Proofs.Ytemcfdjbniacnaa
open Go.RowKit
set_option linter.unusedVariables false

def S3 (p gs gt : Nat) : Nat → Prop := fun b => b = p ∨ b = gs ∨ b = gt
theorem FG.keep {w w' : World} {p gs gt n : Nat} {l : Nat → Int} (h : FG w p gs gt n l) (k : ∀ b, S3 p gs gt b → b < w.heap.size → w'.heap[b]? = w.heap[b]?) : FG w' p gs gt n l :=
  ⟨h.hp.of_block (k p (.inl rfl) h.hp.lt), h.hs.of_block (k gs (.inr (.inl rfl)) h.hs.lt), h.ht.of_block (k gt (.inr (.inr rfl)) h.ht.lt), h.ne1, h.ne2, h.ne3, h.ok⟩
theorem FG.drawn {w w' : World} {p gs gt n : Nat} {l : Nat → Int} (h : FG w p gs gt n l) (hd : Drawn w w') : FG w' p gs gt n l := by obtain ⟨q, rfl⟩ := hd; exact h.keep fun _ _ _ => rfl
theorem FG.below {w w' : World} {p gs gt n : Nat} {l : Nat → Int} (h : FG w p gs gt n l) (hb : Below w.heap.size w w') : FG w' p gs gt n l := h.keep fun b _ hb' => hb.block b hb'
theorem FG.fen {w : World} {p gs gt n : Nat} {l : Nat → Int} (h : FG w p gs gt n l) : Fen w 0 p n l := ⟨gs, gt, h, Nat.zero_le _, Nat.zero_le _, Nat.zero_le _⟩
theorem FG.lt {w : World} {p gs gt n : Nat} {l : Nat → Int} (h : FG w p gs gt n l) : ∀ b, S3 p gs gt b → b < w.heap.size := by
  rintro b (rfl | rfl | rfl)
  · exact h.hp.lt
  · exact h.hs.lt
  · exact h.ht.lt

set_option maxHeartbeats 1600000 in
theorem add_fr (w : World) (p gs gt n : Nat) (l : Nat → Int) (h1 : FG w p gs gt n l) (i : Nat) (hi : i < n) (b : Int) (fb : Fits b) (ho : Sizes (plusAt l i b) n) :
    Calls Try.prog 24 #[.pointer (some ⟨p, 0, none⟩), .int .i64 i, .int .i64 b] w fun e w' => e = .returned (.tuple #[]) ∧ FG w' p gs gt n (plusAt l i b) ∧ Fr (S3 p gs gt) w w' := by
  obtain ⟨c0, c1, c2, c3, fz⟩ := tcells_of h1.hp
  have z3 := fz 3
  have hc := h1.hs.cell hi
  have hf := h1.hs.frozen i
  rw [i64s_at] at hc
  have hn := h1.ok.le
  have o1 := ho.nn i hi
  have o2 := h1.ok.nn i hi
  have o3 := h1.ok.mono (a := i) (b := i + 1) (by omega) hi
  have o4 := h1.ok.bd (a := i + 1) hi
  have o5 := h1.ok.bd (a := i) (by omega)
  rw [psum_succ] at o4 o3
  have o6 := ho.mono (a := i) (b := i + 1) (by omega) hi
  have o7 := ho.bd (a := i + 1) hi
  have o8 := ho.bd (a := i) (by omega)
  rw [psum_succ] at o7 o6
  rw [plusAt_at] at o1 o6 o7
  have t1 := h1.ok.bd (Nat.le_refl n)
  have t2 := ho.bd (Nat.le_refl n)
  have t3 := psum_plusAt l i b n
  rw [if_pos hi] at t3
  have T3 := Lib.hid t3
  have t4 : 0 ≤ psum l n + b ∧ psum l n + b ≤ 4611686018427387904 := by omega
  obtain ⟨a1, a2⟩ : 0 ≤ l i + b ∧ l i + b ≤ 4611686018427387904 := by omega
  obtain ⟨a3, a4⟩ := t4
  have HG := Lib.hid h1
  have HO := Lib.hid ho
  have NE1 := Lib.hid h1.ne1
  obtain ⟨f1, f2⟩ := fb
  have e1 : psum l n ≤ 4611686018427387904 := t1.2
  have e2 : 0 ≤ psum l n := t1.1
  have e3 : l i ≤ 4611686018427387904 := by omega
  clear t1 t2 t3 o3 o4 o5 o6 o7 o8 o1 fz h1 ho
  have k3 : ∀ v, (w.setCell ⟨gs, i, none⟩ v).cell? ⟨p, 3, none⟩ = some (.int .i64 (psum l n)) := fun v => by
    rw [World.cell?_setCell_other _ _ _ _ (fun e => NE1.out (by injection e))]; exact c3
  -- the tree behind the two stores, its sums as before
  have HW : ∀ w2, w2 = (w.setCell ⟨gs, i, none⟩ (.int .i64 (l i + b))).setCell ⟨p, 3, none⟩ (.int .i64 (psum l n + b)) →
      w2.rowIs p 52 4 (treeCells gs gt n (psum (plusAt l i b) n)) ∧ w2.rowIs gs 2 n (i64s (plusAt l i b)) ∧ w2.rowIs gt 2 (n + 1) (i64s (fsum l)) ∧ Fr (S3 p gs gt) w w2 := by
    rintro w2 rfl
    refine ⟨(((HG.out.hp.setOther (Ne.symm NE1.out) _).set 3 _)).congr fun j hj => ?_, ((HG.out.hs.set i _).setOther NE1.out _).congr fun j hj => ?_, (HG.out.ht.setOther HG.out.ne3 _).setOther HG.out.ne2 _, (((Fr.refl (S3 p gs gt) w).setCell (p := ⟨gs, i, none⟩) (.inr (.inl rfl)) _).setCell (p := ⟨p, 3, none⟩) (.inl rfl) _)⟩
    · match j, hj with
      | 0, _ => rfl
      | 1, _ => rfl
      | 2, _ => rfl
      | 3, _ => show Value.int .i64 _ = Value.int .i64 _; rw [T3.out]
    · show (if j = i then Value.int .i64 (l i + b) else .int .i64 (l j)) = .int .i64 (plusAt l i b j)
      by_cases c : j = i
      · rw [if_pos c, c, plusAt_at]
      · rw [if_neg c, plusAt_ne l b c]
  have HW' := Lib.hid HW
  clear HW
  go_enter Try.func24, Try.ntmps24
  go_wp2_with fail
  obtain ⟨w2, e2⟩ : ∃ w2, w2 = (w.setCell ⟨gs, i, none⟩ (.int .i64 (l i + b))).setCell ⟨p, 3, none⟩ (.int .i64 (psum l n + b)) := ⟨_, rfl⟩
  rw [← e2]
  obtain ⟨r1, r2, r3, r4⟩ := HW'.out w2 e2
  clear e2 HW' k3
  have NE2 := Lib.hid HG.out.ne2
  have NE3 := Lib.hid HG.out.ne3
  have OL := Lib.hid HG.out.ok
  have R := Lib.hid (show w2.rowIs p 52 4 (treeCells gs gt n (psum (plusAt l i b) n)) ∧ w2.rowIs gs 2 n (i64s (plusAt l i b)) ∧ w2.rowIs gt 2 (n + 1) (i64s fun m => if m < i + 1 then fsum (plusAt l i b) m else fsum l m) ∧ Fr (S3 p gs gt) w w2 from
    ⟨r1, r2, r3.congr (fun m _ => by
      show Value.int .i64 (fsum l m) = Value.int .i64 (if m < i + 1 then fsum (plusAt l i b) m else fsum l m)
      by_cases c : m < i + 1
      · rw [if_pos c, fsum_plusAt, if_neg (by omega), Int.add_zero]
      · rw [if_neg c]), r4⟩)
  have hci := clr_lt (i + 1) (by omega)
  clear r1 r2 r3 r4 c0 c1 c2 c3 z3 hc hf HG T3
  go_loopw [7] (fun k wr => ∃ j : Nat, clr j ≤ i ∧ i < j ∧ j ≤ 8192 ∧ k = .int .i64 j ∧ Hid (wr.rowIs p 52 4 (treeCells gs gt n (psum (plusAt l i b) n)) ∧ wr.rowIs gs 2 n (i64s (plusAt l i b)) ∧ wr.rowIs gt 2 (n + 1) (i64s fun m => if m < j then fsum (plusAt l i b) m else fsum l m) ∧ Fr (S3 p gs gt) w wr)) (fun k _ => n + 1 - (intOf k).toNat)
  case atStart => exact ⟨i + 1, by omega, by omega, by omega, by first | rfl | go_num, R⟩
  case round =>
    obtain ⟨j, hj1, hj2, hj3, rfl, hR⟩ := hrel
    obtain ⟨c0, c1, c2, c3, fz⟩ := tcells_of hR.out.1
    clear R fz
    by_cases hlt : j < n + 1
    · have hc := hR.out.2.2.1.cell (i := j) hlt
      have hf := hR.out.2.2.1.frozen j
      rw [i64s_at, if_neg (Nat.lt_irrefl j)] at hc
      have hki : (j : Int) < (n : Int) + 1 := by omega
      have b5 := OL.out.fsum_bd (k := j) (by omega)
      have b6 := HO.out.fsum_bd (k := j) (by omega)
      have b7 := fsum_plusAt l i b j
      rw [if_pos ⟨hj1, hj2⟩] at b7
      rw [b7] at b6
      obtain ⟨b51, b52⟩ := b5
      obtain ⟨b61, b62⟩ := b6
      have B7 := Lib.hid b7
      have u1 := up_gt j (by omega)
      have u2 := up_le j
      have u3 := clr_up j (by omega)
      have u4 := clr_mid j (by omega)
      have U4 := Lib.hid u4
      clear b7 u4
      have HN : Hid (∀ wr', wr' = wr.setCell ⟨gt, j, none⟩ (.int .i64 (fsum l j + b)) → wr'.rowIs p 52 4 (treeCells gs gt n (psum (plusAt l i b) n)) ∧ wr'.rowIs gs 2 n (i64s (plusAt l i b)) ∧ wr'.rowIs gt 2 (n + 1) (i64s fun m => if m < up j then fsum (plusAt l i b) m else fsum l m) ∧ Fr (S3 p gs gt) w wr') := by
        rintro wr' rfl
        refine ⟨hR.out.1.setOther (Ne.symm NE2.out) _, hR.out.2.1.setOther (Ne.symm NE3.out) _, (hR.out.2.2.1.set j _).congr fun m _ => ?_, hR.out.2.2.2.setCell (p := ⟨gt, j, none⟩) (.inr (.inr rfl)) _⟩
        show (if m = j then Value.int .i64 (fsum l j + b) else .int .i64 (if m < j then fsum (plusAt l i b) m else fsum l m)) = .int .i64 (if m < up j then fsum (plusAt l i b) m else fsum l m)
        by_cases d1 : m = j
        · rw [if_pos d1, d1, if_pos u1, B7.out]
        · rw [if_neg d1]
          by_cases d2 : m < j
          · rw [if_pos d2, if_pos (by omega)]
          · rw [if_neg d2]
            by_cases d3 : m < up j
            · rw [if_pos d3, fsum_plusAt, if_neg (by have := U4.out m (by omega) d3; omega), Int.add_zero]
            · rw [if_neg d3]
      obtain ⟨q, hq⟩ : ∃ q, q = up j := ⟨_, rfl⟩
      have HU : Hid (∀ W, Calls Try.prog 28 #[.int .i64 j] W fun e w' => e = .returned (.int .i64 q) ∧ W = w') := by rw [hq]; exact fun W => up_any W j (by omega) (by omega)
      rw [← hq] at u1 u2 u3 HN
      clear hq U4 B7 hR
      go_wp2_with fail
      refine (HU.out _).mono ?_
      rintro e w' ⟨rfl, rfl⟩
      go_wp2_with fail
      go_roundw
      case rel => exact ⟨q, by omega, by omega, by omega, by go_num, HN.out _ rfl⟩
      case measure => simp [intOf]; omega
    · have HE : Hid (FG wr p gs gt n (plusAt l i b) ∧ Fr (S3 p gs gt) w wr) := ⟨⟨hR.out.1, hR.out.2.1, hR.out.2.2.1.congr fun m hm => by show Value.int .i64 (if m < j then _ else _) = _; rw [if_pos (by omega)]; rfl, NE1.out, NE2.out, NE3.out, HO.out⟩, hR.out.2.2.2⟩
      clear hR
      go_wp2_with fail
      go_end0
      exact ⟨rfl, HE.out⟩

set_option maxHeartbeats 800000 in
theorem fSet_fr (w : World) (p gs gt n : Nat) (l : Nat → Int) (hg : FG w p gs gt n l) (i : Nat) (hi : i < n) (s : Int) (h1 : 0 ≤ s) (h2 : s ≤ 2305843009213693952) (hs : psum l n - l i + s ≤ 4611686018427387904) :
    Calls Try.prog 16 #[.pointer (some ⟨p, 0, none⟩), .int .i64 i, .int .i64 s] w fun e w' => e = .returned (.int .i64 0) ∧ FG w' p gs gt n (setAt l i s) ∧ Fr (S3 p gs gt) w w' := by
  have HG := Lib.hid hg
  have HF : Hid (Fen w 0 p n l) := ⟨gs, gt, hg, Nat.zero_le _, Nat.zero_le _, Nat.zero_le _⟩
  have hle := hg.ok.le
  obtain ⟨c0, c1, c2, c3, fz⟩ := tcells_of hg.hp
  have hc := hg.hs.cell hi
  rw [i64s_at] at hc
  have hn := hg.ok.le
  have o1 := hg.ok.nn i hi
  obtain ⟨t0, t1⟩ := hg.ok.bd (Nat.le_refl n)
  have o2 : l i ≤ psum l n := by
    have := hg.ok.mono (a := i + 1) (b := n) hi (Nat.le_refl n); have := (hg.ok.bd (a := i) (by omega)).1; rw [psum_succ] at *; omega
  have HA : Hid (∀ k, Calls Try.prog 24 #[.pointer (some ⟨p, 0, none⟩), .int .i64 i, .int .i64 (s - l i)] (w.drewN k) fun e w' => e = .returned (.tuple #[]) ∧ FG w' p gs gt n (setAt l i s) ∧ Fr (S3 p gs gt) w w') := by
    intro k
    refine (add_fr (w.drewN k) p gs gt n l (HG.out.drawn ⟨k, rfl⟩) i hi (s - l i) ⟨by omega, by omega⟩ (by rw [plusAt_setAt]; exact sizes_setAt l i n s hi hg.ok h1 hs)).mono ?_
    rintro e w' ⟨rfl, h3, h4⟩
    rw [plusAt_setAt] at h3
    exact ⟨rfl, h3, ((Fr.refl _ w).drawn ⟨k, rfl⟩).trans h4⟩
  obtain ⟨tot, htot⟩ : ∃ tot, tot = psum l n := ⟨_, rfl⟩
  obtain ⟨v, hv⟩ : ∃ v, v = l i := ⟨_, rfl⟩
  rw [← htot] at c3 hs t0 t1 o2
  rw [← hv] at hc hs o1 o2 HA
  have hs2 : ¬ 4611686018427387904 - (tot - v) < s := by omega
  clear fz hg htot hv
  go_enter Try.func16, Try.ntmps16
  go_wp2_with fail
  refine (flen_any w 0 p n l HF.out).mono ?_
  rintro e w' ⟨rfl, rfl⟩
  go_wp2_with fail
  refine (fat_ok w p c0 _ _ (by omega) (by omega)).mono ?_
  rintro e w' ⟨rfl, rfl⟩
  go_wp2_with fail
  go_quiet (fail)
  go_wp2_with fail
  refine (HA.out _).mono ?_
  rintro e w2 ⟨rfl, h3, h4⟩
  have HH := Lib.hid (And.intro h3 h4)
  clear h3 h4
  go_wp2_with fail
  go_ret
  exact ⟨rfl, HH.out⟩

/-- The error of a change. -/
def setErr (l : Nat → Int) (n : Nat) (i s : Int) : Int :=
  if i < 0 ∨ (n : Int) ≤ i then 4 else if s < 0 ∨ 2305843009213693952 < s then 12 else if 4611686018427387904 < psum l n - l i.toNat + s then 13 else 0
/-- The list behind it. -/
def setTo (l : Nat → Int) (n : Nat) (i s : Int) : Nat → Int := if setErr l n i s = 0 then setAt l i.toNat s else l

theorem fSet_any (w : World) (p gs gt n : Nat) (l : Nat → Int) (h : FG w p gs gt n l) (i s : Int) :
    Calls Try.prog 16 #[.pointer (some ⟨p, 0, none⟩), .int .i64 i, .int .i64 s] w fun e w' => e = .returned (.int .i64 (setErr l n i s)) ∧ FG w' p gs gt n (setTo l n i s) ∧ Fr (S3 p gs gt) w w' := by
  by_cases c1 : i < 0 ∨ (n : Int) ≤ i
  · have e1 : setErr l n i s = 4 := by unfold setErr; rw [if_pos c1]
    have e2 : setTo l n i s = l := by unfold setTo; rw [if_neg (by rw [e1]; decide)]
    rw [e1, e2]
    refine (fSet_range w 0 p n l h.fen i s c1).mono ?_
    rintro e w' ⟨rfl, rfl⟩
    exact ⟨rfl, h, Fr.refl _ _⟩
  obtain ⟨k, rfl⟩ : ∃ k : Nat, i = (k : Int) := ⟨i.toNat, by omega⟩
  have hk : k < n := by omega
  by_cases c2 : s < 0 ∨ 2305843009213693952 < s
  · have e1 : setErr l n k s = 12 := by unfold setErr; rw [if_neg c1, if_pos c2]
    have e2 : setTo l n k s = l := by unfold setTo; rw [if_neg (by rw [e1]; decide)]
    rw [e1, e2]
    refine (fSet_height w 0 p n l h.fen k hk s c2).mono ?_
    rintro e w' ⟨rfl, rfl⟩
    exact ⟨rfl, h, Fr.refl _ _⟩
  by_cases c3 : 4611686018427387904 < psum l n - l k + s
  · have e1 : setErr l n k s = 13 := by unfold setErr; rw [if_neg c1, if_neg c2, Int.toNat_natCast, if_pos c3]
    have e2 : setTo l n k s = l := by unfold setTo; rw [if_neg (by rw [e1]; decide)]
    rw [e1, e2]
    refine (fSet_over w 0 p n l h.fen k hk s (by omega) (by omega) c3).mono ?_
    rintro e w' ⟨rfl, hd⟩
    exact ⟨rfl, h.drawn hd, (Fr.refl _ _).drawn hd⟩
  · have e1 : setErr l n k s = 0 := by unfold setErr; rw [if_neg c1, if_neg c2, Int.toNat_natCast, if_neg c3]
    have e2 : setTo l n k s = setAt l k s := by unfold setTo; rw [if_pos e1, Int.toNat_natCast]
    rw [e1, e2]
    exact fSet_fr w p gs gt n l h k hk s (by omega) (by omega) (by omega)
end Go.Proofs.Ytemcfdjbniacnaa

/-
  Contracts of package fenwicks, third: Check, New.
-/
import Derived.Test.YtafgdknfhchnpaaFenB
import Derived.Test.YtafgdknfhchnpaaFenCk
import Derived.LoopTactic
import Derived.BigRegion
namespace Go.Proofs.Ytafgdknfhchnpaa
open Go.RowKit
set_option linter.unusedVariables false

theorem infoI64 : (Try.prog.info? 2).map (fun i => (i.zero, i.size, i.bytes)) = some (some (.int .i64 0), 1, 8) := by kernel_rfl
/-- make([]int64, n). -/
theorem make_i64 (n : Nat) (x : Int) (hx : x = (n : Int)) (hn : n ≤ 1000000) (W : World) :
    (Instr.makeSlice 22 (.int .i64 x) (.int .i64 x)).run Try.prog W = .ok (.slice (some ⟨W.heap.size, 0, none⟩) n n) (W.alloc (.cells (madeCells #[.int .i64 0] n) 2)) := by
  subst hx
  exact run_make_row' 22 2 (.int .i64 0) 8 Try.underlying22 infoI64 rfl .i64 .i64 n (by omega) (by omega) W

/-- The first k sizes. -/
def upto (l : Nat → Int) (k : Nat) : Nat → Int := fun j => if j < k then l j else 0
theorem upto_step (l : Nat → Int) (k : Nat) : plusAt (upto l k) k (l k) = upto l (k + 1) := by
  funext j
  unfold plusAt upto
  by_cases c : j = k
  · subst c; rw [if_pos rfl, if_neg (by omega), if_pos (by omega)]; omega
  · rw [if_neg c]
    by_cases d : j < k
    · rw [if_pos d, if_pos (by omega)]
    · rw [if_neg d, if_neg (by omega)]
theorem psum_upto (l : Nat → Int) (k : Nat) : ∀ m, psum (upto l k) m = psum l (min m k) := by
  intro m
  induction m with
  | zero => rw [Nat.zero_min]; rfl
  | succ m ih =>
    rw [psum_succ, ih]
    unfold upto
    by_cases c : m < k
    · rw [if_pos c, show min m k = m from by omega, show min (m + 1) k = m + 1 from by omega, psum_succ]
    · rw [if_neg c, show min m k = k from by omega, show min (m + 1) k = k from by omega]; omega
theorem sizes_of_chk (l : Nat → Int) (n : Nat) (hn : n ≤ 4096) (h : chkTo l n = 0) : Sizes l n :=
  ⟨fun j hj => (chkTo_step l (chkTo_zero l h (show j + 1 ≤ n from hj))).2.1, (psum_bd l h).2, hn⟩
theorem sizes_upto (l : Nat → Int) (n k : Nat) (h : Sizes l n) : Sizes (upto l k) n := by
  refine ⟨fun j hj => ?_, ?_, h.le⟩
  · unfold upto; by_cases c : j < k
    · rw [if_pos c]; exact h.nn j hj
    · rw [if_neg c]; exact Int.le_refl _
  · rw [psum_upto]; exact (h.bd (show min n k ≤ n by omega)).2
theorem psum_zero (k : Nat) (l : Nat → Int) : psum (upto l 0) k = 0 := by rw [psum_upto, Nat.min_zero]; rfl
theorem fsum_zero (k : Nat) (l : Nat → Int) : fsum (upto l 0) k = 0 := by unfold fsum; rw [psum_zero, psum_zero]; rfl

/-- The tree whose two rows and whose cells were made, in some order. -/
theorem fen_made (w : World) (W : World) (p gs gt n : Nat) (l : Nat → Int) (h : Sizes l n) (hp : W.rowIs p 79 4 (treeCells gs gt n 0)) (hs : W.rowIs gs 2 n (fun _ => .int .i64 0)) (ht : W.rowIs gt 2 (n + 1) (fun _ => .int .i64 0))
    (n1 : gs ≠ p) (n2 : gt ≠ p) (n3 : gt ≠ gs) (b1 : w.heap.size ≤ p) (b2 : w.heap.size ≤ gs) (b3 : w.heap.size ≤ gt) : Fen W w.heap.size p n (upto l 0) :=
  ⟨gs, gt, ⟨by rw [psum_zero]; exact hp, hs.congr fun j _ => (by show Value.int .i64 0 = Value.int .i64 (upto l 0 j); unfold upto; rw [if_neg (by omega)]), ht.congr fun j _ => (by show Value.int .i64 0 = Value.int .i64 (fsum (upto l 0) j); rw [fsum_zero]), n1, n2, n3, sizes_upto l n 0 h⟩, b1, b2, b3⟩

theorem fen_congr {w : World} {B p n : Nat} {l l' : Nat → Int} (h : Fen w B p n l) (e : ∀ j, j < n → l j = l' j) : Fen w B p n l' := by
  obtain ⟨gs, gt, h1, b1, b2, b3⟩ := h
  have ep : ∀ k, k ≤ n → psum l k = psum l' k := by
    intro k
    induction k with
    | zero => intro _; rfl
    | succ k ih => intro hk; rw [psum_succ, psum_succ, ih (by omega), e k (by omega)]
  refine ⟨gs, gt, ⟨by rw [← ep n (Nat.le_refl n)]; exact h1.hp, h1.hs.congr fun j hj => (by show Value.int .i64 _ = Value.int .i64 _; rw [e j hj]), h1.ht.congr fun j hj => ?_, h1.ne1, h1.ne2, h1.ne3, ⟨fun j hj => by rw [← e j hj]; exact h1.ok.nn j hj, by rw [← ep n (Nat.le_refl n)]; exact h1.ok.top, h1.ok.le⟩⟩, b1, b2, b3⟩
  have hc : clr j ≤ j := Nat.and_le_left
  show Value.int .i64 (fsum l j) = Value.int .i64 (fsum l' j)
  unfold fsum
  rw [ep j (by omega), ep (clr j) (by omega)]
theorem size_alloc' (w : World) (o : Obj) : (w.alloc o).heap.size = w.heap.size + 1 := by simp

/-- What New leaves. -/
def FNewPost (w : World) (n : Nat) (l : Nat → Int) (e : Ending) (w' : World) : Prop :=
  ∃ p, e = .returned (.tuple #[.pointer (some ⟨p, 0, none⟩), .int .i64 0]) ∧ Fen w' w.heap.size p n l ∧ Below w.heap.size w w'

theorem fnew_bad (A : Option Addr) (n c : Nat) (l : Nat → Int) (w : World) (B : Nat) (hs : Sees w B A n (i64s l)) (hf : ∀ k, Fits (l k)) (hn : n ≤ 1000000000000000) (hc : chk l n ≠ 0) :
    Calls Try.prog 28 #[.slice A n c] w fun e w' => e = .returned (.tuple #[.pointer none, .int .i64 (chk l n)]) ∧ w = w' := by
  have hne : (chk l n != 0) = true := by rw [bne_iff_ne]; exact hc
  go_enter Try.func28, Try.ntmps28
  go_wp2_with fail
  refine (fcheck_any A n c l w B hs hf hn).mono ?_
  rintro e w' ⟨rfl, rfl⟩
  go_wp2_with fail
  go_ret2
  exact ⟨rfl, rfl⟩

set_option maxHeartbeats 1600000 in
theorem fnew_ok (A : Option Addr) (n c : Nat) (l : Nat → Int) (w : World) (hs : Sees w w.heap.size A n (i64s l)) (hf : ∀ k, Fits (l k)) (hc : chk l n = 0) :
    Calls Try.prog 28 #[.slice A n c] w (FNewPost w n l) := by
  have hn : n ≤ 4096 := by
    rcases Nat.lt_or_ge 4096 n with h | h
    · unfold chk at hc; rw [if_pos h] at hc; exact absurd hc (by decide)
    · exact h
  have hck : chkTo l n = 0 := by unfold chk at hc; rwa [if_neg (by omega)] at hc
  have HS := Lib.hid hs
  have HC := Lib.hid hc
  have HO := Lib.hid (sizes_of_chk l n hn hck)
  have HF := Lib.hid hf
  clear hs hc hck hf
  have hm1 := fun W => make_i64 n n rfl (by omega) W
  have hm2 := fun W => make_i64 (n + 1) ((n : Int) + 1) (by omega) (by omega) W
  go_enter Try.func28, Try.ntmps28
  go_wp2_with fail
  refine (fcheck_any A n c l w _ HS.out HF.out (by omega)).mono ?_
  rintro e w' ⟨rfl, rfl⟩
  rw [HC.out]
  go_wp2_with fail
  go_region
  · have HFe : Hid (Fen (((w.alloc (.cells (madeCells #[.int .i64 0] n) 2)).alloc (.cells (madeCells #[.int .i64 0] (n + 1)) 2)).alloc (.cells #[.bool true, .slice (some ⟨w.heap.size, 0, none⟩) n n, .slice (some ⟨(w.heap.size + 1), 0, none⟩) (n + 1) (n + 1), .int .i64 0] 79)).drew w.heap.size (w.heap.size + 1 + 1) n (upto l 0)) := by
      refine fen_made w _ _ w.heap.size (w.heap.size + 1) n l HO.out ?_ ((((World.rowIs_made w (.int .i64 0) n 2).alloc _).alloc _).drew) (((by simpa using World.rowIs_made (w.alloc (.cells (madeCells #[.int .i64 0] n) 2)) (.int .i64 0) (n + 1) 2 : ((w.alloc (.cells (madeCells #[.int .i64 0] n) 2)).alloc (.cells (madeCells #[.int .i64 0] (n + 1)) 2)).rowIs (w.heap.size + 1) 2 (n + 1) (fun _ => .int .i64 0)).alloc _).drew) (by omega) (by omega) (by omega) (by omega) (by omega) (by omega)
      have := World.rowIs_alloc ((w.alloc (.cells (madeCells #[.int .i64 0] n) 2)).alloc (.cells (madeCells #[.int .i64 0] (n + 1)) 2)) #[.bool true, .slice (some ⟨w.heap.size, 0, none⟩) n n, .slice (some ⟨(w.heap.size + 1), 0, none⟩) (n + 1) (n + 1), .int .i64 0] 79 (treeCells w.heap.size (w.heap.size + 1) n 0) (fun j hj => by
        match j, hj with
        | 0, _ => rfl
        | 1, _ => rfl
        | 2, _ => rfl
        | 3, _ => rfl)
      simp only [size_alloc'] at this
      exact this
    have HBl : Hid (Below w.heap.size w (((w.alloc (.cells (madeCells #[.int .i64 0] n) 2)).alloc (.cells (madeCells #[.int .i64 0] (n + 1)) 2)).alloc (.cells #[.bool true, .slice (some ⟨w.heap.size, 0, none⟩) n n, .slice (some ⟨(w.heap.size + 1), 0, none⟩) (n + 1) (n + 1), .int .i64 0] 79)).drew) := ((((Below.refl _ w).alloc (Nat.le_refl _) _).alloc (by simp) _).alloc (by simp; omega) _).drew
    obtain ⟨p, hp⟩ : ∃ p, p = w.heap.size + 1 + 1 := ⟨_, rfl⟩
    rw [← hp] at HFe
    rw [← hp]
    clear hp hm1 hm2
    go_wp2_with fail
    go_loopw [24] (fun i wr => ∃ k : Nat, k ≤ n ∧ i = .int .i64 k ∧ Hid (Fen wr w.heap.size p n (upto l k)) ∧ Hid (Below w.heap.size w wr)) (fun i _ => n - (intOf i).toNat)
    case atStart => exact ⟨0, Nat.zero_le _, rfl, HFe, HBl⟩
    case round =>
      obtain ⟨k, hk, rfl, hFe, hBl⟩ := hrel
      clear HFe HBl
      by_cases hlt : k < n
      · obtain ⟨b, o, rfl, _, hc⟩ := (HS.out.below hBl.out).at_ hlt
        rw [i64s_at] at hc
        have HA : Hid (Calls Try.prog 48 #[.pointer (some ⟨p, 0, none⟩), .int .i64 k, .int .i64 (l k)] wr fun e w' => e = .returned (.tuple #[]) ∧ Fen w' w.heap.size p n (upto l (k + 1)) ∧ Below w.heap.size wr w') := by
          have := add_any wr w.heap.size p n (upto l k) hFe.out hBl.out.size k hlt (l k) (HF.out k) (by rw [upto_step]; exact sizes_upto l n _ HO.out)
          rw [upto_step] at this
          exact this
        go_wp2_with fail
        refine HA.out.mono ?_
        rintro e w5 ⟨rfl, h5, h6⟩
        have h7 := Lib.hid h5
        have h8 := Lib.hid (hBl.out.trans h6)
        clear h5 h6 HA
        go_wp2_with fail
        go_roundw
        case rel => exact ⟨k + 1, by omega, by go_num, h7, h8⟩
        case measure => simp [intOf]; omega
      · obtain rfl : k = n := by omega
        have HP : Hid (FNewPost w k l (.returned (.tuple #[.pointer (some ⟨p, 0, none⟩), .int .i64 0])) wr) := ⟨p, rfl, fen_congr hFe.out fun j hj => if_pos hj, hBl.out⟩
        clear hFe hBl
        go_wp2_with fail
        go_ret2
        exact HP.out
  · have HFe : Hid (Fen (((w.alloc (.cells (madeCells #[.int .i64 0] (n + 1)) 2)).alloc (.cells (madeCells #[.int .i64 0] n) 2)).alloc (.cells #[.bool true, .slice (some ⟨(w.heap.size + 1), 0, none⟩) n n, .slice (some ⟨w.heap.size, 0, none⟩) (n + 1) (n + 1), .int .i64 0] 79)).drew w.heap.size (w.heap.size + 1 + 1) n (upto l 0)) := by
      refine fen_made w _ _ (w.heap.size + 1) w.heap.size n l HO.out ?_ (((by simpa using World.rowIs_made (w.alloc (.cells (madeCells #[.int .i64 0] (n + 1)) 2)) (.int .i64 0) n 2 : ((w.alloc (.cells (madeCells #[.int .i64 0] (n + 1)) 2)).alloc (.cells (madeCells #[.int .i64 0] n) 2)).rowIs (w.heap.size + 1) 2 n (fun _ => .int .i64 0)).alloc _).drew) ((((World.rowIs_made w (.int .i64 0) (n + 1) 2).alloc _).alloc _).drew) (by omega) (by omega) (by omega) (by omega) (by omega) (by omega)
      have := World.rowIs_alloc ((w.alloc (.cells (madeCells #[.int .i64 0] (n + 1)) 2)).alloc (.cells (madeCells #[.int .i64 0] n) 2)) #[.bool true, .slice (some ⟨(w.heap.size + 1), 0, none⟩) n n, .slice (some ⟨w.heap.size, 0, none⟩) (n + 1) (n + 1), .int .i64 0] 79 (treeCells (w.heap.size + 1) w.heap.size n 0) (fun j hj => by
        match j, hj with
        | 0, _ => rfl
        | 1, _ => rfl
        | 2, _ => rfl
        | 3, _ => rfl)
      simp only [size_alloc'] at this
      exact this
    have HBl : Hid (Below w.heap.size w (((w.alloc (.cells (madeCells #[.int .i64 0] (n + 1)) 2)).alloc (.cells (madeCells #[.int .i64 0] n) 2)).alloc (.cells #[.bool true, .slice (some ⟨(w.heap.size + 1), 0, none⟩) n n, .slice (some ⟨w.heap.size, 0, none⟩) (n + 1) (n + 1), .int .i64 0] 79)).drew) := ((((Below.refl _ w).alloc (Nat.le_refl _) _).alloc (by simp) _).alloc (by simp; omega) _).drew
    obtain ⟨p, hp⟩ : ∃ p, p = w.heap.size + 1 + 1 := ⟨_, rfl⟩
    rw [← hp] at HFe
    rw [← hp]
    clear hp hm1 hm2
    go_wp2_with fail
    go_loopw [24] (fun i wr => ∃ k : Nat, k ≤ n ∧ i = .int .i64 k ∧ Hid (Fen wr w.heap.size p n (upto l k)) ∧ Hid (Below w.heap.size w wr)) (fun i _ => n - (intOf i).toNat)
    case atStart => exact ⟨0, Nat.zero_le _, rfl, HFe, HBl⟩
    case round =>
      obtain ⟨k, hk, rfl, hFe, hBl⟩ := hrel
      clear HFe HBl
      by_cases hlt : k < n
      · obtain ⟨b, o, rfl, _, hc⟩ := (HS.out.below hBl.out).at_ hlt
        rw [i64s_at] at hc
        have HA : Hid (Calls Try.prog 48 #[.pointer (some ⟨p, 0, none⟩), .int .i64 k, .int .i64 (l k)] wr fun e w' => e = .returned (.tuple #[]) ∧ Fen w' w.heap.size p n (upto l (k + 1)) ∧ Below w.heap.size wr w') := by
          have := add_any wr w.heap.size p n (upto l k) hFe.out hBl.out.size k hlt (l k) (HF.out k) (by rw [upto_step]; exact sizes_upto l n _ HO.out)
          rw [upto_step] at this
          exact this
        go_wp2_with fail
        refine HA.out.mono ?_
        rintro e w5 ⟨rfl, h5, h6⟩
        have h7 := Lib.hid h5
        have h8 := Lib.hid (hBl.out.trans h6)
        clear h5 h6 HA
        go_wp2_with fail
        go_roundw
        case rel => exact ⟨k + 1, by omega, by go_num, h7, h8⟩
        case measure => simp [intOf]; omega
      · obtain rfl : k = n := by omega
        have HP : Hid (FNewPost w k l (.returned (.tuple #[.pointer (some ⟨p, 0, none⟩), .int .i64 0])) wr) := ⟨p, rfl, fen_congr hFe.out fun j hj => if_pos hj, hBl.out⟩
        clear hFe hBl
        go_wp2_with fail
        go_ret2
        exact HP.out
end Go.Proofs.Ytafgdknfhchnpaa

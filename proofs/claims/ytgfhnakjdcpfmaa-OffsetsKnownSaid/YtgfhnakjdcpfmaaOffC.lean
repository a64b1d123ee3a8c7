/-
  Contracts of Tops and Rows of package offsets, and of the law's own comparison of rows.
-/
import Derived.Test.YtgfhnakjdcpfmaaRows
import Derived.Test.YtgfhnakjdcpfmaaMem
import Derived.Test.YtgfhnakjdcpfmaaFlo
import Derived.Test.YtgfhnakjdcpfmaaSz
import Derived.Test.YtgfhnakjdcpfmaaOffA
import Derived.Test.YtgfhnakjdcpfmaaOffB
import Derived.LoopTactic
import Derived.Outline
import Derived.Deep.QuietTactic
import Derived.BigQuiet
namespace Go.Proofs.Ytgfhnakjdcpfmaa
open Go.RowKit
set_option linter.unusedVariables false

theorem Try.infoI64 : (Try.prog.info? 2).map (fun i => (i.zero, i.size, i.bytes)) = some (some (.int .i64 0), 1, 8) := by kernel_rfl
theorem Try.infoC : (Try.prog.info? 46).map (fun i => (i.zero, i.size, i.bytes)) = some (some (.complex .f64 0 0), 1, 16) := by kernel_rfl

/-- make([]int64, n). -/
theorem make_i64 (n : Nat) (x : Int) (hx : x = (n : Int)) (hn : n ≤ 1000000) (W : World) :
    (Instr.makeSlice 36 (.int .i64 x) (.int .i64 x)).run Try.prog W = .ok (.slice (some ⟨W.heap.size, 0, none⟩) n n) (W.alloc (.cells (madeCells #[.int .i64 0] n) 2)) := by
  subst hx
  exact run_make_row' 36 2 (.int .i64 0) 8 Try.underlying36 Try.infoI64 rfl .i64 .i64 n (by omega) (by omega) W
theorem make_c128 (n : Nat) (x : Int) (hx : x = (n : Int)) (hn : n ≤ 1000000) (W : World) :
    (Instr.makeSlice 42 (.int .i64 x) (.int .i64 x)).run Try.prog W = .ok (.slice (some ⟨W.heap.size, 0, none⟩) n n) (W.alloc (.cells (madeCells #[.complex .f64 0 0] n) 46)) := by
  subst hx
  exact run_make_row' 42 46 (.complex .f64 0 0) 16 Try.underlying42 Try.infoC rfl .i64 .i64 n (by omega) (by omega) W

/-- What Tops returns of valid sizes. -/
def TopsOk (l : Nat → Int) (n : Nat) (w : World) (e : Ending) (w' : World) : Prop :=
  ∃ g, e = .returned (.tuple #[.slice (some ⟨g, 0, none⟩) (n + 1) (n + 1), .int .i64 0]) ∧ w'.rowIs g 2 (n + 1) (i64s (psum l)) ∧ w.heap.size ≤ g ∧ Below w.heap.size w w'
/-- What it returns of others. -/
def TopsBad (c : Int) (w : World) (e : Ending) (w' : World) : Prop :=
  e = .returned (.tuple #[.slice none 0 0, .int .i64 c]) ∧ Below w.heap.size w w'
def TopsAny (l : Nat → Int) (n : Nat) (w : World) (e : Ending) (w' : World) : Prop :=
  (chk l n = 0 ∧ TopsOk l n w e w') ∨ (chk l n ≠ 0 ∧ TopsBad (chk l n) w e w')

/-- The tops that are reckoned already. -/
def upto (l : Nat → Int) (k : Nat) : Nat → Value := fun j => .int .i64 (if j ≤ k then psum l j else 0)

set_option maxHeartbeats 800000 in
theorem tops_any (A : Option Addr) (n c : Nat) (l : Nat → Int) (w : World) (hs : Sees w w.heap.size A n (i64s l)) (hf : ∀ k, Fits (l k)) (hn : n ≤ 1000000000000000) :
    Calls Try.prog 21 #[.slice A n c] w (TopsAny l n w) := by
  by_cases hbig : 4096 < n
  · have hc : chk l n = 3 := by unfold chk; rw [if_pos hbig]
    have H : TopsBad 3 w (.returned (.tuple #[.slice none 0 0, .int .i64 3])) w := ⟨rfl, Below.refl _ _⟩
    have HH : TopsAny l n w (.returned (.tuple #[.slice none 0 0, .int .i64 3])) w := .inr ⟨by rw [hc]; decide, by rw [hc]; exact H⟩
    clear hc H
    go_enter Try.func21, Try.ntmps21
    go_wp2
    go_ret2
    exact HH
  · have hfin : Hid (chk l n = chkTo l n) := by show chk l n = _; unfold chk; rw [if_neg hbig]
    have hle : n ≤ 4096 := by omega
    clear hbig
    have bad : ∀ (k : Nat) (x : Int) (w' : World), k < n → chkTo l (k + 1) = x → x ≠ 0 → Below w.heap.size w w' → TopsAny l n w (.returned (.tuple #[.slice none 0 0, .int .i64 x])) w' := by
      intro k x w' hk hx hx0 hb
      have e : chk l n = x := hfin.out.trans ((chkTo_stays l (by rw [hx]; exact hx0) hk).trans hx)
      exact .inr ⟨by rw [e]; exact hx0, by rw [e]; exact ⟨rfl, hb⟩⟩
    have HB := Lib.hid bad; clear bad
    have hmk := make_i64 (n + 1) ((n : Int) + 1) (by omega) (by omega)
    go_enter Try.func21, Try.ntmps21
    go_wp2
    clear hmk
    go_loopw [16] (fun i wr => ∃ k : Nat, k ≤ n ∧ i = .int .i64 k ∧ wr.rowIs w.heap.size 2 (n + 1) (upto l k) ∧ Below w.heap.size w wr ∧ Hid (chkTo l k = 0)) (fun i _ => n - (intOf i).toNat)
    case atStart =>
      refine ⟨0, Nat.zero_le _, rfl, (World.rowIs_made w (.int .i64 0) (n + 1) 2).congr (fun j _ => ?_), (Below.refl _ _).alloc (Nat.le_refl _) _, rfl⟩
      unfold upto
      by_cases hj : j = 0
      · subst hj; rfl
      · rw [if_neg (by omega)]
    case round =>
      obtain ⟨k, hk, rfl, hrow, hb, h0⟩ := hrel
      by_cases hlt : k < n
      · obtain ⟨b, o, rfl, hbb, hcell0⟩ := hs.at_ (k := k) hlt
        have hcell : wr.cell? ⟨b, o + k, none⟩ = some (.int .i64 (l k)) := (hb.cell (p := ⟨b, o + k, none⟩) hbb).trans hcell0
        have hg : wr.cell? ⟨w.heap.size, k, none⟩ = some (.int .i64 (psum l k)) := by
          have := hrow.cell (i := k) (by omega)
          unfold upto at this
          rwa [if_pos (Nat.le_refl _)] at this
        have hg1 : wr.cell? ⟨w.heap.size, k + 1, none⟩ = some (.int .i64 0) := by
          have := hrow.cell (i := k + 1) (by omega)
          unfold upto at this
          rwa [if_neg (by omega)] at this
        have hfz : wr.frozen? ⟨w.heap.size, k + 1, none⟩ = false := hrow.frozen _
        clear hcell0
        obtain ⟨p1, p2⟩ := psum_bd l h0.out
        obtain ⟨f1, f2⟩ := hf k
        by_cases c1 : l k < 0
        · have H := HB.out k 12 wr hlt (chkTo_12 l h0.out (.inl c1)) (by decide) hb
          have H := Lib.hid H
          go_wp2
          go_ret2
          exact H.out
        · by_cases c2 : 2305843009213693952 < l k
          · have H := HB.out k 12 wr hlt (chkTo_12 l h0.out (.inr c2)) (by decide) hb
            have H := Lib.hid H
            go_wp2
            go_ret2
            exact H.out
          · by_cases c3 : 4611686018427387904 - psum l k < l k
            · have H := HB.out k 13 wr hlt (chkTo_13 l h0.out (by omega) (by omega) (by omega)) (by decide) hb
              have H := Lib.hid H
              go_wp2
              go_ret2
              exact H.out
            · have H0 : Hid (chkTo l (k + 1) = 0) := chkTo_0 l h0.out (by omega) (by omega) (by omega)
              have hrow' : (wr.setCell ⟨w.heap.size, k + 1, none⟩ (.int .i64 (psum l k + l k))).rowIs w.heap.size 2 (n + 1) (upto l (k + 1)) := by
                refine (hrow.set (k + 1) _).congr (fun j _ => ?_)
                unfold upto
                by_cases hj : j = k + 1
                · subst hj
                  rw [if_pos rfl, if_pos (Nat.le_refl _), psum_succ]
                · rw [if_neg hj]
                  by_cases hj2 : j ≤ k
                  · rw [if_pos hj2, if_pos (by omega)]
                  · rw [if_neg hj2, if_neg (by omega)]
              have HR := Lib.hid hrow'; clear hrow'
              go_wp2
              go_roundw
              case rel => exact ⟨k + 1, by omega, by go_num, HR.out, hb.setCell (Nat.le_refl _) _, H0⟩
              case measure => simp [intOf]; omega
      · obtain rfl : k = n := by omega
        have H : TopsAny l k w (.returned (.tuple #[.slice (some ⟨w.heap.size, 0, none⟩) (k + 1) (k + 1), .int .i64 0])) wr := by
          refine .inl ⟨hfin.out.trans h0.out, w.heap.size, rfl, hrow.congr (fun j hj => ?_), Nat.le_refl _, hb⟩
          unfold upto i64s
          rw [if_pos (by omega)]
        have H := Lib.hid H
        go_wp2
        go_ret2
        exact H.out

/-- The rows of sizes. -/
def cxs (l : Nat → Int) : Nat → Value := fun j => .complex .f64 (F (psum l j)) (F (l j))
/-- What Rows returns. -/
def RowsOk (l : Nat → Int) (n : Nat) (w : World) (e : Ending) (w' : World) : Prop :=
  ∃ A, e = .returned (.tuple #[.slice A n n, .int .i64 0]) ∧ Sees w' w'.heap.size A n (cxs l) ∧ Below w.heap.size w w'
def RowsBad (c : Int) (w : World) (e : Ending) (w' : World) : Prop :=
  e = .returned (.tuple #[.slice none 0 0, .int .i64 c]) ∧ Below w.heap.size w w'
/-- The error of Rows. -/
def rowsErr (l : Nat → Int) (n : Nat) : Int := if chk l n ≠ 0 then chk l n else if 9007199254740992 ≤ psum l n then 13 else 0
def RowsAny (l : Nat → Int) (n : Nat) (w : World) (e : Ending) (w' : World) : Prop :=
  (rowsErr l n = 0 ∧ RowsOk l n w e w') ∨ (rowsErr l n ≠ 0 ∧ RowsBad (rowsErr l n) w e w')

attribute [local go_sem] run_store_complex'

def cxsTo (l : Nat → Int) (k : Nat) : Nat → Value := fun j => if j < k then cxs l j else .complex .f64 0 0

set_option maxHeartbeats 800000 in
theorem rows_any (A : Option Addr) (n c : Nat) (l : Nat → Int) (w : World) (hs : Sees w w.heap.size A n (i64s l)) (hf : ∀ k, Fits (l k)) (hn : n ≤ 1000000000000000) :
    Calls Try.prog 23 #[.slice A n c] w (RowsAny l n w) := by
  go_enter Try.func23, Try.ntmps23
  go_wp2_with fail
  refine (tops_any A n c l w hs hf hn).mono ?_
  rintro e w1 (⟨h0, g, rfl, hrow, hg, hb⟩ | ⟨h0, rfl, hb⟩)
  · have hle : n ≤ 4096 := by unfold chk at h0; by_cases hb : 4096 < n; (rw [if_pos hb] at h0; exact absurd h0 (by decide)); omega
    have hct : chkTo l n = 0 := by unfold chk at h0; rwa [if_neg (by omega)] at h0
    have pz := psum_bd l hct
    have H0 := Lib.hid h0; clear h0
    have HT := Lib.hid hct; clear hct
    by_cases hn0 : n = 0
    · subst hn0
      have H : RowsAny l 0 w (.returned (.tuple #[.slice none 0 0, .int .i64 0])) w1 := .inl ⟨by unfold rowsErr; rw [if_neg (by rw [H0.out]; decide), if_neg (by show ¬ _ ≤ (0 : Int); decide)], none, rfl, Sees.nil, hb⟩
      have H := Lib.hid H
      go_wp2_with fail
      go_ret2
      exact H.out
    · have hne : ((n : Int) == 0) = false := by simp; omega
      have hgn : w1.cell? ⟨g, n, none⟩ = some (.int .i64 (psum l n)) := hrow.cell (i := n) (by omega)
      by_cases hbig : 9007199254740992 ≤ psum l n
      · have H : RowsAny l n w (.returned (.tuple #[.slice none 0 0, .int .i64 13])) w1 := by
          have e : rowsErr l n = 13 := by unfold rowsErr; rw [if_neg (by rw [H0.out]; decide), if_pos hbig]
          exact .inr ⟨by rw [e]; decide, by rw [e]; exact ⟨rfl, hb⟩⟩
        have H := Lib.hid H
        go_wp2_with fail
        go_ret2
        exact H.out
      · have hmk := make_c128 n n rfl (by omega)
        have HE : Hid (rowsErr l n = 0) := by show rowsErr l n = 0; unfold rowsErr; rw [if_neg (by rw [H0.out]; decide), if_neg hbig]
        go_wp2_with fail
        clear hmk
        have hlt1 : g < w1.heap.size := hrow.lt
        go_loopw [33] (fun i wr => ∃ k : Nat, k ≤ n ∧ i = .int .i64 k ∧ wr.rowIs w1.heap.size 46 n (cxsTo l k) ∧ Below w1.heap.size w1 wr) (fun i _ => n - (intOf i).toNat)
        case atStart =>
          refine ⟨0, Nat.zero_le _, rfl, (World.rowIs_made w1 (.complex .f64 0 0) n 46).congr (fun j _ => ?_), (Below.refl _ _).alloc (Nat.le_refl _) _⟩
          unfold cxsTo
          rw [if_neg (by omega)]
        case round =>
          obtain ⟨k, hk, rfl, hrow2, hb2⟩ := hrel
          by_cases hlt : k < n
          · obtain ⟨b, o, rfl, hbb, hcell0⟩ := hs.at_ (k := k) hlt
            have hcell : wr.cell? ⟨b, o + k, none⟩ = some (.int .i64 (l k)) := ((hb2.cell (p := ⟨b, o + k, none⟩) (by have := hb.size; show b < _; omega)).trans (hb.cell (p := ⟨b, o + k, none⟩) hbb)).trans hcell0
            have hgk : wr.cell? ⟨g, k, none⟩ = some (.int .i64 (psum l k)) := (hb2.cell (p := ⟨g, k, none⟩) hlt1).trans (hrow.cell (i := k) (by omega))
            have hck : wr.cell? ⟨w1.heap.size, k, none⟩ = some (.complex .f64 0 0) := by
              have := hrow2.cell (i := k) hlt
              unfold cxsTo at this
              rwa [if_neg (by omega)] at this
            have hfz : wr.frozen? ⟨w1.heap.size, k, none⟩ = false := hrow2.frozen _
            clear hcell0 hgn
            have hrow' : (wr.setCell ⟨w1.heap.size, k, none⟩ (.complex .f64 (floatOfInt .f64 (psum l k)) (floatOfInt .f64 (l k)))).rowIs w1.heap.size 46 n (cxsTo l (k + 1)) := by
              refine (hrow2.set k _).congr (fun j _ => ?_)
              unfold cxsTo
              by_cases hj : j = k
              · subst hj
                rw [if_pos rfl, if_pos (by omega)]
                rfl
              · rw [if_neg hj]
                by_cases hj2 : j < k
                · rw [if_pos hj2, if_pos (by omega)]
                · rw [if_neg hj2, if_neg (by omega)]
            have HR := Lib.hid hrow'; clear hrow'
            go_wp2
            go_roundw
            case rel => exact ⟨k + 1, by omega, by go_num, HR.out, hb2.setCell (Nat.le_refl _) _⟩
            case measure => simp [intOf]; omega
          · obtain rfl : k = n := by omega
            have H : RowsAny l k w (.returned (.tuple #[.slice (some ⟨w1.heap.size, 0, none⟩) k k, .int .i64 0])) wr := by
              refine .inl ⟨HE.out, _, rfl, Sees.row (hrow2.congr (fun j hj => ?_)) (Nat.le_refl _), hb.trans (hb2.mono hb.size)⟩
              unfold cxsTo
              rw [if_pos hj]
            have H := Lib.hid H
            go_wp2
            go_ret2
            exact H.out
  · have hx : chk l n = 3 ∨ chk l n = 12 ∨ chk l n = 13 := by
      unfold chk at h0 ⊢
      by_cases hb : 4096 < n
      · rw [if_pos hb]; exact .inl rfl
      · rw [if_neg hb] at h0 ⊢
        rcases chkTo_cases l n with h | h | h
        · exact absurd h h0
        · exact .inr (.inl h)
        · exact .inr (.inr h)
    have e : rowsErr l n = chk l n := by unfold rowsErr; rw [if_pos h0]
    have H : RowsAny l n w (.returned (.tuple #[.slice none 0 0, .int .i64 (chk l n)])) w1 := .inr ⟨by rw [e]; exact h0, by rw [e]; exact ⟨rfl, hb⟩⟩
    have H := Lib.hid H
    have hne : (chk l n != 0) = true := by rw [bne_iff_ne]; exact h0
    clear hx h0 e
    go_wp2_with fail
    go_ret2
    exact H.out

theorem order_bits {n : Int} (h : n.natAbs < 9007199254740992) : (FloatKind.f64.format.order (F n) (F n) == some .eq) = true := by rw [order_self n h]; rfl

set_option maxHeartbeats 800000 in
theorem rowsSame (A B : Option Addr) (n c : Nat) (f : Int) (x y : Nat → Int) (w : World) (hA : Sees w w.heap.size A n (fun j => .complex .f64 (F (x j)) (F (y j)))) (hB : Sees w w.heap.size B n (fun j => .complex .f64 (F (x j)) (F (y j))))
    (hx : ∀ j, j < n → (x j).natAbs < 9007199254740992) (hy : ∀ j, j < n → (y j).natAbs < 9007199254740992) (hn : n ≤ 1000000000000000) :
    Calls Try.prog 25 #[.slice A n n, .int .i64 f, .slice B n c, .int .i64 f] w fun e w' => e = .returned (.bool true) ∧ Drawn w w' := by
  go_enter Try.func25, Try.ntmps25
  go_wp2_with fail
  go_loopw [9] (fun i wr => ∃ k : Nat, k ≤ n ∧ i = .int .i64 k ∧ Drawn w wr) (fun i _ => n - (intOf i).toNat)
  case atStart => exact ⟨0, Nat.zero_le _, rfl, Drawn.refl _⟩
  case round =>
    obtain ⟨k, hk, rfl, hd⟩ := hrel
    by_cases hlt : k < n
    · obtain ⟨b, o, rfl, hbb, hcell0⟩ := hA.at_ (k := k) hlt
      obtain ⟨b', o', rfl, hbb', hcell0'⟩ := hB.at_ (k := k) hlt
      have hcell : wr.cell? ⟨b, o + k, none⟩ = some (.complex .f64 (F (x k)) (F (y k))) := (hd.cell _).trans hcell0
      have hcell' : wr.cell? ⟨b', o' + k, none⟩ = some (.complex .f64 (F (x k)) (F (y k))) := (hd.cell _).trans hcell0'
      have e1 := order_bits (hx k hlt)
      have e2 := order_bits (hy k hlt)
      have hki : (k : Int) < (n : Int) := by omega
      clear hcell0 hcell0'
      go_wp2_with fail
      go_quiet (fail)
      go_wp2_with fail
      go_roundw
      case rel => exact ⟨k + 1, by omega, by go_num, hd.drewN _⟩
      case measure => simp [intOf]; omega
    · obtain rfl : k = n := by omega
      go_wp2_with fail
      go_ret
      exact ⟨rfl, hd⟩
end Go.Proofs.Ytgfhnakjdcpfmaa

/-
  Contracts of layer 2, sixth: List; the law's own same.
-/
import Derived.Test.YtemcfdjbniacnaaFenE
import Derived.LoopTactic
import Derived.BigQuiet
namespace Go.Proofs.Ytemcfdjbniacnaa
open Go.RowKit
set_option linter.unusedVariables false

/-- What List returns. -/
def FListPost (w : World) (n : Nat) (l : Nat → Int) (e : Ending) (w' : World) : Prop :=
  ∃ A, e = .returned (.slice A n n) ∧ (0 < n → ∃ g, A = some ⟨g, 0, none⟩ ∧ w.heap.size ≤ g ∧ w'.rowIs g 2 n (i64s l)) ∧ Below w.heap.size w w' ∧ (n = 0 → A = none)

set_option maxHeartbeats 1600000 in
theorem fList_any (w : World) (B p n : Nat) (l : Nat → Int) (h : Fen w B p n l) :
    Calls Try.prog 22 #[.pointer (some ⟨p, 0, none⟩)] w (FListPost w n l) := by
  have HF := Lib.hid h
  have hn := h.ok.le
  obtain ⟨gs, gt, hg, _⟩ := h
  obtain ⟨c0, c1, c2, c3, fz⟩ := tcells_of hg.hp
  have plt := hg.hp.lt
  have glt := hg.hs.lt
  have HR := Lib.hid hg.hs
  clear fz hg
  by_cases n0 : n = 0
  · subst n0
    have H : Hid (FListPost w 0 l (.returned (.slice none 0 0)) w) := ⟨none, rfl, fun h => absurd h (by omega), Below.refl _ _, fun _ => rfl⟩
    go_enter Try.func22, Try.ntmps22
    go_wp2_with fail
    refine (flen_any w B p 0 l HF.out).mono ?_
    rintro e w' ⟨rfl, rfl⟩
    go_wp2_with fail
    go_ret
    exact H.out
  · have hne : ((n : Int) == 0) = false := by simp; omega
    have hmk := make_i64 n n rfl (by omega) w
    have hst : Hid ((w.alloc (.cells (madeCells #[.int .i64 0] n) 2)).rowIs w.heap.size 2 n (i64s (upto l 0))) := (World.rowIs_made w (.int .i64 0) n 2).congr fun j _ => by show Value.int .i64 0 = Value.int .i64 (upto l 0 j); unfold upto; rw [if_neg (by omega)]
    have hbl : Hid (Below w.heap.size w (w.alloc (.cells (madeCells #[.int .i64 0] n) 2))) := (Below.refl _ w).alloc (Nat.le_refl _) _
    go_enter Try.func22, Try.ntmps22
    go_wp2_with fail
    refine (flen_any w B p n l HF.out).mono ?_
    rintro e w' ⟨rfl, rfl⟩
    go_wp2_with fail
    clear hmk
    go_loopw [16] (fun i wr => ∃ k : Nat, k ≤ n ∧ i = .int .i64 k ∧ Hid (wr.rowIs w.heap.size 2 n (i64s (upto l k))) ∧ Hid (Below w.heap.size w wr)) (fun i _ => n - (intOf i).toNat)
    case atStart => exact ⟨0, Nat.zero_le _, rfl, hst, hbl⟩
    case round =>
      obtain ⟨k, hk, rfl, hR, hB⟩ := hrel
      clear hst hbl
      by_cases hlt : k < n
      · have d1 := (hB.out.cell (p := ⟨p, 1, none⟩) plt).trans c1
        have d2 := (hB.out.cell (p := ⟨gs, k, none⟩) glt).trans (HR.out.cell hlt)
        rw [i64s_at] at d2
        have d3 := hR.out.cell (i := k) hlt
        have d4 := hR.out.frozen k
        rw [i64s_at] at d3
        go_wp2_with fail
        go_roundw
        case rel =>
          refine ⟨k + 1, by omega, by go_num, (hR.out.set k _).congr fun j _ => ?_, hB.out.setCell (p := ⟨w.heap.size, k, none⟩) (Nat.le_refl _) _⟩
          show (if j = k then Value.int .i64 (l k) else .int .i64 (upto l k j)) = .int .i64 (upto l (k + 1) j)
          unfold upto
          by_cases c : j = k
          · subst c; rw [if_pos rfl, if_pos (by omega)]
          · rw [if_neg c]
            by_cases d : j < k
            · rw [if_pos d, if_pos (by omega)]
            · rw [if_neg d, if_neg (by omega)]
        case measure => simp [intOf]; omega
      · obtain rfl : k = n := by omega
        have H : Hid (FListPost w k l (.returned (.slice (some ⟨w.heap.size, 0, none⟩) k k)) wr) := ⟨_, rfl, fun _ => ⟨w.heap.size, rfl, Nat.le_refl _, hR.out.congr fun j hj => by show Value.int .i64 (upto l k j) = Value.int .i64 (l j); unfold upto; rw [if_pos hj]⟩, hB.out, fun h => absurd h n0⟩
        clear hR hB
        go_wp2_with fail
        go_ret
        exact H.out

set_option maxHeartbeats 800000 in
theorem same2_yes (w : World) (A A2 : Option Addr) (n c2 B B2 : Nat) (l : Nat → Int) (hs : Sees w B A n (i64s l)) (hs2 : Sees w B2 A2 n (i64s l)) (hn : n ≤ 5000) :
    Calls Try.prog 21 #[.slice A n n, .slice A2 n c2] w fun e w' => e = .returned (.bool true) ∧ Drawn w w' := by
  go_enter Try.func21, Try.ntmps21
  go_wp2_with fail
  go_loopw [5] (fun i wr => ∃ k : Nat, k ≤ n ∧ i = .int .i64 k ∧ Hid (Drawn w wr)) (fun i _ => n - (intOf i).toNat)
  case atStart => exact ⟨0, Nat.zero_le _, rfl, Drawn.refl _⟩
  case round =>
    obtain ⟨k, hk, rfl, hD⟩ := hrel
    by_cases hlt : k < n
    · obtain ⟨b, o, rfl, _, hc⟩ := (hs.drawn hD.out).at_ hlt
      obtain ⟨b2, o2, rfl, _, hc2⟩ := (hs2.drawn hD.out).at_ hlt
      rw [i64s_at] at hc hc2
      go_wp2_with fail
      go_quiet (fail)
      go_wp2_with fail
      go_roundw
      case rel => exact ⟨k + 1, by omega, by go_num, hD.out.drewN _⟩
      case measure => simp [intOf]; omega
    · obtain rfl : k = n := by omega
      go_wp2_with fail
      go_ret
      exact ⟨rfl, hD.out⟩
end Go.Proofs.Ytemcfdjbniacnaa

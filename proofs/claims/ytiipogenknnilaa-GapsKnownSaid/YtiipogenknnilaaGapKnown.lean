/-
  The walk of the law GapsKnown of layer 3.
-/
import Derived.Test.YtiipogenknnilaaGapBack
namespace Go.Proofs.Ytiipogenknnilaa
open Go.RowKit
set_option linter.unusedVariables false

/-- 0 to 4095, the first k at the end. -/
def turned (k : Nat) : Nat → Int := fun j => if j + k < 4096 then ((j + k : Nat) : Int) else ((j + k - 4096 : Nat) : Int)
theorem turned_lo {k j : Nat} (h : j + k < 4096) : turned k j = ((j + k : Nat) : Int) := if_pos h
theorem turned_hi {k j : Nat} (h : ¬ j + k < 4096) : turned k j = ((j + k - 4096 : Nat) : Int) := if_neg h
theorem ins_lo {l f : Nat → Int} {i k j : Nat} (h : j < i) : GapI.ins l i k f j = l j := if_pos h
theorem ins_in {l f : Nat → Int} {i k j : Nat} (h : ¬ j < i) (h' : j < i + k) : GapI.ins l i k f j = f (j - i) := (if_neg h).trans (if_pos h')
theorem rem_hi {l : Nat → Int} {i k j : Nat} (h : ¬ j < i) : GapI.rem l i k j = l (j + k) := if_neg h
theorem turned_step (k : Nat) (hk : k < 4096) : ∀ j, j < 4096 → GapI.ins (GapI.rem (turned k) 0 1) 4095 1 (fun j => turned k (0 + j)) j = turned (k + 1) j := by
  intro j hj
  by_cases c : j < 4095
  · rw [ins_lo c, rem_hi (by omega)]
    by_cases d : j + (k + 1) < 4096
    · rw [turned_lo d, turned_lo (by omega)]; omega
    · rw [turned_hi d, turned_hi (by omega)]; omega
  · rw [ins_in c (by omega)]
    have e : 0 + (j - 4095) = 0 := by omega
    show turned k (0 + (j - 4095)) = _
    rw [e, turned_lo (by omega), turned_hi (by omega)]; omega

set_option maxRecDepth 100000 in
set_option maxHeartbeats 6400000 in
theorem law_known (w : World) :
    Calls Try.prog 5 #[] w fun e w' => e = .returned (.bool true) ∧ Below w.heap.size w w' := by
  have hmk := GapI.make_e 4097 4097 (by omega) (by omega) w
  go_enter Try.func5, Try.ntmps5
  go_wp2_with fail
  clear hmk
  have hst : Hid ((w.alloc (.cells (madeCells #[.int .i64 0] 4097) 3)).rowIs w.heap.size 3 4097 (fun j => .int .i64 (if j < 0 then (j : Int) else 0))) := World.rowIs_made w _ 4097 _
  have hbl : Hid (Below w.heap.size w (w.alloc (.cells (madeCells #[.int .i64 0] 4097) 3))) := (Below.refl _ w).alloc (Nat.le_refl _) _
  go_loopw [2] (fun i wr => ∃ k : Nat, k ≤ 4097 ∧ i = .int .i64 k ∧ Hid (wr.rowIs w.heap.size 3 4097 (fun j => .int .i64 (if j < k then (j : Int) else 0))) ∧ Hid (Below w.heap.size w wr)) (fun i _ => 4097 - (intOf i).toNat)
  case atStart => exact ⟨0, Nat.zero_le _, rfl, hst, hbl⟩
  case round =>
    obtain ⟨k, hk, rfl, hR, hB⟩ := hrel
    clear hst hbl
    by_cases hlt : k < 4097
    · have hc := hR.out.cell (i := k) hlt
      rw [if_neg (Nat.lt_irrefl k)] at hc
      have hf := hR.out.frozen k
      have hki : (k : Int) < 4097 := by omega
      go_wp2_with fail
      go_roundw
      case rel =>
        refine ⟨k + 1, by omega, by go_num, (hR.out.set k _).congr fun j hj => ?_, ?_⟩
        · show (if j = k then Value.int .i64 k else _) = _
          by_cases c : j = k
          · subst c; rw [if_pos rfl, if_pos (by omega)]
          · rw [if_neg c]
            by_cases d : j < k
            · rw [if_pos d, if_pos (by omega)]
            · rw [if_neg d, if_neg (by omega)]
        · exact hB.out.setCell (p := ⟨w.heap.size, k, none⟩) (Nat.le_refl _) _
      case measure => simp [intOf]; omega
    obtain rfl : k = 4097 := by omega
    have S : Hid (Sees wr wr.heap.size (some ⟨w.heap.size, 0, none⟩) 4096 fun j => .int .i64 (turned 0 j)) := by
      intro _
      refine ⟨w.heap.size, 0, rfl, hR.out.lt, fun j hj => ?_⟩
      have := hR.out.cell (i := j) (by omega)
      rw [if_pos (by omega)] at this
      rw [Nat.zero_add, this]
      show _ = some (Value.int .i64 (turned 0 j))
      rw [turned_lo (by omega)]; rfl
    have SW := hR.out.lt
    clear hR hk hlt
    go_wp2_with fail
    refine (GapI.new_bad wr 4097 4097 _ (by omega)).mono ?_
    rintro e w1 ⟨rfl, hb⟩
    have S1 := Lib.hid ((S.out.below hb).more hb.size)
    have C1 := Lib.hid (hB.out.trans (hb.mono hB.out.size))
    clear hb S hB
    go_wp2_with fail
    refine (GapI.new_ok w1 4096 _ _ (turned 0) S1.out (by omega)).mono ?_
    rintro e w2 ⟨p, rfl, hB, hb⟩
    have B2 := Lib.hid hB
    have C2 := Lib.hid (C1.out.trans (hb.mono C1.out.size))
    clear hB hb S1
    go_wp2_with fail
    refine (GapI.insert_limit _ _ _ _ _ _ (B2.out.alloc _) 7 _ rfl (by omega) _ 1 1 (by omega)).mono ?_
    rintro e w3 ⟨rfl, hd⟩
    have B3 := Lib.hid ((B2.out.alloc _).drawn hd)
    have C3 := Lib.hid ((C2.out.alloc C2.out.size _).trans (hd.below _))
    clear hd B2 C2
    go_wp2_with fail
    refine (GapI.insert_none _ _ _ _ _ _ B3.out 7 _ rfl (by omega) _ _).mono ?_
    rintro e w4 ⟨rfl, hd⟩
    have B4 := Lib.hid (B3.out.drawn hd)
    have C4 := Lib.hid (C3.out.trans (hd.below _))
    clear hd B3 C3
    go_wp2_with fail
    refine (GapI.insert_range _ _ _ _ _ _ B4.out 4097 ⟨by omega, by omega⟩ (.inr (by omega)) _ 0 0).mono ?_
    rintro e w5 ⟨rfl, hd⟩
    have B5 := Lib.hid (B4.out.drawn hd)
    have C5 := Lib.hid (C4.out.trans (hd.below _))
    clear hd B4 C4
    go_wp2_with fail
    refine (GapI.insert_range _ _ _ _ _ _ (B5.out.alloc _) 4097 ⟨by omega, by omega⟩ (.inr (by omega)) _ 1 1).mono ?_
    rintro e w6 ⟨rfl, hd⟩
    have B6 := Lib.hid ((B5.out.alloc _).drawn hd)
    have C6 := Lib.hid ((C5.out.alloc C5.out.size _).trans (hd.below _))
    clear hd B5 C5
    go_wp2_with fail
    have W1 := C1.out.size
    go_loopw [7] (fun i wr => ∃ k : Nat, k ≤ 100 ∧ i = .int .i64 k ∧ Hid (∃ a, GapI.Buf wr w1.heap.size p 4096 a (turned k)) ∧ Hid (Below w.heap.size w wr)) (fun i _ => 100 - (intOf i).toNat)
    case atStart => exact ⟨0, Nat.zero_le _, rfl, ⟨_, B6.out⟩, C6⟩
    case round =>
      obtain ⟨k, hk, rfl, hBu, hC⟩ := hrel
      clear B6 C6
      by_cases hlt : k < 100
      · have hki : (k : Int) < 100 := by omega
        obtain ⟨a, hb0⟩ := hBu.out
        have HB := Lib.hid hb0
        clear hb0 hBu
        go_wp2_with fail
        refine (GapI.move_ok _ _ _ _ _ _ HB.out 0 1 4095 _ _ _ rfl rfl rfl (by omega) (by omega) (by omega)).mono ?_
        rintro e w8 ⟨rfl, hB, hb⟩
        have HB8 : Hid (∃ a, GapI.Buf w8 w1.heap.size p 4096 a (turned (k + 1))) := ⟨_, hB.congr (turned_step k (by omega))⟩
        have C8 := Lib.hid (hC.out.trans (hb.mono W1))
        clear hB hb
        go_wp2_with fail
        go_roundw
        case rel => exact ⟨k + 1, by omega, by go_num, HB8, C8⟩
        case measure => simp [intOf]; omega
      obtain rfl : k = 100 := by omega
      obtain ⟨a, hb0⟩ := hBu.out
      have HB := Lib.hid hb0
      clear hb0 hBu
      go_wp2_with fail
      refine (GapI.at_ok _ _ _ _ _ _ HB.out 0 (by omega)).mono ?_
      rintro e w8 ⟨rfl, hd⟩
      have B8 := Lib.hid (HB.out.drawn hd)
      have C8 := Lib.hid (hC.out.trans (hd.below _))
      clear hd HB hC
      rw [turned_lo (by omega)]
      go_wp2_with fail
      refine (GapI.at_ok _ _ _ _ _ _ B8.out 4095 (by omega)).mono ?_
      rintro e w9 ⟨rfl, hd⟩
      have B9 := Lib.hid (B8.out.drawn hd)
      have C9 := Lib.hid (C8.out.trans (hd.below _))
      clear hd B8 C8
      rw [turned_hi (by omega)]
      go_wp2_with fail
      refine (GapI.at_ok _ _ _ _ _ _ B9.out 3996 (by omega)).mono ?_
      rintro e w10 ⟨rfl, hd⟩
      have B10 := Lib.hid (B9.out.drawn hd)
      have C10 := Lib.hid (C9.out.trans (hd.below _))
      clear hd B9 C9
      rw [turned_hi (by omega)]
      go_wp2_with fail
      refine (GapI.remove_ok _ _ _ _ _ _ B10.out 1 4095 _ _ rfl rfl (by omega) (by omega)).mono ?_
      rintro e w11 ⟨rfl, hB, hb⟩
      have B11 : Hid (GapI.Buf w11 w1.heap.size p 1 1 (fun _ => 100)) := GapI.Buf.congr hB fun j hj => by
        obtain rfl : j = 0 := by omega
        show (if 0 < 1 then turned 100 0 else _) = _
        rw [if_pos (by omega), turned_lo (by omega)]; rfl
      have C11 := Lib.hid (C10.out.trans (hb.mono W1))
      clear hB hb B10 C10
      go_wp2_with fail
      refine (GapI.len_any _ _ _ _ _ _ B11.out).mono ?_
      rintro e w12 ⟨rfl, hd⟩
      have B12 := Lib.hid (B11.out.drawn hd)
      have C12 := Lib.hid (C11.out.trans (hd.below _))
      clear hd B11 C11
      go_wp2_with fail
      refine (GapI.at_ok _ _ _ _ _ _ B12.out 0 (by omega)).mono ?_
      rintro e w13 ⟨rfl, hd⟩
      have B13 := Lib.hid (B12.out.drawn hd)
      have C13 := Lib.hid (C12.out.trans (hd.below _))
      clear hd B12 C12
      go_wp2_with fail
      refine (GapI.remove_bad _ _ _ _ _ _ B13.out _ _ ⟨by omega, by omega⟩ ⟨by omega, by omega⟩ (by omega)).mono ?_
      rintro e w14 ⟨rfl, hd⟩
      have B14 := Lib.hid (B13.out.drawn hd)
      have C14 := Lib.hid (C13.out.trans (hd.below _))
      clear hd B13 C13
      go_wp2_with fail
      refine (GapI.remove_bad _ _ _ _ _ _ B14.out _ _ ⟨by omega, by omega⟩ ⟨by omega, by omega⟩ (by omega)).mono ?_
      rintro e w15 ⟨rfl, hd⟩
      have B15 := Lib.hid (B14.out.drawn hd)
      have C15 := Lib.hid (C14.out.trans (hd.below _))
      clear hd B14 C14
      go_wp2_with fail
      refine (GapI.move_to _ _ _ _ _ _ B15.out 0 1 _ _ 1 rfl rfl (by omega) (by omega)).mono ?_
      rintro e w16 ⟨rfl, hd⟩
      have B16 := Lib.hid (B15.out.drawn hd)
      have C16 := Lib.hid (C15.out.trans (hd.below _))
      clear hd B15 C15
      go_wp2_with fail
      refine (GapI.move_ok _ _ _ _ _ _ B16.out 0 1 0 _ _ _ rfl rfl rfl (by omega) (by omega) (by omega)).mono ?_
      rintro e w17 ⟨rfl, hB, hb⟩
      have C17 := Lib.hid (C16.out.trans (hb.mono W1))
      clear hB hb B16 C16
      go_wp2_with fail
      refine (lives3_yes _).mono ?_
      rintro e w18 ⟨rfl, hb⟩
      have C18 := Lib.hid (C17.out.trans (hb.mono C17.out.size))
      clear hb
      go_wp2_with fail
      go_ret
      exact ⟨rfl, C18.out⟩
end Go.Proofs.Ytiipogenknnilaa

/-
  The walk of the law GapsNil of layer 3.
-/
import Derived.Test.YtiipogenknnilaaGapLives2
import Derived.Test.YtiipogenknnilaaGapI7
namespace Go.Proofs.Ytiipogenknnilaa
open Go.RowKit
set_option linter.unusedVariables false

theorem nil_set (w : World) (i : Int) (x : Int) : Calls Try.prog 15 #[.pointer none, .int .i64 i, .int .i64 x] w fun e w' => e = .returned (.int .i64 2) ∧ w = w' := by
  go_enter Try.func15, Try.ntmps15
  go_wp2_with fail
  refine (GapI.nil_check _ _ _).mono ?_
  rintro e w' ⟨rfl, rfl⟩
  go_wp2_with fail
  go_ret
  exact ⟨rfl, rfl⟩

theorem one_lit (k : Int) (j : Nat) (hj : j < 1) : (#[Value.int .i64 k])[j]? = some (.int .i64 ((fun _ => k) j)) := by
  obtain rfl : j = 0 := by omega
  rfl
set_option maxRecDepth 100000 in
set_option maxHeartbeats 6400000 in
theorem law_nil (i k : Int) (w : World) (fi : Fits i) (fk : Fits k) :
    Calls Try.prog 6 #[.int .i64 i, .int .i64 k] w fun e w' => e = .returned (.bool true) ∧ Below w.heap.size w w' := by
  have FI := Lib.hid fi
  have FK := Lib.hid fk
  clear fi fk
  go_enter Try.func6, Try.ntmps6
  go_wp2_with fail
  refine (GapI.nil_at _ _).mono ?_
  rintro e w' ⟨rfl, rfl⟩
  go_wp2_with fail
  refine (nil_set _ _ _).mono ?_
  rintro e w' ⟨rfl, rfl⟩
  go_wp2_with fail
  refine (GapI.nil_insert _ _ _ _ _).mono ?_
  rintro e w' ⟨rfl, rfl⟩
  go_wp2_with fail
  refine (GapI.nil_remove _ _ _).mono ?_
  rintro e w' ⟨rfl, rfl⟩
  go_wp2_with fail
  refine (GapI.nil_move _ _ _ _).mono ?_
  rintro e w' ⟨rfl, rfl⟩
  go_wp2_with fail
  refine (GapI.nil_len _).mono ?_
  rintro e w' ⟨rfl, rfl⟩
  go_wp2_with fail
  refine (GapI.nil_gap _).mono ?_
  rintro e w' ⟨rfl, rfl⟩
  go_wp2_with fail
  refine (GapI.nil_list _).mono ?_
  rintro e w' ⟨rfl, rfl⟩
  obtain ⟨w0, e0⟩ : ∃ w0, w0 = w.alloc (.cells #[.int .i64 k] 3) := ⟨_, rfl⟩
  have D0 : Hid (Below w.heap.size w w0) := by rw [e0]; exact (Below.refl _ w).alloc (Nat.le_refl _) _
  rw [← e0]
  clear e0
  go_wp2_with fail
  have B1 : Hid (GapI.Buf _ w.heap.size w0.heap.size 0 0 (fun _ => k)) := GapI.Buf.less (GapI.buf_zero w0 fun _ => k) D0.out.size
  have D1 : Hid (Below w.heap.size w (w0.alloc (.cells #[.slice none 0 0, .int .i64 0, .int .i64 0] 39))) := D0.out.alloc D0.out.size _
  clear D0
  refine (GapI.at_bad _ _ _ _ _ _ B1.out i FI.out (by omega)).mono ?_
  rintro e w2 ⟨rfl, hd⟩
  have B2 := Lib.hid (B1.out.drawn hd)
  have D2 := Lib.hid (D1.out.trans (hd.below _))
  clear hd B1 D1
  go_wp2_with fail
  refine (GapI.len_any _ _ _ _ _ _ B2.out).mono ?_
  rintro e w3 ⟨rfl, hd⟩
  have B3 := Lib.hid (B2.out.drawn hd)
  have D3 := Lib.hid (D2.out.trans (hd.below _))
  clear hd B2 D2
  go_wp2_with fail
  refine (GapI.remove_none _ _ _ _ _ _ B3.out 0 _ rfl (by omega)).mono ?_
  rintro e w4 ⟨rfl, hd⟩
  have B4 := Lib.hid (B3.out.drawn hd)
  have D4 := Lib.hid (D3.out.trans (hd.below _))
  clear hd B3 D3
  go_wp2_with fail
  refine (GapI.insert_lit _ _ _ _ _ _ B4.out 0 1 _ rfl (by omega) (by omega) (by omega) _ _ _ (fun _ => k) (one_lit k)).mono ?_
  rintro e w5 ⟨rfl, hB, hb⟩
  have B5 : Hid (GapI.Buf w5 w.heap.size w0.heap.size 1 1 (fun _ => k)) := GapI.Buf.congr hB fun j hj => by obtain rfl : j = 0 := by omega
                                                                                                            rfl
  have D5 := Lib.hid ((D4.out.alloc D4.out.size _).trans hb)
  clear hB hb B4 D4
  go_wp2_with fail
  refine (GapI.at_ok _ _ _ _ _ _ B5.out 0 (by omega)).mono ?_
  rintro e w6 ⟨rfl, hd⟩
  have B6 := Lib.hid (B5.out.drawn hd)
  have D6 := Lib.hid (D5.out.trans (hd.below _))
  clear hd B5 D5
  go_wp2_with fail
  refine (GapI.len_any _ _ _ _ _ _ B6.out).mono ?_
  rintro e w7 ⟨rfl, hd⟩
  have B7 := Lib.hid (B6.out.drawn hd)
  have D7 := Lib.hid (D6.out.trans (hd.below _))
  clear hd B6 D6
  go_wp2_with fail
  refine (GapI.gap_any _ _ _ _ _ _ B7.out).mono ?_
  rintro e w8 ⟨rfl, hd⟩
  have D8 := Lib.hid (D7.out.trans (hd.below _))
  clear hd B7 D7
  go_wp2_with fail
  refine (lives3_yes _).mono ?_
  rintro e w9 ⟨rfl, hb⟩
  have D9 := Lib.hid (D8.out.trans (hb.mono D8.out.size))
  clear hb
  go_wp2_with fail
  go_ret
  exact ⟨rfl, D9.out⟩
end Go.Proofs.Ytiipogenknnilaa

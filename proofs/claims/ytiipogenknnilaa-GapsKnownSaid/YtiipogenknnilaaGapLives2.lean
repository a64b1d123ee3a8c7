/-
  The examples of layer 3.
-/
import Derived.Test.YtiipogenknnilaaGapLives
import Derived.Test.YtiipogenknnilaaGapS7
namespace Go.Proofs.Ytiipogenknnilaa
open Go.RowKit
set_option linter.unusedVariables false

theorem lit_lt (xs : List UInt8) (n : Nat) (vs : Array Value) (hv : vs = (xs.map fun b => Value.string ⟨#[b]⟩).toArray) (hn : xs.length = n) : ∀ j, j < n → vs[j]? = some (.string (lt xs j)) := by
  subst hv hn
  intro j hj
  simp [lt, hj]

set_option maxRecDepth 100000 in
set_option maxHeartbeats 6400000 in
theorem lives3_yes (w : World) : Calls Try.prog 7 #[] w fun e w' => e = .returned (.bool true) ∧ Below w.heap.size w w' := by
  go_enter Try.func7, Try.ntmps7
  go_wp2_with fail
  refine (GapS.new_ok _ 5 5 _ (lt [97, 98, 99, 100, 101]) (Sees.lit w _ _ _ 5 rfl (lit_lt [97, 98, 99, 100, 101] 5 _ rfl rfl)) (by omega)).mono ?_
  rintro e w1 ⟨p, rfl, hB, hb⟩
  have hb1 : Below w.heap.size w w1 := ((Below.refl _ w).alloc (Nat.le_refl _) _).trans (hb.mono (by simp))
  have hB1 : GapS.Buf w1 w.heap.size p 5 5 (lt [97, 98, 99, 100, 101]) := hB.less (by simp)
  have B1 := Lib.hid hB1
  have D1 := Lib.hid hb1
  clear hB hB1 hb hb1
  go_wp2_with fail
  refine (GapS.insert_lit _ _ _ _ _ _ B1.out 2 2 _ rfl (by omega) (by omega) (by omega) _ _ _ (lt [120, 121]) (lit_lt [120, 121] 2 _ rfl rfl)).mono ?_
  rintro e w2 ⟨rfl, hB, hb⟩
  have hB2 : GapS.Buf w2 w.heap.size p 7 4 L1 := hB
  have hb2 : Below w.heap.size w w2 := (D1.out.alloc D1.out.size _).trans hb
  have B2 := Lib.hid hB2
  have D2 := Lib.hid hb2
  clear hB hB2 hb hb2 B1 D1
  go_wp2_with fail
  refine (letters_eq _ _ _ _ _ _ _ B2.out (fun j _ => L1_size j) cat1).mono ?_
  rintro e w3 ⟨rfl, hb⟩
  have B3 := Lib.hid (B2.out.below hb)
  have D3 := Lib.hid (D2.out.trans (hb.mono D2.out.size))
  clear hb B2 D2
  go_wp2_with fail
  refine (GapS.gap_any _ _ _ _ _ _ B3.out).mono ?_
  rintro e w4 ⟨rfl, hd⟩
  have B4 := Lib.hid (B3.out.drawn hd)
  have D4 := Lib.hid (D3.out.trans (hd.below _))
  clear hd B3 D3
  go_wp2_with fail
  refine (GapS.remove_ok _ _ _ _ _ _ B4.out 0 3 _ _ rfl rfl (by omega) (by omega)).mono ?_
  rintro e w5 ⟨rfl, hB, hb⟩
  have B5 : Hid (GapS.Buf w5 w.heap.size p 4 0 L2) := hB
  have D5 := Lib.hid (D4.out.trans hb)
  clear hb hB B4 D4
  go_wp2_with fail
  refine (letters_eq _ _ _ _ _ _ _ B5.out (fun j _ => L2_size j) cat2).mono ?_
  rintro e w6 ⟨rfl, hb⟩
  have B6 := Lib.hid (B5.out.below hb)
  have D6 := Lib.hid (D5.out.trans (hb.mono D5.out.size))
  clear hb B5 D5
  go_wp2_with fail
  refine (GapS.gap_any _ _ _ _ _ _ B6.out).mono ?_
  rintro e w7 ⟨rfl, hd⟩
  have B7 := Lib.hid (B6.out.drawn hd)
  have D7 := Lib.hid (D6.out.trans (hd.below _))
  clear hd B6 D6
  go_wp2_with fail
  refine (GapS.move_ok _ _ _ _ _ _ B7.out 1 2 0 _ _ _ rfl rfl rfl (by omega) (by omega) (by omega)).mono ?_
  rintro e w8 ⟨rfl, hB, hb⟩
  have B8 : Hid (GapS.Buf w8 w.heap.size p 4 2 L3) := hB
  have D8 := Lib.hid (D7.out.trans hb)
  clear hb hB B7 D7
  go_wp2_with fail
  refine (GapS.at_bad _ _ _ _ _ _ B8.out 4 ⟨by omega, by omega⟩ (.inr (by omega))).mono ?_
  rintro e w9 ⟨rfl, hd⟩
  have B9 := Lib.hid (B8.out.drawn hd)
  have D9 := Lib.hid (D8.out.trans (hd.below _))
  clear hd B8 D8
  go_wp2_with fail
  refine (letters_eq _ _ _ _ _ _ _ B9.out (fun j _ => L3_size j) cat3).mono ?_
  rintro e w10 ⟨rfl, hb⟩
  have B10 := Lib.hid (B9.out.below hb)
  have D10 := Lib.hid (D9.out.trans (hb.mono D9.out.size))
  clear hb B9 D9
  go_wp2_with fail
  refine (GapS.insert_range _ _ _ _ _ _ (B10.out.alloc _) 5 ⟨by omega, by omega⟩ (.inr (by omega)) _ _ _).mono ?_
  rintro e w11 ⟨rfl, hd⟩
  have B11 := Lib.hid ((B10.out.alloc _).drawn hd)
  have D11 := Lib.hid ((D10.out.alloc D10.out.size _).trans (hd.below _))
  clear hd B10 D10
  go_wp2_with fail
  refine (GapS.remove_bad _ _ _ _ _ _ B11.out 3 2 ⟨by omega, by omega⟩ ⟨by omega, by omega⟩ (by omega)).mono ?_
  rintro e w12 ⟨rfl, hd⟩
  have B12 := Lib.hid (B11.out.drawn hd)
  have D12 := Lib.hid (D11.out.trans (hd.below _))
  clear hd B11 D11
  go_wp2_with fail
  refine (GapS.move_to _ _ _ _ _ _ B12.out 0 2 _ _ 3 rfl rfl (by omega) (by omega)).mono ?_
  rintro e w13 ⟨rfl, hd⟩
  have D13 := Lib.hid (D12.out.trans (hd.below _))
  clear hd B12 D12
  go_wp2_with fail
  go_ret
  exact ⟨rfl, D13.out⟩
end Go.Proofs.Ytiipogenknnilaa

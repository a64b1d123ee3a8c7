/-
  The library's OnesCount64 and TrailingZeros64; the table that the latter reads.
-/
import Derived.Test.YteodkmndghaidaaDoorRows
import Derived.Test.YteodkmndghaidaaDoorMem2
import Derived.Test.YteodkmndghaidaaDoorFlaQ
import Derived.LoopTactic
import Derived.Outline
import Derived.BigQuiet
namespace Go.Proofs.YteodkmndghaidaaDoor
open Go.RowKit
set_option linter.unusedVariables false

def tabL : List Nat := [0, 1, 56, 2, 57, 49, 28, 3, 61, 58, 42, 50, 38, 29, 17, 4, 62, 47, 59, 36, 45, 43, 51, 22, 53, 39, 33, 30, 24, 18, 12, 5, 63, 55, 48, 27, 60, 41, 37, 16, 46, 35, 44, 21, 52, 32, 23, 11, 54, 26, 40, 15, 34, 20, 31, 10, 25, 14, 19, 9, 13, 8, 7, 6]
/-- The table lies in memory. -/
def Tab (w : World) : Prop := ∀ i, i < 64 → w.cell? ⟨0, i, none⟩ = some (.int .u8 ((tabL.getD i 0 : Nat) : Int))
theorem Tab.below {B : Nat} {w w' : World} (h : Tab w) (hb : Below B w w') (hB : 0 < B) : Tab w' := fun i hi => (hb.cell (p := ⟨0, i, none⟩) hB).trans (h i hi)
theorem Tab.drawn {w w' : World} (h : Tab w) (hd : Drawn w w') : Tab w' := by obtain ⟨q, rfl⟩ := hd; exact h
theorem tab_low : ∀ t, t < 64 → tabL.getD ((2 ^ t * 285870213051353865 % 18446744073709551616) / 288230376151711744) 0 = t ∧ (2 ^ t * 285870213051353865 % 18446744073709551616) / 288230376151711744 < 64 := by decide

theorem bits_and_u64 (a b : Nat) (ha : a < 18446744073709551616) (hb : b < 18446744073709551616) : bits .and .u64 (a : Int) (b : Int) = ((a &&& b : Nat) : Int) := by
  have hx : a &&& b ≤ a := Nat.and_le_left
  have h1 : (BitVec.ofInt 64 (a : Int)).toNat = a := by
    rw [BitVec.ofInt_natCast, BitVec.toNat_ofNat]; exact Nat.mod_eq_of_lt (by omega)
  have h2 : (BitVec.ofInt 64 (b : Int)).toNat = b := by
    rw [BitVec.ofInt_natCast, BitVec.toNat_ofNat]; exact Nat.mod_eq_of_lt (by omega)
  show IntKind.u64.wrap ((BitVec.ofInt 64 (a : Int) &&& BitVec.ofInt 64 (b : Int)).toNat : Int) = _
  rw [BitVec.toNat_and, h1, h2, IntKind.wrap_u64]
  omega
theorem bits_xor_u64 (a b : Nat) (ha : a < 18446744073709551616) (hb : b < 18446744073709551616) : bits .xor .u64 (a : Int) (b : Int) = ((a ^^^ b : Nat) : Int) := by
  have hx : a ^^^ b < 2 ^ 64 := Nat.xor_lt_two_pow (n := 64) ha hb
  have h1 : (BitVec.ofInt 64 (a : Int)).toNat = a := by
    rw [BitVec.ofInt_natCast, BitVec.toNat_ofNat]; exact Nat.mod_eq_of_lt (by omega)
  have h2 : (BitVec.ofInt 64 (b : Int)).toNat = b := by
    rw [BitVec.ofInt_natCast, BitVec.toNat_ofNat]; exact Nat.mod_eq_of_lt (by omega)
  show IntKind.u64.wrap ((BitVec.ofInt 64 (a : Int) ^^^ BitVec.ofInt 64 (b : Int)).toNat : Int) = _
  rw [BitVec.toNat_xor, h1, h2, IntKind.wrap_u64]
  omega

theorem bits_and_i64_nat (a b : Nat) (ha : a < 9223372036854775808) (hb : b < 9223372036854775808) : bits .and .i64 (a : Int) (b : Int) = ((a &&& b : Nat) : Int) := by
  have hx : a &&& b ≤ a := Nat.and_le_left
  have h1 : (BitVec.ofInt 64 (a : Int)).toNat = a := by
    rw [BitVec.ofInt_natCast, BitVec.toNat_ofNat]; exact Nat.mod_eq_of_lt (by omega)
  have h2 : (BitVec.ofInt 64 (b : Int)).toNat = b := by
    rw [BitVec.ofInt_natCast, BitVec.toNat_ofNat]; exact Nat.mod_eq_of_lt (by omega)
  show IntKind.i64.wrap ((BitVec.ofInt 64 (a : Int) &&& BitVec.ofInt 64 (b : Int)).toNat : Int) = _
  rw [BitVec.toNat_and, h1, h2, IntKind.wrap_i64]
  omega

set_option maxHeartbeats 800000 in
theorem ones_any (w : World) (x : Nat) (hx : x < 18446744073709551616) :
    Calls Tryd.prog 35 #[.int .u64 x] w fun e w' => e = .returned (.int .i64 (cnt x.testBit 64)) ∧ w = w' := by
  obtain ⟨r1, r2, r3, r4, r5, r6, r7⟩ := ones64 x hx _ _ _ rfl rfl rfl
  have e1 : IntKind.u64.wrap (bits .and .u64 ((x : Int) / 2) 6148914691236517205 + bits .and .u64 (x : Int) 6148914691236517205) = ((S1 x : Nat) : Int) := by
    have a := bits_and_u64 (x / 2) M0 (by omega) (by decide)
    have b := bits_and_u64 x M0 hx (by decide)
    rw [show ((x / 2 : Nat) : Int) = (x : Int) / 2 from by omega, show ((M0 : Nat) : Int) = 6148914691236517205 from rfl] at a
    rw [show ((M0 : Nat) : Int) = 6148914691236517205 from rfl] at b
    rw [a, b, IntKind.wrap_u64]
    unfold S1 at r1 ⊢
    omega
  generalize S1 x = y at *
  have e2 : IntKind.u64.wrap (bits .and .u64 ((y : Int) / 4) 3689348814741910323 + bits .and .u64 (y : Int) 3689348814741910323) = ((S2 y : Nat) : Int) := by
    have a := bits_and_u64 (y / 4) M1 (by omega) (by decide)
    have b := bits_and_u64 y M1 r1 (by decide)
    rw [show ((y / 4 : Nat) : Int) = (y : Int) / 4 from by omega, show ((M1 : Nat) : Int) = 3689348814741910323 from rfl] at a
    rw [show ((M1 : Nat) : Int) = 3689348814741910323 from rfl] at b
    rw [a, b, IntKind.wrap_u64]
    unfold S2 at r2 ⊢
    omega
  generalize S2 y = z at *
  have e3 : bits .and .u64 (IntKind.u64.wrap ((z : Int) / 16 + (z : Int))) 1085102592571150095 = ((S3 z : Nat) : Int) := by
    have a := bits_and_u64 (z / 16 + z) M2 (by omega) (by decide)
    rw [show ((z / 16 + z : Nat) : Int) = IntKind.u64.wrap ((z : Int) / 16 + (z : Int)) from by rw [IntKind.wrap_u64]; omega, show ((M2 : Nat) : Int) = 1085102592571150095 from rfl] at a
    exact a
  generalize S3 z = v at *
  have e4 : IntKind.u64.wrap ((v : Int) + (v : Int) / 256) = ((v + v / 256 : Nat) : Int) := by rw [IntKind.wrap_u64]; omega
  generalize v + v / 256 = y1 at *
  have e5 : IntKind.u64.wrap ((y1 : Int) + (y1 : Int) / 65536) = ((y1 + y1 / 65536 : Nat) : Int) := by rw [IntKind.wrap_u64]; omega
  generalize y1 + y1 / 65536 = y2 at *
  have e6 : IntKind.u64.wrap ((y2 : Int) + (y2 : Int) / 4294967296) = ((y2 + y2 / 4294967296 : Nat) : Int) := by rw [IntKind.wrap_u64]; omega
  generalize y2 + y2 / 4294967296 = y3 at *
  have e7 : bits .and .i64 (y3 : Int) 127 = ((y3 % 128 : Nat) : Int) := by
    have a := bits_and_i64_nat y3 127 (by omega) (by decide)
    rw [show y3 &&& 127 = y3 % 128 from by simpa using Nat.and_two_pow_sub_one_eq_mod y3 7] at a
    exact a
  rw [r7] at e7
  have HE := Lib.hid e7
  have e8 : wrap64 (y3 : Int) = (y3 : Int) := by unfold wrap64; omega
  clear r1 r2 r3 r4 r5 r6 r7
  go_enter Tryd.func35, Tryd.ntmps35
  go_wp2_with fail
  go_ret
  exact ⟨rfl, rfl⟩

set_option maxHeartbeats 800000 in
theorem trail_any (w : World) (hT : Tab w) (x t : Nat) (hx : x < 18446744073709551616) (ht : t < 64) (h1 : x.testBit t = true) (h0 : ∀ j, j < t → x.testBit j = false) :
    Calls Tryd.prog 36 #[.int .u64 x] w fun e w' => e = .returned (.int .i64 t) ∧ w = w' := by
  have hlow := low_bit h1 h0
  have hp := Nat.two_pow_pos t
  have hp2 : 2 ^ t < 18446744073709551616 := Nat.lt_of_lt_of_le (Nat.pow_lt_pow_right (by omega) ht) (Nat.le_refl (2 ^ 64))
  have hx0 : 0 < x := by have := clr_lt x; omega
  obtain ⟨q1, q2⟩ := tab_low t ht
  have hc := hT _ q2
  rw [q1] at hc
  have e0 : (((x : Int) == 0) = false) := by rw [beq_eq_false_iff_ne]; omega
  have e1 : bits .and .u64 (x : Int) (IntKind.u64.wrap (-(x : Int))) = ((2 ^ t : Nat) : Int) := by
    have a := bits_and_u64 x (18446744073709551616 - x) hx (by omega)
    rw [show x &&& (18446744073709551616 - x) = 2 ^ t from by rw [← hlow]; exact and_neg 64 x hx0 hx] at a
    rw [← a]
    congr 1
    rw [IntKind.wrap_u64]; omega
  generalize 2 ^ t = y at *
  have e2 : IntKind.u64.wrap ((y : Int) * 285870213051353865) = ((y * 285870213051353865 % 18446744073709551616 : Nat) : Int) := by rw [IntKind.wrap_u64]; omega
  generalize y * 285870213051353865 % 18446744073709551616 = z at *
  clear hlow hT h0 h1 q1
  go_enter Tryd.func36, Tryd.ntmps36
  go_wp2_with fail
  go_ret
  exact ⟨rfl, rfl⟩
end Go.Proofs.YteodkmndghaidaaDoor

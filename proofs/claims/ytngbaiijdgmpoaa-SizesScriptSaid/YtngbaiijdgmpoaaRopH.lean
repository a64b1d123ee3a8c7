/-
  Contracts of package ropes, eighth: cut, Remove, Move.
-/
import Derived.Test.YtngbaiijdgmpoaaRopG
namespace Go.Proofs.Ytngbaiijdgmpoaa
open Go.RowKit
set_option linter.unusedVariables false
set_option linter.unusedSimpArgs false

/-- The error of a part of a list. -/
def cutErr (L : List Int) (i n : Int) : Int := if i < 0 ∨ n < 0 ∨ (L.length : Int) < i ∨ (L.length : Int) - i < n then 4 else 0
def CutPost (w : World) (L : List Int) (k m : Nat) (e : Ending) (w' : World) : Prop := ∃ a b c, e = .returned (.tuple #[.pointer a, .pointer b, .pointer c, .int .i64 0]) ∧ Rp w' a (L.take k) ∧ Rp w' b ((L.drop k).take m) ∧ Rp w' c ((L.drop k).drop m) ∧ Below w.heap.size w w'

set_option maxRecDepth 100000 in
set_option maxHeartbeats 1600000 in
theorem cut_bad (w : World) (a : Option Addr) (L : List Int) (h : Rp w a L) (ok : LOk L) (i n : Int) (hc : i < 0 ∨ n < 0 ∨ (L.length : Int) < i ∨ (L.length : Int) - i < n) :
    Calls Try.prog 64 #[.agg #[.pointer a], .int .i64 i, .int .i64 n] w (fun e w' => e = .returned (.tuple #[.pointer none, .pointer none, .pointer none, .int .i64 4]) ∧ Below w.heap.size w w') := by
  have V1 := Lib.hid (Var.mk w 29 (.pointer a))
  have VB : Hid (Below w.heap.size w (w.alloc (.cells #[.pointer a] 29))) := (Below.refl _ w).alloc (Nat.le_refl _) _
  have HR := Lib.hid (h.below VB.out)
  have hl := ok.len
  clear h ok
  by_cases c1 : i < 0
  · clear hc
    go_enter Try.func64, Try.ntmps64
    go_wp2_with fail
    exact bodyPost_ret (v := .tuple #[.pointer none, .pointer none, .pointer none, .int .i64 4]) (by simp [results, Try.results64, go_sem]) rfl ⟨rfl, VB.out⟩
  by_cases c2 : n < 0
  · clear hc
    go_enter Try.func64, Try.ntmps64
    go_wp2_with fail
    exact bodyPost_ret (v := .tuple #[.pointer none, .pointer none, .pointer none, .int .i64 4]) (by simp [results, Try.results64, go_sem]) rfl ⟨rfl, VB.out⟩
  have KL := Lib.hid (rlen_any _ a L HR.out)
  obtain ⟨len, el⟩ : ∃ n, n = L.length := ⟨_, rfl⟩
  rw [← el] at KL hc hl
  by_cases c3 : (len : Int) < i
  · clear hc el
    go_enter Try.func64, Try.ntmps64
    go_wp2_with fail
    refine (KL.out).mono ?_
    rintro e w1 ⟨rfl, hb⟩
    have B1 := Lib.hid (VB.out.trans (hb.mono VB.out.size))
    clear hb
    go_wp2_with fail
    exact bodyPost_ret (v := .tuple #[.pointer none, .pointer none, .pointer none, .int .i64 4]) (by simp [results, Try.results64, go_sem]) rfl ⟨rfl, B1.out⟩
  · have c4 : (len : Int) - i < n := by omega
    have EL := Lib.hid el
    clear hc el
    go_enter Try.func64, Try.ntmps64
    go_wp2_with fail
    refine (KL.out).mono ?_
    rintro e w1 ⟨rfl, hb⟩
    have V2 := Lib.hid (V1.out.below hb)
    have B1 := Lib.hid (VB.out.trans (hb.mono VB.out.size))
    have KL2 := Lib.hid (rlen_any w1 a L (HR.out.below hb))
    have cv := V2.out.c
    rw [← EL.out] at KL2
    clear hb
    go_wp2_with fail
    refine (KL2.out).mono ?_
    rintro e w2 ⟨rfl, hb⟩
    have B2 := Lib.hid (B1.out.trans (hb.mono B1.out.size))
    clear hb cv
    go_wp2_with fail
    exact bodyPost_ret (v := .tuple #[.pointer none, .pointer none, .pointer none, .int .i64 4]) (by simp [results, Try.results64, go_sem]) rfl ⟨rfl, B2.out⟩

set_option maxRecDepth 100000 in
set_option maxHeartbeats 1600000 in
theorem cut_ok (w : World) (a : Option Addr) (L : List Int) (h : Rp w a L) (ok : LOk L) (k m : Nat) (hk : k + m ≤ L.length) :
    Calls Try.prog 64 #[.agg #[.pointer a], .int .i64 k, .int .i64 m] w (CutPost w L k m) := by
  have V1 := Lib.hid (Var.mk w 29 (.pointer a))
  have VB : Hid (Below w.heap.size w (w.alloc (.cells #[.pointer a] 29))) := (Below.refl _ w).alloc (Nat.le_refl _) _
  have HR := Lib.hid (h.below VB.out)
  have hl := ok.len
  have OK := Lib.hid ok
  have KL := Lib.hid (rlen_any _ a L HR.out)
  obtain ⟨len, el⟩ : ∃ n, n = L.length := ⟨_, rfl⟩
  rw [← el] at KL hk hl
  have c3 : ¬ (len : Int) < (k : Int) := by omega
  have c4 : ¬ (len : Int) - (k : Int) < (m : Int) := by omega
  have hkl : k ≤ len := by omega
  have EL := Lib.hid el
  clear h ok el
  go_enter Try.func64, Try.ntmps64
  go_wp2_with fail
  refine (KL.out).mono ?_
  rintro e w1 ⟨rfl, hb⟩
  have V2 := Lib.hid (V1.out.below hb)
  have R1 := Lib.hid (HR.out.below hb)
  have B1 := Lib.hid (VB.out.trans (hb.mono VB.out.size))
  have KL2 := Lib.hid (rlen_any w1 a L R1.out)
  have cv := V2.out.c
  rw [← EL.out] at KL2
  clear hb V1 HR KL
  go_wp2_with fail
  refine (KL2.out).mono ?_
  rintro e w2 ⟨rfl, hb⟩
  have V3 := Lib.hid (V2.out.below hb)
  have R2 := Lib.hid (R1.out.below hb)
  have B2 := Lib.hid (B1.out.trans (hb.mono B1.out.size))
  have KS := Lib.hid (split_any w2 a L k k R2.out OK.out (by rw [← EL.out]; exact hkl) rfl)
  have cv2 := V3.out.c
  clear hb cv KL2 R1 B1 V2
  go_wp2_with fail
  refine (KS.out).mono ?_
  rintro e w3 ⟨a1, a2, rfl, p1, p2, p3⟩
  have B3 := Lib.hid (B2.out.trans (p3.mono B2.out.size))
  have R3 := Lib.hid p1
  have KT := Lib.hid (split_any w3 a2 (L.drop k) m m p2 (OK.out.drop k) (by rw [List.length_drop, ← EL.out]; omega) rfl)
  clear p1 p2 p3 cv2
  go_wp2_with fail
  refine (KT.out).mono ?_
  rintro e w4 ⟨a3, a4, rfl, p1, p2, p3⟩
  have H : Hid (CutPost w L k m (.returned (.tuple #[.pointer a1, .pointer a3, .pointer a4, .int .i64 0])) w4) := ⟨a1, a3, a4, rfl, R3.out.below p3, p1, p2, B3.out.trans (p3.mono B3.out.size)⟩
  clear p1 p2 p3
  go_wp2_with fail
  exact bodyPost_ret (v := .tuple #[.pointer a1, .pointer a3, .pointer a4, .int .i64 0]) (by simp [results, Try.results64, go_sem]) rfl H.out

/-- The list without a part. -/
def remL (L : List Int) (k m : Nat) : List Int := L.take k ++ (L.drop k).drop m
theorem remL_ok {L : List Int} (ok : LOk L) (k m : Nat) : LOk (remL L k m) := by
  have h1 : L = L.take k ++ ((L.drop k).take m ++ (L.drop k).drop m) := by rw [List.take_append_drop, List.take_append_drop]
  unfold remL
  rw [h1] at ok
  refine ⟨fun x hx => ?_, ?_, ?_⟩
  · rcases List.mem_append.1 hx with h | h
    · exact ok.nn x (by simp [h])
    · exact ok.nn x (List.mem_append.2 (.inr (List.mem_append.2 (.inr h))))
  · have := ok.len
    simp only [List.length_append] at this ⊢
    omega
  · have h2 := ok.top
    have h3 := ok.right.left.sum0
    rw [List.sum_append, List.sum_append] at h2
    rw [List.sum_append]
    omega
theorem remL_len (L : List Int) (k m : Nat) (h : k + m ≤ L.length) : (remL L k m).length = L.length - m := by unfold remL; simp; omega
def remErr (L : List Int) (i n : Int) : Int := cutErr L i n
def remTo (L : List Int) (i n : Int) : List Int := if cutErr L i n = 0 then remL L i.toNat n.toNat else []
theorem cutErr_cases (L : List Int) (i n : Int) : (cutErr L i n = 4 ∧ (i < 0 ∨ n < 0 ∨ (L.length : Int) < i ∨ (L.length : Int) - i < n)) ∨ (cutErr L i n = 0 ∧ ∃ k m : Nat, i = (k : Int) ∧ n = (m : Int) ∧ k + m ≤ L.length) := by
  unfold cutErr
  by_cases c : i < 0 ∨ n < 0 ∨ (L.length : Int) < i ∨ (L.length : Int) - i < n
  · exact .inl ⟨if_pos c, c⟩
  · exact .inr ⟨if_neg c, i.toNat, n.toNat, by omega, by omega, by omega⟩

set_option maxRecDepth 100000 in
set_option maxHeartbeats 1600000 in
theorem rremove_any (w : World) (a : Option Addr) (L : List Int) (h : Rp w a L) (ok : LOk L) (i n : Int) :
    Calls Try.prog 46 #[.agg #[.pointer a], .int .i64 i, .int .i64 n] w (RPost w (remTo L i n) (cutErr L i n)) := by
  have V1 := Lib.hid (vars2_1 w a)
  have V2 := Lib.hid (vars2_2 w a)
  have VB := Lib.hid (vars2_b w a)
  have HR := Lib.hid (h.below VB.out)
  have OK := Lib.hid ok
  clear h ok
  rcases cutErr_cases L i n with ⟨hE, hc⟩ | ⟨hE, k, m, rfl, rfl, hkm⟩
  · have KC := Lib.hid (cut_bad _ a L HR.out OK.out i n hc)
    unfold remTo
    rw [hE, if_neg (by decide)]
    clear hE hc
    go_enter Try.func46, Try.ntmps46
    go_wp2_with fail
    obtain ⟨w0, e0⟩ : ∃ w0, w0 = vars2 w a := ⟨_, rfl⟩
    change Calls Try.prog _ _ (vars2 w a) _
    rw [← e0] at V1 V2 VB HR KC ⊢
    clear e0
    refine (KC.out).mono ?_
    rintro e w1 ⟨rfl, hb⟩
    have X2 := Lib.hid (V2.out.below hb)
    have d2 := X2.out.c
    have f2 := X2.out.f
    have r2 := (X2.out.set (.pointer none)).c
    have H : Hid (RPost w [] 4 (.returned (.tuple #[.agg #[.pointer none], .int .i64 4])) (w1.setCell ⟨w.heap.size + 1, 0, none⟩ (.pointer none))) := ⟨none, rfl, Rp.nil _, below_set (VB.out.trans (hb.mono VB.out.size)) (by omega) _⟩
    clear hb
    go_wp2_with fail
    exact bodyPost_ret (v := .tuple #[.agg #[.pointer none], .int .i64 4]) (by simp [results, Try.results46, go_sem, r2]) rfl H.out
  · have KC := Lib.hid (cut_ok _ a L HR.out OK.out k m hkm)
    unfold remTo
    rw [hE, if_pos rfl, Int.toNat_natCast, Int.toNat_natCast]
    clear hE
    go_enter Try.func46, Try.ntmps46
    go_wp2_with fail
    obtain ⟨w0, e0⟩ : ∃ w0, w0 = vars2 w a := ⟨_, rfl⟩
    change Calls Try.prog _ _ (vars2 w a) _
    rw [← e0] at V1 V2 VB HR KC ⊢
    clear e0
    refine (KC.out).mono ?_
    rintro e w1 ⟨a1, a2, a3, rfl, p1, p2, p3, p4⟩
    have X2 := Lib.hid (V2.out.below p4)
    have B1 := Lib.hid (VB.out.trans (p4.mono VB.out.size))
    have KP := Lib.hid (put_any w1 a1 a3 _ _ p1 p3 (remL_ok OK.out k m))
    clear p1 p2 p3 p4
    go_wp2_with fail
    refine (KP.out).mono ?_
    rintro e w2 ⟨a4, rfl, p1, p2⟩
    have Y2 := Lib.hid (X2.out.below p2)
    have d2 := Y2.out.c
    have f2 := Y2.out.f
    have r2 := (Y2.out.set (.pointer a4)).c
    have H : Hid (RPost w (remL L k m) 0 (.returned (.tuple #[.agg #[.pointer a4], .int .i64 0])) (w2.setCell ⟨w.heap.size + 1, 0, none⟩ (.pointer a4))) := ⟨a4, rfl, p1.set Y2.out (by decide) rfl _, below_set (B1.out.trans (p2.mono B1.out.size)) (by omega) _⟩
    clear p1 p2
    go_wp2_with fail
    exact bodyPost_ret (v := .tuple #[.agg #[.pointer a4], .int .i64 0]) (by simp [results, Try.results46, go_sem, r2]) rfl H.out
end Go.Proofs.Ytngbaiijdgmpoaa

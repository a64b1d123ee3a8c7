/-
  Contracts of package ropes, ninth: Move, Insert.
-/
import Derived.Test.YtngbaiijdgmpoaaRopH
namespace Go.Proofs.Ytngbaiijdgmpoaa
open Go.RowKit
set_option linter.unusedVariables false
set_option linter.unusedSimpArgs false

theorem LOk.of {L M : List Int} (h : LOk L) (h1 : ∀ x ∈ M, x ∈ L) (h2 : M.length ≤ L.length) (h3 : M.sum ≤ L.sum) : LOk M := ⟨fun x hx => h.nn x (h1 x hx), by have := h.len; omega, by have := h.top; omega⟩
/-- The list in which a part was moved. -/
def movL (L : List Int) (k m t : Nat) : List Int := ((remL L k m).take t ++ (L.drop k).take m) ++ (remL L k m).drop t
theorem parts_eq (L : List Int) (k m : Nat) : L = L.take k ++ ((L.drop k).take m ++ (L.drop k).drop m) := by rw [List.take_append_drop, List.take_append_drop]
theorem movL_ok {L : List Int} (ok : LOk L) (k m t : Nat) : LOk (movL L k m t) := by
  have e := parts_eq L k m
  have es : L.sum = (L.take k).sum + (((L.drop k).take m).sum + ((L.drop k).drop m).sum) := by
    have := congrArg List.sum e
    rwa [List.sum_append, List.sum_append] at this
  have el : L.length = (L.take k).length + (((L.drop k).take m).length + ((L.drop k).drop m).length) := by
    have := congrArg List.length e
    rwa [List.length_append, List.length_append] at this
  have rs : ((remL L k m).take t).sum + ((remL L k m).drop t).sum = (L.take k).sum + ((L.drop k).drop m).sum := by
    rw [← List.sum_append, List.take_append_drop]; unfold remL; rw [List.sum_append]
  have rl : ((remL L k m).take t).length + ((remL L k m).drop t).length = (L.take k).length + ((L.drop k).drop m).length := by
    rw [← List.length_append, List.take_append_drop]; unfold remL; rw [List.length_append]
  refine ok.of (fun x hx => ?_) ?_ ?_
  · have hr : ∀ y, y ∈ remL L k m → y ∈ L := fun y hy => by
      rw [e]
      unfold remL at hy
      rcases List.mem_append.1 hy with h | h
      · exact List.mem_append.2 (.inl h)
      · exact List.mem_append.2 (.inr (List.mem_append.2 (.inr h)))
    unfold movL at hx
    rcases List.mem_append.1 hx with h | h
    · rcases List.mem_append.1 h with h | h
      · exact hr x (List.mem_of_mem_take h)
      · exact List.mem_of_mem_drop (List.mem_of_mem_take h)
    · exact hr x (List.mem_of_mem_drop h)
  · unfold movL; rw [List.length_append, List.length_append]; omega
  · unfold movL; rw [List.sum_append, List.sum_append]; omega
def movErr (L : List Int) (i n t : Int) : Int := if i < 0 ∨ n < 0 ∨ (L.length : Int) < i ∨ (L.length : Int) - i < n ∨ t < 0 ∨ (L.length : Int) - n < t then 4 else 0
def movTo (L : List Int) (i n t : Int) : List Int := if movErr L i n t = 0 then movL L i.toNat n.toNat t.toNat else []

set_option maxRecDepth 100000 in
set_option maxHeartbeats 3200000 in
theorem rmove_any (w : World) (a : Option Addr) (L : List Int) (h : Rp w a L) (ok : LOk L) (i n t : Int) (ft : Fits t) :
    Calls Try.prog 42 #[.agg #[.pointer a], .int .i64 i, .int .i64 n, .int .i64 t] w (RPost w (movTo L i n t) (movErr L i n t)) := by
  have V1 := Lib.hid (vars2_1 w a)
  have V2 := Lib.hid (vars2_2 w a)
  have VB := Lib.hid (vars2_b w a)
  have HR := Lib.hid (h.below VB.out)
  have OK := Lib.hid ok
  have hl := ok.len
  obtain ⟨ft1, ft2⟩ := ft
  clear h ok
  rcases cutErr_cases L i n with ⟨hE, hc⟩ | ⟨hE, k, m, rfl, rfl, hkm⟩
  · have KC := Lib.hid (cut_bad _ a L HR.out OK.out i n hc)
    have hE4 : movErr L i n t = 4 := by unfold movErr; rw [if_pos (by omega)]
    unfold movTo
    rw [hE4, if_neg (by decide)]
    clear hE hE4 hc
    go_enter Try.func42, Try.ntmps42
    go_wp2_with fail
    obtain ⟨w0, e0⟩ : ∃ w0, w0 = vars2 w a := ⟨_, rfl⟩
    change Calls Try.prog _ _ (vars2 w a) _
    rw [← e0] at V1 V2 VB HR KC ⊢
    clear e0
    refine (KC.out).mono ?_
    rintro e w1 ⟨rfl, hb⟩
    have X2 := Lib.hid (V2.out.below hb)
    have d2 := X2.out.c
    have f2 := X2.out.f
    have r2 := (X2.out.set (.pointer none)).c
    have H : Hid (RPost w [] 4 (.returned (.tuple #[.agg #[.pointer none], .int .i64 4])) (w1.setCell ⟨w.heap.size + 1, 0, none⟩ (.pointer none))) := ⟨none, rfl, Rp.nil _, below_set (VB.out.trans (hb.mono VB.out.size)) (by omega) _⟩
    clear hb
    go_wp2_with fail
    exact bodyPost_ret (v := .tuple #[.agg #[.pointer none], .int .i64 4]) (by simp [results, Try.results42, go_sem, r2]) rfl H.out
  have KC := Lib.hid (cut_ok _ a L HR.out OK.out k m hkm)
  by_cases c1 : t < 0
  · have hE4 : movErr L k m t = 4 := by unfold movErr; rw [if_pos (by omega)]
    unfold movTo
    rw [hE4, if_neg (by decide)]
    clear hE hE4
    go_enter Try.func42, Try.ntmps42
    go_wp2_with fail
    obtain ⟨w0, e0⟩ : ∃ w0, w0 = vars2 w a := ⟨_, rfl⟩
    change Calls Try.prog _ _ (vars2 w a) _
    rw [← e0] at V1 V2 VB HR KC ⊢
    clear e0
    refine (KC.out).mono ?_
    rintro e w1 ⟨a1, a2, a3, rfl, p1, p2, p3, hb⟩
    have X2 := Lib.hid (V2.out.below hb)
    have d2 := X2.out.c
    have f2 := X2.out.f
    have r2 := (X2.out.set (.pointer none)).c
    have H : Hid (RPost w [] 4 (.returned (.tuple #[.agg #[.pointer none], .int .i64 4])) (w1.setCell ⟨w.heap.size + 1, 0, none⟩ (.pointer none))) := ⟨none, rfl, Rp.nil _, below_set (VB.out.trans (hb.mono VB.out.size)) (by omega) _⟩
    clear hb p1 p2 p3
    go_wp2_with fail
    exact bodyPost_ret (v := .tuple #[.agg #[.pointer none], .int .i64 4]) (by simp [results, Try.results42, go_sem, r2]) rfl H.out
  have LX : Hid (∀ W (h : Rp W a L), Calls Try.prog 47 #[.agg #[.pointer a]] W fun e w' => e = .returned (.int .i64 L.length) ∧ Below W.heap.size W w') := fun W h => rlen_any W a L h
  obtain ⟨len, el⟩ : ∃ n, n = L.length := ⟨_, rfl⟩
  have EL := Lib.hid el
  rw [← el] at LX hl hkm
  by_cases c2 : (len : Int) - (m : Int) < t
  · have hE4 : movErr L k m t = 4 := by unfold movErr; rw [if_pos (by omega)]
    unfold movTo
    rw [hE4, if_neg (by decide)]
    clear hE hE4 el
    go_enter Try.func42, Try.ntmps42
    go_wp2_with fail
    obtain ⟨w0, e0⟩ : ∃ w0, w0 = vars2 w a := ⟨_, rfl⟩
    change Calls Try.prog _ _ (vars2 w a) _
    rw [← e0] at V1 V2 VB HR KC ⊢
    clear e0
    refine (KC.out).mono ?_
    rintro e w1 ⟨a1, a2, a3, rfl, p1, p2, p3, hb⟩
    have X1 := Lib.hid (V1.out.below hb)
    have X2 := Lib.hid (V2.out.below hb)
    have B1 := Lib.hid (VB.out.trans (hb.mono VB.out.size))
    have KL := Lib.hid (LX.out w1 (HR.out.below hb))
    have d1 := X1.out.c
    clear hb p1 p2 p3
    go_wp2_with fail
    refine (KL.out).mono ?_
    rintro e w2 ⟨rfl, hb⟩
    have Y2 := Lib.hid (X2.out.below hb)
    have d2 := Y2.out.c
    have f2 := Y2.out.f
    have r2 := (Y2.out.set (.pointer none)).c
    have H : Hid (RPost w [] 4 (.returned (.tuple #[.agg #[.pointer none], .int .i64 4])) (w2.setCell ⟨w.heap.size + 1, 0, none⟩ (.pointer none))) := ⟨none, rfl, Rp.nil _, below_set (B1.out.trans (hb.mono B1.out.size)) (by omega) _⟩
    clear hb d1
    go_wp2_with fail
    exact bodyPost_ret (v := .tuple #[.agg #[.pointer none], .int .i64 4]) (by simp [results, Try.results42, go_sem, r2]) rfl H.out
  · obtain ⟨q, rfl⟩ : ∃ q : Nat, t = (q : Int) := ⟨t.toNat, by omega⟩
    have hE0 : movErr L k m q = 0 := by unfold movErr; rw [if_neg (by omega)]
    have hq : q ≤ (remL L k m).length := by rw [remL_len L k m (by omega)]; omega
    have MO := Lib.hid (movL_ok OK.out k m q)
    have RO := Lib.hid (remL_ok OK.out k m)
    unfold movTo
    rw [hE0, if_pos rfl, Int.toNat_natCast, Int.toNat_natCast, Int.toNat_natCast]
    clear hE hE0 el
    go_enter Try.func42, Try.ntmps42
    go_wp2_with fail
    obtain ⟨w0, e0⟩ : ∃ w0, w0 = vars2 w a := ⟨_, rfl⟩
    change Calls Try.prog _ _ (vars2 w a) _
    rw [← e0] at V1 V2 VB HR KC ⊢
    clear e0
    refine (KC.out).mono ?_
    rintro e w1 ⟨a1, a2, a3, rfl, p1, p2, p3, hb⟩
    have X1 := Lib.hid (V1.out.below hb)
    have X2 := Lib.hid (V2.out.below hb)
    have B1 := Lib.hid (VB.out.trans (hb.mono VB.out.size))
    have KL := Lib.hid (LX.out w1 (HR.out.below hb))
    have d1 := X1.out.c
    have P1 := Lib.hid p1
    have P2 := Lib.hid p2
    have P3 := Lib.hid p3
    clear hb p1 p2 p3 KC
    go_wp2_with fail
    refine (KL.out).mono ?_
    rintro e w2 ⟨rfl, hb⟩
    have Y2 := Lib.hid (X2.out.below hb)
    have B2 := Lib.hid (B1.out.trans (hb.mono B1.out.size))
    have KP := Lib.hid (put_any w2 a1 a3 _ _ (P1.out.below hb) (P3.out.below hb) RO.out)
    have Q2 := Lib.hid (P2.out.below hb)
    clear hb d1 KL
    go_wp2_with fail
    refine (KP.out).mono ?_
    rintro e w3 ⟨a4, rfl, p1, p2⟩
    have Z2 := Lib.hid (Y2.out.below p2)
    have B3 := Lib.hid (B2.out.trans (p2.mono B2.out.size))
    have KS := Lib.hid (split_any w3 a4 (remL L k m) q q p1 RO.out hq rfl)
    have Q3 := Lib.hid (Q2.out.below p2)
    clear p1 p2 KP
    go_wp2_with fail
    refine (KS.out).mono ?_
    rintro e w4 ⟨a5, a6, rfl, p1, p2, p3⟩
    have U2 := Lib.hid (Z2.out.below p3)
    have B4 := Lib.hid (B3.out.trans (p3.mono B3.out.size))
    have KP := Lib.hid (put_any w4 a5 a2 _ _ p1 (Q3.out.below p3) (MO.out.left))
    have Q4 := Lib.hid p2
    clear p1 p2 p3 KS
    go_wp2_with fail
    refine (KP.out).mono ?_
    rintro e w5 ⟨a7, rfl, p1, p2⟩
    have U3 := Lib.hid (U2.out.below p2)
    have B5 := Lib.hid (B4.out.trans (p2.mono B4.out.size))
    have KP2 := Lib.hid (put_any w5 a7 a6 _ _ p1 (Q4.out.below p2) MO.out)
    clear p1 p2 KP
    go_wp2_with fail
    refine (KP2.out).mono ?_
    rintro e w6 ⟨a8, rfl, p1, p2⟩
    have U4 := Lib.hid (U3.out.below p2)
    have d2 := U4.out.c
    have f2 := U4.out.f
    have r2 := (U4.out.set (.pointer a8)).c
    have H : Hid (RPost w (movL L k m q) 0 (.returned (.tuple #[.agg #[.pointer a8], .int .i64 0])) (w6.setCell ⟨w.heap.size + 1, 0, none⟩ (.pointer a8))) := ⟨a8, rfl, p1.set U4.out (by decide) rfl _, below_set (B5.out.trans (p2.mono B5.out.size)) (by omega) _⟩
    clear p1 p2
    go_wp2_with fail
    exact bodyPost_ret (v := .tuple #[.agg #[.pointer a8], .int .i64 0]) (by simp [results, Try.results42, go_sem, r2]) rfl H.out
end Go.Proofs.Ytngbaiijdgmpoaa

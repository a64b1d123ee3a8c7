/-
  Contracts of package ropes, twelfth: Set.
-/
import Derived.Test.YtngbaiijdgmpoaaRopK
namespace Go.Proofs.Ytngbaiijdgmpoaa
open Go.RowKit
set_option linter.unusedVariables false
set_option linter.unusedSimpArgs false

def rsetErr (L : List Int) (i v : Int) : Int := if i < 0 ∨ (L.length : Int) ≤ i then 4 else if v < 0 ∨ 2305843009213693952 < v then 12 else if 4611686018427387904 - (L.sum - lf L i.toNat) < v then 13 else 0
def rsetL (L : List Int) (k : Nat) (v : Int) : List Int := L.take k ++ v :: L.drop (k + 1)
def rsetTo (L : List Int) (i v : Int) : List Int := if rsetErr L i v = 0 then rsetL L i.toNat v else []
theorem rset_sum {L : List Int} {k : Nat} (h : k < L.length) (v : Int) : (rsetL L k v).sum = L.sum - lf L k + v := by
  have e : L = L.take k ++ (L[k] :: L.drop (k + 1)) := by rw [← List.drop_eq_getElem_cons h, List.take_append_drop]
  have es := congrArg List.sum e
  rw [List.sum_append, List.sum_cons] at es
  rw [lf_get L h]
  unfold rsetL
  rw [List.sum_append, List.sum_cons]
  omega
theorem rset_len {L : List Int} {k : Nat} (h : k < L.length) (v : Int) : (rsetL L k v).length = L.length := by
  unfold rsetL; simp; omega
theorem rset_ok {L : List Int} (ok : LOk L) {k : Nat} (h : k < L.length) {v : Int} (h0 : 0 ≤ v) (h1 : L.sum - lf L k + v ≤ 4611686018427387904) : LOk (rsetL L k v) := by
  refine ⟨fun x hx => ?_, by rw [rset_len h]; exact ok.len, by rw [rset_sum h]; omega⟩
  unfold rsetL at hx
  rcases List.mem_append.1 hx with h | h
  · exact ok.nn x (List.mem_of_mem_take h)
  · rcases List.mem_cons.1 h with h | h
    · omega
    · exact ok.nn x (List.mem_of_mem_drop h)
theorem lf_le_sum {L : List Int} (ok : LOk L) (k : Nat) (h : k < L.length) : 0 ≤ lf L k ∧ lf L k ≤ L.sum := by
  have e : L = L.take k ++ (L[k] :: L.drop (k + 1)) := by rw [← List.drop_eq_getElem_cons h, List.take_append_drop]
  have es := congrArg List.sum e
  rw [List.sum_append, List.sum_cons] at es
  have h1 := sum_nn (fun x (hx : x ∈ L.take k) => ok.nn x (List.mem_of_mem_take hx))
  have h2 := sum_nn (fun x (hx : x ∈ L.drop (k + 1)) => ok.nn x (List.mem_of_mem_drop hx))
  have h3 := ok.nn _ (List.getElem_mem h)
  rw [lf_get L h]
  omega

set_option maxRecDepth 100000 in
set_option maxHeartbeats 3200000 in
theorem rset_any (w : World) (a : Option Addr) (L : List Int) (h : Rp w a L) (ok : LOk L) (i v : Int) (fi : Fits i) (fv : Fits v) :
    Calls Try.prog 41 #[.agg #[.pointer a], .int .i64 i, .int .i64 v] w (RPost w (rsetTo L i v) (rsetErr L i v)) := by
  have V1 := Lib.hid (vars2_1 w a)
  have V2 := Lib.hid (vars2_2 w a)
  have VB := Lib.hid (vars2_b w a)
  have HR := Lib.hid (h.below VB.out)
  have OK := Lib.hid ok
  have hl := ok.len
  have hs0 := ok.sum0
  have hs1 := ok.top
  obtain ⟨fv1, fv2⟩ := fv
  have KA := Lib.hid (rat_any _ a L HR.out hl i fi)
  clear h ok
  by_cases c1 : i < 0 ∨ (L.length : Int) ≤ i
  · have hE4 : rsetErr L i v = 4 := by unfold rsetErr; rw [if_pos c1]
    have e1 : atVal L i = 0 := by unfold atVal; rw [if_pos c1]
    have e2 : atErr L i = 4 := by unfold atErr; rw [if_pos c1]
    unfold rsetTo
    rw [hE4, if_neg (by decide)]
    rw [e1, e2] at KA
    clear hE4 c1 e1 e2
    go_enter Try.func41, Try.ntmps41
    go_wp2_with fail
    obtain ⟨w0, e0⟩ : ∃ w0, w0 = vars2 w a := ⟨_, rfl⟩
    change Calls Try.prog _ _ (vars2 w a) _
    rw [← e0] at V1 V2 VB HR KA ⊢
    clear e0
    refine (KA.out).mono ?_
    rintro e w1 ⟨rfl, hb⟩
    have X2 := Lib.hid (V2.out.below hb)
    have d2 := X2.out.c
    have f2 := X2.out.f
    have r2 := (X2.out.set (.pointer none)).c
    have H : Hid (RPost w [] 4 (.returned (.tuple #[.agg #[.pointer none], .int .i64 4])) (w1.setCell ⟨w.heap.size + 1, 0, none⟩ (.pointer none))) := ⟨none, rfl, Rp.nil _, below_set (VB.out.trans (hb.mono VB.out.size)) (by omega) _⟩
    clear hb
    go_wp2_with fail
    exact bodyPost_ret (v := .tuple #[.agg #[.pointer none], .int .i64 4]) (by simp [results, Try.results41, go_sem, r2]) rfl H.out
  obtain ⟨k, rfl⟩ : ∃ k : Nat, i = (k : Int) := ⟨i.toNat, by omega⟩
  have hk : k < L.length := by omega
  have e1 : atVal L k = lf L k := by unfold atVal; rw [if_neg c1, Int.toNat_natCast]
  have e2 : atErr L k = 0 := by unfold atErr; rw [if_neg c1]
  rw [e1, e2] at KA
  clear e1 e2
  have hE : rsetErr L k v = if v < 0 ∨ 2305843009213693952 < v then 12 else if 4611686018427387904 - (L.sum - lf L k) < v then 13 else 0 := by unfold rsetErr; rw [if_neg c1, Int.toNat_natCast]
  by_cases c2 : v < 0 ∨ 2305843009213693952 < v
  · unfold rsetTo
    rw [hE, if_pos c2, if_neg (by decide)]
    obtain ⟨y, hy⟩ : ∃ y, y = lf L k := ⟨_, rfl⟩
    rw [← hy] at KA
    clear hE hy
    go_enter Try.func41, Try.ntmps41
    go_wp2_with fail
    obtain ⟨w0, e0⟩ : ∃ w0, w0 = vars2 w a := ⟨_, rfl⟩
    change Calls Try.prog _ _ (vars2 w a) _
    rw [← e0] at V1 V2 VB HR KA ⊢
    clear e0
    refine (KA.out).mono ?_
    rintro e w1 ⟨rfl, hb⟩
    have X2 := Lib.hid (V2.out.below hb)
    have d2 := X2.out.c
    have f2 := X2.out.f
    have r2 := (X2.out.set (.pointer none)).c
    have H : Hid (RPost w [] 12 (.returned (.tuple #[.agg #[.pointer none], .int .i64 12])) (w1.setCell ⟨w.heap.size + 1, 0, none⟩ (.pointer none))) := ⟨none, rfl, Rp.nil _, below_set (VB.out.trans (hb.mono VB.out.size)) (by omega) _⟩
    clear hb
    go_wp2_with fail
    all_goals exact bodyPost_ret (v := .tuple #[.agg #[.pointer none], .int .i64 12]) (by simp [results, Try.results41, go_sem, r2]) rfl H.out
  rw [if_neg c2] at hE
  have hy := lf_le_sum OK.out k hk
  have SO := Lib.hid (fun h => rset_ok OK.out hk (v := v) (by omega) h)
  have LX := Lib.hid (fun W (h : Rp W a L) => rtotal_any W a L h)
  have hdrop : (L.drop k).drop 1 = L.drop (k + 1) := by rw [List.drop_drop]
  have hd1 : 1 ≤ (L.drop k).length := by rw [List.length_drop]; omega
  have SA := Lib.hid (fun W (h : Rp W a L) => split_any W a L k k h OK.out (by omega) rfl)
  have SB := Lib.hid (fun W b (h : Rp W b (L.drop k)) => split_any W b (L.drop k) 1 1 h (by have := OK.out; rw [← List.take_append_drop k L] at this; exact this.right) hd1 rfl)
  rw [hdrop] at SB
  clear hdrop hd1
  obtain ⟨y, ey⟩ : ∃ y, y = lf L k := ⟨_, rfl⟩
  obtain ⟨tt, et⟩ : ∃ t, t = L.sum := ⟨_, rfl⟩
  rw [← ey, ← et] at hy hE SO
  rw [← ey] at KA
  rw [← et] at hs0 hs1 LX
  by_cases c3 : 4611686018427387904 - (tt - y) < v
  · rw [if_pos c3] at hE
    unfold rsetTo
    rw [hE, if_neg (by decide)]
    clear hE ey et SA SB SO
    go_enter Try.func41, Try.ntmps41
    go_wp2_with fail
    obtain ⟨w0, e0⟩ : ∃ w0, w0 = vars2 w a := ⟨_, rfl⟩
    change Calls Try.prog _ _ (vars2 w a) _
    rw [← e0] at V1 V2 VB HR KA ⊢
    clear e0
    refine (KA.out).mono ?_
    rintro e w1 ⟨rfl, hb⟩
    have X1 := Lib.hid (V1.out.below hb)
    have X2 := Lib.hid (V2.out.below hb)
    have BX := Lib.hid (VB.out.trans (hb.mono VB.out.size))
    have KT := Lib.hid (LX.out w1 (HR.out.below hb))
    have d1 := X1.out.c
    clear hb
    go_wp2_with fail
    refine (KT.out).mono ?_
    rintro e w2 ⟨rfl, hb⟩
    have Y2 := Lib.hid (X2.out.below hb)
    have BY := Lib.hid (BX.out.trans (hb.mono BX.out.size))
    have d2 := Y2.out.c
    have f2 := Y2.out.f
    have r2 := (Y2.out.set (.pointer none)).c
    have H : Hid (RPost w [] 13 (.returned (.tuple #[.agg #[.pointer none], .int .i64 13])) (w2.setCell ⟨w.heap.size + 1, 0, none⟩ (.pointer none))) := ⟨none, rfl, Rp.nil _, below_set BY.out (by omega) _⟩
    clear hb d1
    go_wp2_with fail
    exact bodyPost_ret (v := .tuple #[.agg #[.pointer none], .int .i64 13]) (by simp [results, Try.results41, go_sem, r2]) rfl H.out
  · rw [if_neg c3] at hE
    unfold rsetTo
    rw [hE, if_pos rfl, Int.toNat_natCast]
    have SO2 := Lib.hid (SO.out (by omega))
    clear hE ey et SO
    go_enter Try.func41, Try.ntmps41
    go_wp2_with fail
    obtain ⟨w0, e0⟩ : ∃ w0, w0 = vars2 w a := ⟨_, rfl⟩
    change Calls Try.prog _ _ (vars2 w a) _
    rw [← e0] at V1 V2 VB HR KA ⊢
    clear e0
    refine (KA.out).mono ?_
    rintro e w1 ⟨rfl, hb⟩
    have X1 := Lib.hid (V1.out.below hb)
    have X2 := Lib.hid (V2.out.below hb)
    have BX := Lib.hid (VB.out.trans (hb.mono VB.out.size))
    have RX := Lib.hid (HR.out.below hb)
    have KT := Lib.hid (LX.out w1 RX.out)
    have d1 := X1.out.c
    clear hb
    go_wp2_with fail
    refine (KT.out).mono ?_
    rintro e w2 ⟨rfl, hb⟩
    have Y1 := Lib.hid (X1.out.below hb)
    have Y2 := Lib.hid (X2.out.below hb)
    have BY := Lib.hid (BX.out.trans (hb.mono BX.out.size))
    have KS := Lib.hid (SA.out w2 (RX.out.below hb))
    have d2 := Y1.out.c
    clear hb d1 X1 X2 BX RX
    go_wp2_with fail
    refine (KS.out).mono ?_
    rintro e w3 ⟨a1, a2, rfl, p1, p2, hb⟩
    have X2 := Lib.hid (Y2.out.below hb)
    have BX := Lib.hid (BY.out.trans (hb.mono BY.out.size))
    have P1 := Lib.hid p1
    have KS2 := Lib.hid (SB.out w3 a2 p2)
    clear hb p1 p2 d2 Y1 Y2 BY KS
    go_wp2_with fail
    refine (KS2.out).mono ?_
    rintro e w4 ⟨a3, a4, rfl, p1, p2, hb⟩
    have Y2 := Lib.hid (X2.out.below hb)
    have BY := Lib.hid (BX.out.trans (hb.mono BX.out.size))
    have KJ := Lib.hid (joinRp w4 a1 a4 (L.take k) (L.drop (k + 1)) v (P1.out.below hb) p2 SO2.out)
    clear hb p1 p2 X2 BX KS2
    go_wp2_with fail
    refine (KJ.out).mono ?_
    rintro e w5 ⟨a5, rfl, p1, hb⟩
    have X2 := Lib.hid (Y2.out.below hb)
    have d2 := X2.out.c
    have f2 := X2.out.f
    have r2 := (X2.out.set (.pointer a5)).c
    have H : Hid (RPost w (rsetL L k v) 0 (.returned (.tuple #[.agg #[.pointer a5], .int .i64 0])) (w5.setCell ⟨w.heap.size + 1, 0, none⟩ (.pointer a5))) := ⟨a5, rfl, p1.set X2.out (by decide) rfl _, below_set (BY.out.trans (hb.mono BY.out.size)) (by omega) _⟩
    clear hb p1
    go_wp2_with fail
    exact bodyPost_ret (v := .tuple #[.agg #[.pointer a5], .int .i64 0]) (by simp [results, Try.results41, go_sem, r2]) rfl H.out
end Go.Proofs.Ytngbaiijdgmpoaa

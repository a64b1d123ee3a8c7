/-
  Contracts of package ropes, tenth: Insert.
-/
import Derived.Test.YtngbaiijdgmpoaaRopI
namespace Go.Proofs.Ytngbaiijdgmpoaa
open Go.RowKit
set_option linter.unusedVariables false
set_option linter.unusedSimpArgs false

def insErr (L : List Int) (i : Int) (S : List Int) : Int := if i < 0 ∨ (L.length : Int) < i then 4 else if chkL S ≠ 0 then chkL S else joinErr L S
def insL (L : List Int) (k : Nat) (S : List Int) : List Int := (L.take k ++ S) ++ L.drop k
def insTo (L : List Int) (i : Int) (S : List Int) : List Int := if insErr L i S = 0 then insL L i.toNat S else []
theorem insL_ok {L S : List Int} (h : LOk (L ++ S)) (k : Nat) : LOk (insL L k S) := by
  have e : L = L.take k ++ L.drop k := by rw [List.take_append_drop]
  have es : L.sum = (L.take k).sum + (L.drop k).sum := by rw [← List.sum_append, List.take_append_drop]
  have el : L.length = (L.take k).length + (L.drop k).length := by rw [← List.length_append, List.take_append_drop]
  refine h.of (fun x hx => ?_) ?_ ?_
  · unfold insL at hx
    rcases List.mem_append.1 hx with h | h
    · rcases List.mem_append.1 h with h | h
      · exact List.mem_append.2 (.inl (List.mem_of_mem_take h))
      · exact List.mem_append.2 (.inr h)
    · exact List.mem_append.2 (.inl (List.mem_of_mem_drop h))
  · unfold insL; rw [List.length_append, List.length_append, List.length_append]; omega
  · unfold insL; rw [List.sum_append, List.sum_append, List.sum_append]; omega
theorem joinErr_ok {A B : List Int} (oa : LOk A) (ob : LOk B) (h : joinErr A B = 0) : LOk (A ++ B) ∧ A.length + B.length ≤ 4096 := by
  unfold joinErr at h
  by_cases c1 : 4096 < A.length + B.length
  · rw [if_pos c1] at h; exact absurd h (by decide)
  rw [if_neg c1] at h
  by_cases c2 : 4611686018427387904 - B.sum < A.sum
  · rw [if_pos c2] at h; exact absurd h (by decide)
  exact ⟨⟨fun x hx => by rcases List.mem_append.1 hx with h | h; exact oa.nn x h; exact ob.nn x h, by rw [List.length_append]; omega, by rw [List.sum_append]; omega⟩, by omega⟩

theorem SpPost.low {w w' : World} {A B : List Int} {err : Int} {e : Ending} (h : SpPost w A B err e w') : Below w.heap.size w w' := by obtain ⟨_, _, _, _, _, h⟩ := h; exact h

/-- The world with two more variables. -/
def varsP (w : World) (a b : Option Addr) : World := (w.alloc (.cells #[.pointer a] 29)).alloc (.cells #[.pointer b] 29)
theorem varsP_all (w : World) (a b : Option Addr) : Var (varsP w a b) w.heap.size 29 (.pointer a) ∧ Var (varsP w a b) (w.heap.size + 1) 29 (.pointer b) ∧ Below w.heap.size w (varsP w a b) := by
  have h2 := Var.mk (w.alloc (.cells #[.pointer a] 29)) 29 (.pointer b)
  rw [World.size_alloc] at h2
  exact ⟨World.rowIs.alloc (Var.mk w _ _) _, h2, ((Below.refl _ w).alloc (Nat.le_refl _) _).alloc (by rw [World.size_alloc]; omega) _⟩

set_option maxRecDepth 100000 in
set_option maxHeartbeats 3200000 in
theorem rinsert_any (w : World) (a : Option Addr) (L : List Int) (h : Rp w a L) (ok : LOk L) (i : Int) (A : Option Addr) (c B : Nat) (S : List Int) (hs : SeesL w B A S) (hB : B ≤ w.heap.size) (hc : S.length ≤ c) (hm : c ≤ maxLen) (hn : S.length ≤ 1000000000000000) (hf : ∀ x ∈ S, Fits x) :
    Calls Try.prog 36 #[.agg #[.pointer a], .int .i64 i, .slice A S.length c] w (RPost w (insTo L i S) (insErr L i S)) := by
  have V1 := Lib.hid (vars2_1 w a)
  have V2 := Lib.hid (vars2_2 w a)
  have VB := Lib.hid (vars2_b w a)
  have HR := Lib.hid (h.below VB.out)
  have OK := Lib.hid ok
  have HS := Lib.hid ((hs.more hB).below VB.out)
  have HF := Lib.hid hf
  clear h ok hs hf
  by_cases c1 : i < 0 ∨ (L.length : Int) < i
  · have KS := Lib.hid (rsplit_bad _ a L HR.out OK.out i c1)
    have hE4 : insErr L i S = 4 := by unfold insErr; rw [if_pos c1]
    unfold insTo
    rw [hE4, if_neg (by decide)]
    clear hE4 c1
    go_enter Try.func36, Try.ntmps36
    go_wp2_with fail
    obtain ⟨w0, e0⟩ : ∃ w0, w0 = vars2 w a := ⟨_, rfl⟩
    change Calls Try.prog _ _ (vars2 w a) _
    rw [← e0] at V1 V2 VB HR KS HS ⊢
    clear e0
    refine (KS.out).mono ?_
    rintro e w1 ⟨a1, a2, rfl, p1, p2, hb⟩
    have X2 := Lib.hid (V2.out.below hb)
    obtain ⟨_, _, hbp⟩ := varsP_all w1 a1 a2
    have X3 := Lib.hid (X2.out.below hbp)
    have d2 := X3.out.c
    have f2 := X3.out.f
    unfold varsP at d2 f2
    have r2 := (X3.out.set (.pointer none)).c
    have H : Hid (RPost w [] 4 (.returned (.tuple #[.agg #[.pointer none], .int .i64 4])) ((varsP w1 a1 a2).setCell ⟨w.heap.size + 1, 0, none⟩ (.pointer none))) := ⟨none, rfl, Rp.nil _, below_set ((VB.out.trans (hb.mono VB.out.size)).trans (hbp.mono (by have := VB.out.size; have := hb.size; omega))) (by omega) _⟩
    clear hb p1 p2 hbp
    unfold varsP at r2 H
    go_wp2_with fail
    exact bodyPost_ret (v := .tuple #[.agg #[.pointer none], .int .i64 4]) (by simp [results, Try.results36, go_sem, r2]) rfl H.out
  obtain ⟨k, rfl⟩ : ∃ k : Nat, i = (k : Int) := ⟨i.toNat, by omega⟩
  have hk : k ≤ L.length := by omega
  have KS := Lib.hid (rsplit_ok _ a L HR.out OK.out k hk)
  by_cases c2 : chkL S = 0
  · have OS := Lib.hid (chkL_ok c2).1
    have hJ : insErr L k S = joinErr L S := by unfold insErr; rw [if_neg c1, if_neg (by rw [c2]; decide)]
    unfold insTo
    rw [hJ, Int.toNat_natCast]
    clear hJ c1
    obtain ⟨x, ex⟩ : ∃ x, x = joinErr L S := ⟨_, rfl⟩
    have EX := Lib.hid ex
    have OI := Lib.hid (fun h => insL_ok (joinErr_ok OK.out OS.out h).1 k)
    rw [← ex] at OI
    by_cases c3 : x = 0
    · have RJ := Lib.hid (fun W a b h1 h2 => rjoin_any W a b L S h1 h2 OK.out OS.out)
      rw [← ex, if_pos c3] at RJ ⊢
      subst c3
      have OI2 := Lib.hid (OI.out rfl)
      clear ex OI
      go_enter Try.func36, Try.ntmps36
      go_wp2_with fail
      obtain ⟨w0, e0⟩ : ∃ w0, w0 = vars2 w a := ⟨_, rfl⟩
      change Calls Try.prog _ _ (vars2 w a) _
      rw [← e0] at V1 V2 VB HR KS HS ⊢
      clear e0
      refine (KS.out).mono ?_
      rintro e w1 ⟨a1, a2, rfl, p1, p2, hb⟩
      obtain ⟨q1, q2, hbp⟩ := varsP_all w1 a1 a2
      have hsz := VB.out.size
      have X1 := Lib.hid ((V1.out.below hb).below hbp)
      have X2 := Lib.hid ((V2.out.below hb).below hbp)
      have Z1 := Lib.hid q1
      have Z2 := Lib.hid q2
      have P1 := Lib.hid (p1.below hbp)
      have P2 := Lib.hid (p2.below hbp)
      have BX := Lib.hid (VB.out.trans (hb.mono VB.out.size) |>.trans (hbp.mono (by have := VB.out.size; have := hb.size; omega)))
      have RX := Lib.hid ((HR.out.below hb).below hbp)
      have HX := Lib.hid ((HS.out.below (hb.mono VB.out.size)).below (hbp.mono (by have := VB.out.size; have := hb.size; omega)))
      have lt1 : w.heap.size + 1 < w1.heap.size := by have := World.rowIs.lt V2.out; have := hb.size; omega
      obtain ⟨wP, eP⟩ : ∃ wP, wP = varsP w1 a1 a2 := ⟨_, rfl⟩
      rw [← eP] at X1 X2 Z1 Z2 P1 P2 BX RX HX
      have EP := Lib.hid eP
      have KO := Lib.hid (of_any wP A c _ S HX.out (by have := BX.out.size; omega) hc hm hn HF.out)
      rw [if_pos c2, c2] at KO
      clear hb p1 p2 hbp q1 q2 eP KS HR HS V1 V2 VB c2
      go_wp2_with fail
      change Calls Try.prog _ _ (varsP w1 a1 a2) _
      rw [← EP.out]
      refine (KO.out).mono ?_
      rintro e w2 ⟨a3, rfl, p3, hb⟩
      have lt2 : w1.heap.size + 1 < w2.heap.size := by have := World.rowIs.lt Z2.out; have := hb.size; omega
      have hb' := hb.alloc hb.size (.cells #[.pointer a3] 29)
      have Y1 : Hid (Var (w2.alloc (.cells #[.pointer a3] 29)) w.heap.size 29 (.pointer a)) := World.rowIs.alloc (X1.out.below hb) _
      have Y2 : Hid (Var (w2.alloc (.cells #[.pointer a3] 29)) (w.heap.size + 1) 29 (.pointer none)) := World.rowIs.alloc (X2.out.below hb) _
      have Y3 : Hid (Var (w2.alloc (.cells #[.pointer a3] 29)) w2.heap.size 29 (.pointer a3)) := Var.mk _ _ _
      have Y4 : Hid (Var (w2.alloc (.cells #[.pointer a3] 29)) w1.heap.size 29 (.pointer a1)) := World.rowIs.alloc (Z1.out.below hb) _
      have Y5 : Hid (Var (w2.alloc (.cells #[.pointer a3] 29)) (w1.heap.size + 1) 29 (.pointer a2)) := World.rowIs.alloc (Z2.out.below hb) _
      have Q1 := Lib.hid (P1.out.below hb')
      have Q2 := Lib.hid (P2.out.below hb')
      have Q3 := Lib.hid (p3.below ((Below.refl _ w2).alloc (Nat.le_refl _) (.cells #[.pointer a3] 29)))
      have RY := Lib.hid (RX.out.below hb')
      have BY := Lib.hid (BX.out.trans (hb'.mono BX.out.size))
      obtain ⟨wQ, eQ⟩ : ∃ wQ, wQ = w2.alloc (.cells #[.pointer a3] 29) := ⟨_, rfl⟩
      rw [← eQ] at Y1 Y2 Y3 Y4 Y5 Q1 Q2 Q3 RY BY
      have EQ := Lib.hid eQ
      have KJ := Lib.hid (RJ.out wQ a a3 RY.out Q3.out)
      have d1 := Y1.out.c
      have d3 := Y3.out.c
      rw [eQ] at d1 d3
      clear hb hb' p3 eQ KO X1 X2 Z1 Z2 P1 P2 BX RX HX
      go_wp2_with fail
      change Calls Try.prog _ _ (w2.alloc _) _
      rw [← EQ.out]
      refine (KJ.out).mono ?_
      rintro e w3 ⟨a4, rfl, p4, hb⟩
      have lt3 : w2.heap.size < w3.heap.size := by have := World.rowIs.lt Y3.out; have := hb.size; omega
      have hb' := hb.alloc hb.size (.cells #[.pointer a4] 29)
      have X2 : Hid (Var (w3.alloc (.cells #[.pointer a4] 29)) (w.heap.size + 1) 29 (.pointer none)) := World.rowIs.alloc (Y2.out.below hb) _
      have X3 : Hid (Var (w3.alloc (.cells #[.pointer a4] 29)) w2.heap.size 29 (.pointer a3)) := World.rowIs.alloc (Y3.out.below hb) _
      have X4 : Hid (Var (w3.alloc (.cells #[.pointer a4] 29)) w1.heap.size 29 (.pointer a1)) := World.rowIs.alloc (Y4.out.below hb) _
      have X5 : Hid (Var (w3.alloc (.cells #[.pointer a4] 29)) (w1.heap.size + 1) 29 (.pointer a2)) := World.rowIs.alloc (Y5.out.below hb) _
      have P1 := Lib.hid (Q1.out.below hb')
      have P2 := Lib.hid (Q2.out.below hb')
      have P3 := Lib.hid (Q3.out.below hb')
      have BX := Lib.hid (BY.out.trans (hb'.mono BY.out.size))
      obtain ⟨wR, eR⟩ : ∃ wR, wR = w3.alloc (.cells #[.pointer a4] 29) := ⟨_, rfl⟩
      rw [← eR] at X2 X3 X4 X5 P1 P2 P3 BX
      have ER := Lib.hid eR
      clear hb hb' p4 eR KJ Y1 Y2 Y3 Y4 Y5 Q1 Q2 Q3 RY BY d1 d3
      go_wp2_with fail
      change Code.wp _ _ _ _ (w3.alloc _)
      rw [← ER.out]
      have n1 : ¬ w1.heap.size = w.heap.size + 1 := by omega
      have n2 : ¬ w1.heap.size = w.heap.size := by omega
      have n3 : ¬ w2.heap.size = w.heap.size + 1 := by omega
      have S0 : Hid (Fr (fun b => b = w.heap.size + 1) wR wR.drew) := (Fr.refl _ _).drawn ⟨1, rfl⟩
      have d4 := X4.out.c
      have d5 := X5.out.c
      have d3 := X3.out.c
      have g4 := World.rowIs.lt X4.out
      have g5 := World.rowIs.lt X5.out
      have g3 := World.rowIs.lt X3.out
      refine wp_region_plan [(false, 0), (false, 1), (false, 2), (false, 3), (false, 5), (false, 6), (true, 4), (true, 7), (false, 8), (true, 9), (false, 10)] (Fr (fun b => b = w.heap.size + 1) wR) (by kernel_rfl) (by kernel_rfl) (S0.out) _ (by simp only [pickH, List.getElem?_toArray, List.getElem?_cons_succ, List.getElem?_cons_zero]; rfl) ?_
      repeat (refine HWalk.step (fun K hK => ?_); first | (apply held_yes; (focus rfl); (focus (intro w' hw; have hc' := fr_cells hw; go_simp; rfl)); (go_simp; refine hK _ ?_; clear hK K)) | (refine ite_no (by decide) ?_; go_simp; refine hK _ ?_; clear hK K))
      clear d3 d4 d5 g3 g4 g5
      refine HWalk.mark ?_
      go_wp2_with fail
      have D0 : Hid (Below wR.heap.size wR wR.drew) := (Below.refl _ _).drew
      have OA := Lib.hid (OI2.out.left)
      refine (put_any wR.drew a1 a3 _ _ (P1.out.below D0.out) (P3.out.below D0.out) OA.out).mono ?_
      rintro e w5 ⟨a5, rfl, p1, hb⟩
      have B5 : Hid (Below wR.heap.size wR w5) := D0.out.trans hb
      have KP := Lib.hid (put_any w5 a5 a2 _ _ p1 (P2.out.below B5.out) OI2.out)
      have S1 := Lib.hid (Fr.of_below (S := fun b => b = w.heap.size + 1) B5.out)
      clear p1 hb
      go_wp2_with fail
      refine ⟨S1.out, ?_⟩
      repeat (refine HWalk.step (fun K hK => ?_); first | (apply held_yes; (focus rfl); (focus (intro w' hw; have hc' := fr_cells hw; go_simp; rfl)); (go_simp; refine hK _ ?_; clear hK K)) | (refine ite_no (by decide) ?_; go_simp; refine hK _ ?_; clear hK K))
      refine HWalk.mark ?_
      go_wp2_with fail
      refine (KP.out).mono ?_
      rintro e w6 ⟨a6, rfl, p1, hb⟩
      have B6 : Hid (Below wR.heap.size wR w6) := B5.out.trans (hb.mono B5.out.size)
      have U2 := Lib.hid (X2.out.below B6.out)
      have d2 := U2.out.c
      have f2 := U2.out.f
      have r2 := (U2.out.set (.pointer a6)).c
      have S2 := Lib.hid (Fr.of_below (S := fun b => b = w.heap.size + 1) B6.out)
      have S3 := Lib.hid (S2.out.setCell (p := ⟨w.heap.size + 1, 0, none⟩) rfl (.pointer a6))
      have H : Hid (RPost w (insL L k S) 0 (.returned (.tuple #[.agg #[.pointer a6], .int .i64 0])) (w6.setCell ⟨w.heap.size + 1, 0, none⟩ (.pointer a6))) := ⟨a6, rfl, p1.set U2.out (by decide) rfl _, below_set (BX.out.trans (B6.out.mono BX.out.size)) (by omega) _⟩
      clear p1 hb KP
      go_wp2_with fail
      refine ⟨S2.out, ?_⟩
      repeat (refine HWalk.step (fun K hK => ?_); first | (apply held_yes; (focus rfl); (focus (intro w' hw; have hc' := fr_cells hw; go_simp; rfl)); (go_simp; refine hK _ ?_; clear hK K)) | (refine ite_no (by decide) ?_; go_simp; refine hK _ ?_; clear hK K))
      refine HWalk.mark ?_
      go_wp2_with fail
      refine ⟨S3.out, ?_⟩
      repeat (refine HWalk.step (fun K hK => ?_); first | (apply held_yes; (focus rfl); (focus (intro w' hw; have hc' := fr_cells hw; go_simp; rfl)); (go_simp; refine hK _ ?_; clear hK K)) | (refine ite_no (by decide) ?_; go_simp; refine hK _ ?_; clear hK K))
      refine HWalk.done ?_
      go_wp2_with fail
      go_wp2_with fail
      exact bodyPost_ret (v := .tuple #[.agg #[.pointer a6], .int .i64 0]) (by simp [results, Try.results36, go_sem, r2]) rfl H.out
    · have RJ := Lib.hid (fun W a b h1 h2 => rjoin_any W a b L S h1 h2 OK.out OS.out)
      rw [← ex, if_neg c3] at RJ ⊢
      clear ex OI
      go_enter Try.func36, Try.ntmps36
      go_wp2_with fail
      obtain ⟨w0, e0⟩ : ∃ w0, w0 = vars2 w a := ⟨_, rfl⟩
      change Calls Try.prog _ _ (vars2 w a) _
      rw [← e0] at V1 V2 VB HR KS HS ⊢
      clear e0
      refine (KS.out).mono ?_
      rintro e w1 ⟨a1, a2, rfl, p1, p2, hb⟩
      obtain ⟨q1, q2, hbp⟩ := varsP_all w1 a1 a2
      have hsz := VB.out.size
      have X1 := Lib.hid ((V1.out.below hb).below hbp)
      have X2 := Lib.hid ((V2.out.below hb).below hbp)
      have BX := Lib.hid (VB.out.trans (hb.mono VB.out.size) |>.trans (hbp.mono (by have := VB.out.size; have := hb.size; omega)))
      have RX := Lib.hid ((HR.out.below hb).below hbp)
      have HX := Lib.hid ((HS.out.below (hb.mono VB.out.size)).below (hbp.mono (by have := VB.out.size; have := hb.size; omega)))
      have lt1 : w.heap.size + 1 < w1.heap.size := by have := World.rowIs.lt V2.out; have := hb.size; omega
      obtain ⟨wP, eP⟩ : ∃ wP, wP = varsP w1 a1 a2 := ⟨_, rfl⟩
      rw [← eP] at X1 X2 BX RX HX
      have EP := Lib.hid eP
      have KO := Lib.hid (of_any wP A c _ S HX.out (by have := BX.out.size; omega) hc hm hn HF.out)
      rw [if_pos c2, c2] at KO
      clear hb p1 p2 hbp q1 q2 eP KS HR HS V1 V2 VB c2
      go_wp2_with fail
      change Calls Try.prog _ _ (varsP w1 a1 a2) _
      rw [← EP.out]
      refine (KO.out).mono ?_
      rintro e w2 ⟨a3, rfl, p3, hb⟩
      have lt2 : w.heap.size + 1 < w2.heap.size := by have := World.rowIs.lt X2.out; have := hb.size; omega
      have hb' := hb.alloc hb.size (.cells #[.pointer a3] 29)
      have Y1 : Hid (Var (w2.alloc (.cells #[.pointer a3] 29)) w.heap.size 29 (.pointer a)) := World.rowIs.alloc (X1.out.below hb) _
      have Y2 : Hid (Var (w2.alloc (.cells #[.pointer a3] 29)) (w.heap.size + 1) 29 (.pointer none)) := World.rowIs.alloc (X2.out.below hb) _
      have Y3 : Hid (Var (w2.alloc (.cells #[.pointer a3] 29)) w2.heap.size 29 (.pointer a3)) := Var.mk _ _ _
      have Q3 := Lib.hid (p3.below ((Below.refl _ w2).alloc (Nat.le_refl _) (.cells #[.pointer a3] 29)))
      have RY := Lib.hid (RX.out.below hb')
      have BY := Lib.hid (BX.out.trans (hb'.mono BX.out.size))
      obtain ⟨wQ, eQ⟩ : ∃ wQ, wQ = w2.alloc (.cells #[.pointer a3] 29) := ⟨_, rfl⟩
      rw [← eQ] at Y1 Y2 Y3 Q3 RY BY
      have EQ := Lib.hid eQ
      have KJ := Lib.hid (RJ.out wQ a a3 RY.out Q3.out)
      have d1 := Y1.out.c
      have d3 := Y3.out.c
      rw [eQ] at d1 d3
      clear hb hb' p3 eQ KO X1 X2 BX RX HX
      go_wp2_with fail
      change Calls Try.prog _ _ (w2.alloc _) _
      rw [← EQ.out]
      refine (KJ.out).mono ?_
      rintro e w3 ⟨a4, rfl, p4, hb⟩
      have hb' := hb.alloc hb.size (.cells #[.pointer a4] 29)
      have X2 : Hid (Var (w3.alloc (.cells #[.pointer a4] 29)) (w.heap.size + 1) 29 (.pointer none)) := World.rowIs.alloc (Y2.out.below hb) _
      have BX := Lib.hid (BY.out.trans (hb'.mono BY.out.size))
      have d2 := X2.out.c
      have f2 := X2.out.f
      have r2 := (X2.out.set (.pointer none)).c
      have H : Hid (RPost w [] x (.returned (.tuple #[.agg #[.pointer none], .int .i64 x])) ((w3.alloc (.cells #[.pointer a4] 29)).setCell ⟨w.heap.size + 1, 0, none⟩ (.pointer none))) := ⟨none, rfl, Rp.nil _, below_set BX.out (by omega) _⟩
      clear hb hb' p4 KJ Y1 Y2 Y3 Q3 RY BY d1 d3
      go_wp2_with fail
      exact bodyPost_ret (v := .tuple #[.agg #[.pointer none], .int .i64 x]) (by simp [results, Try.results36, go_sem, r2]) rfl (by first | exact H.out | (rw [← EX.out]; exact H.out))
  · have hE : insErr L k S = chkL S := by unfold insErr; rw [if_neg c1, if_pos c2]
    unfold insTo
    rw [hE, if_neg c2]
    clear hE c1
    go_enter Try.func36, Try.ntmps36
    go_wp2_with fail
    obtain ⟨w0, e0⟩ : ∃ w0, w0 = vars2 w a := ⟨_, rfl⟩
    change Calls Try.prog _ _ (vars2 w a) _
    rw [← e0] at V1 V2 VB HR KS HS ⊢
    clear e0
    refine (KS.out).mono ?_
    rintro e w1 ⟨a1, a2, rfl, p1, p2, hb⟩
    obtain ⟨q1, q2, hbp⟩ := varsP_all w1 a1 a2
    have X2 := Lib.hid ((V2.out.below hb).below hbp)
    have BX := Lib.hid (VB.out.trans (hb.mono VB.out.size) |>.trans (hbp.mono (by have := VB.out.size; have := hb.size; omega)))
    have HX := Lib.hid ((HS.out.below (hb.mono VB.out.size)).below (hbp.mono (by have := VB.out.size; have := hb.size; omega)))
    obtain ⟨wP, eP⟩ : ∃ wP, wP = varsP w1 a1 a2 := ⟨_, rfl⟩
    rw [← eP] at X2 BX HX
    have EP := Lib.hid eP
    have KO := Lib.hid (of_any wP A c _ S HX.out (by have := BX.out.size; omega) hc hm hn HF.out)
    rw [if_neg c2] at KO
    obtain ⟨x, ex⟩ : ∃ x, x = chkL S := ⟨_, rfl⟩
    have EX := Lib.hid ex
    rw [← ex] at KO c2 ⊢
    clear hb p1 p2 hbp q1 q2 eP ex KS
    go_wp2_with fail
    change Calls Try.prog _ _ (varsP w1 a1 a2) _
    rw [← EP.out]
    refine (KO.out).mono ?_
    rintro e w2 ⟨a3, rfl, p1, hb⟩
    have Y2 : Hid (Var (w2.alloc (.cells #[.pointer a3] 29)) (w.heap.size + 1) 29 (.pointer none)) := World.rowIs.alloc (X2.out.below hb) _
    have BY := Lib.hid ((BX.out.trans (hb.mono BX.out.size)).alloc (by have := BX.out.size; have := hb.size; omega) (.cells #[.pointer a3] 29))
    have d2 := Y2.out.c
    have f2 := Y2.out.f
    have r2 := (Y2.out.set (.pointer none)).c
    have H : Hid (RPost w [] x (.returned (.tuple #[.agg #[.pointer none], .int .i64 x])) ((w2.alloc (.cells #[.pointer a3] 29)).setCell ⟨w.heap.size + 1, 0, none⟩ (.pointer none))) := ⟨none, rfl, Rp.nil _, below_set BY.out (by omega) _⟩
    clear hb p1 KO
    go_wp2_with fail
    exact bodyPost_ret (v := .tuple #[.agg #[.pointer none], .int .i64 x]) (by simp [results, Try.results36, go_sem, r2]) rfl (by rw [← EX.out]; exact H.out)
end Go.Proofs.Ytngbaiijdgmpoaa

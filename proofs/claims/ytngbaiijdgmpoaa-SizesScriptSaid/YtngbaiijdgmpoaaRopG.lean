/-
  Contracts of package ropes, seventh: Of, Len, Total, Depth, Split, Join.
-/
import Derived.Test.YtngbaiijdgmpoaaRopF
import Derived.Test.YtngbaiijdgmpoaaFenCk
namespace Go.Proofs.Ytngbaiijdgmpoaa
open Go.RowKit
set_option linter.unusedVariables false
set_option linter.unusedSimpArgs false

theorem Rp.set {w : World} {a : Option Addr} {L : List Int} (h : Rp w a L) {g : Nat} {ty : TypeId} {n : Nat} {f : Nat → Value} (hg : w.rowIs g ty n f) (hty : ty ≠ 92) {p : Addr} (hp : p.block = g) (v : Value) : Rp (w.setCell p v) a L := by
  obtain ⟨t, h1, h2, h3⟩ := h
  exact ⟨t, h1.set hg hty hp v, h2, h3⟩
theorem below_set {B : Nat} {a w : World} (h : Below B a w) {b o : Nat} (hb : B ≤ b) (v : Value) : Below B a (w.setCell ⟨b, o, none⟩ v) := h.setCell (p := ⟨b, o, none⟩) hb v
/-- A variable of one cell. -/
abbrev Var (w : World) (p : Nat) (t : TypeId) (v : Value) : Prop := w.rowIs p t 1 (fun _ => v)
theorem Var.mk (w : World) (t : TypeId) (v : Value) : Var (w.alloc (.cells #[v] t)) w.heap.size t v := World.rowIs_alloc w #[v] t _ (fun j hj => by
  have h0 : j = 0 := Nat.lt_one_iff.1 hj
  subst h0; rfl)
theorem Var.c {w : World} {p : Nat} {t : TypeId} {v : Value} (h : Var w p t v) : w.cell? ⟨p, 0, none⟩ = some v := World.rowIs.cell h (i := 0) (by omega)
theorem Var.f {w : World} {p : Nat} {t : TypeId} {v : Value} (h : Var w p t v) : w.frozen? ⟨p, 0, none⟩ = false := World.rowIs.frozen h 0
theorem Var.below {w w' : World} {p : Nat} {t : TypeId} {v : Value} (h : Var w p t v) (hb : Below w.heap.size w w') : Var w' p t v := World.rowIs.of_block h (hb.block p (World.rowIs.lt h))
theorem Var.set {w : World} {p : Nat} {t : TypeId} {v : Value} (h : Var w p t v) (u : Value) : Var (w.setCell ⟨p, 0, none⟩ u) p t u := (World.rowIs.set h 0 u).congr fun j hj => by
  have h0 : j = 0 := Nat.lt_one_iff.1 hj
  subst h0; rfl

/-- What returns a rope and an error. -/
def RPost (w : World) (L : List Int) (err : Int) (e : Ending) (w' : World) : Prop := ∃ a, e = .returned (.tuple #[.agg #[.pointer a], .int .i64 err]) ∧ Rp w' a L ∧ Below w.heap.size w w'

theorem rlen_any (w : World) (a : Option Addr) (L : List Int) (h : Rp w a L) : Calls Try.prog 47 #[.agg #[.pointer a]] w fun e w' => e = .returned (.int .i64 L.length) ∧ Below w.heap.size w w' := by
  obtain ⟨t, h1, _, rfl⟩ := h
  have B : Hid (Below w.heap.size w (w.alloc (.cells #[.pointer a] 29))) := (Below.refl _ w).alloc (Nat.le_refl _) _
  have C := Lib.hid (count_any _ a t (h1.below B.out))
  clear h1
  go_enter Try.func47, Try.ntmps47
  go_wp2_with fail
  refine (C.out).mono ?_
  rintro e w' ⟨rfl, rfl⟩
  go_wp2_with fail
  go_ret
  exact ⟨rfl, B.out⟩
theorem rtotal_any (w : World) (a : Option Addr) (L : List Int) (h : Rp w a L) : Calls Try.prog 21 #[.agg #[.pointer a]] w fun e w' => e = .returned (.int .i64 L.sum) ∧ Below w.heap.size w w' := by
  obtain ⟨t, h1, _, rfl⟩ := h
  have B : Hid (Below w.heap.size w (w.alloc (.cells #[.pointer a] 29))) := (Below.refl _ w).alloc (Nat.le_refl _) _
  have C := Lib.hid (total_any _ a t (h1.below B.out))
  clear h1
  go_enter Try.func21, Try.ntmps21
  go_wp2_with fail
  refine (C.out).mono ?_
  rintro e w' ⟨rfl, rfl⟩
  go_wp2_with fail
  go_ret
  exact ⟨rfl, B.out⟩

/-- The error of a list of sizes. -/
def chkL (L : List Int) : Int := chk (lf L) L.length
theorem chkL_ok {L : List Int} (h : chkL L = 0) : LOk L ∧ L.length ≤ 4096 := by
  unfold chkL chk at h
  by_cases c : 4096 < L.length
  · rw [if_pos c] at h; exact absurd h (by decide)
  · rw [if_neg c] at h
    exact ⟨(chk_lf h (by omega)).1, by omega⟩
theorem toL_lf (L : List Int) : toL (lf L) L.length = L := by
  apply List.ext_getElem
  · simp [toL]
  · intro i h1 h2
    simp only [toL, List.getElem_map, List.getElem_range]
    exact lf_get L h2
/-- A list's cells. -/
abbrev SeesL (w : World) (B : Nat) (A : Option Addr) (L : List Int) : Prop := Sees w B A L.length (i64s (lf L))

set_option maxRecDepth 100000 in
set_option maxHeartbeats 1600000 in
theorem of_any (w : World) (A : Option Addr) (c B : Nat) (L : List Int) (hs : SeesL w B A L) (hB : B ≤ w.heap.size) (hc : L.length ≤ c) (hm : c ≤ maxLen) (hn : L.length ≤ 1000000000000000) (hf : ∀ x ∈ L, Fits x) :
    Calls Try.prog 54 #[.slice A L.length c] w (RPost w (if chkL L = 0 then L else []) (chkL L)) := by
  have V0 : Hid (Var (w.alloc (.cells #[.pointer none] 29)) w.heap.size 29 (.pointer none)) := Var.mk w _ _
  have B0 : Hid (Below w.heap.size w (w.alloc (.cells #[.pointer none] 29))) := (Below.refl _ w).alloc (Nat.le_refl _) _
  have KC := Lib.hid (fcheck_any A L.length c (lf L) _ _ ((hs.more hB).below B0.out) (lf_fits hf) hn)
  have ec : chk (lf L) L.length = chkL L := rfl
  rw [ec] at KC
  by_cases h0 : chkL L = 0
  · obtain ⟨ok, hle⟩ := chkL_ok h0
    have KG := Lib.hid (grown_any L.length _ A c (lf L) _ ((hs.more hB).below B0.out) (by simp) hc hm (by omega) (by rw [toL_lf]; exact ok))
    rw [toL_lf] at KG
    rw [if_pos h0, h0]
    rw [h0] at KC
    have hle' := hle
    clear hs hf ok h0 ec
    go_enter Try.func54, Try.ntmps54
    go_wp2_with fail
    refine (KC.out).mono ?_
    rintro e w' ⟨rfl, rfl⟩
    go_wp2_with fail
    refine (KG.out).mono ?_
    rintro e w1 ⟨a, t, rfl, p1, p2, p3, p4, p5⟩
    have V1 := Lib.hid (V0.out.below p5)
    have cv := V1.out.c
    have fv := V1.out.f
    have H : Hid (RPost w L 0 (.returned (.tuple #[.agg #[.pointer a], .int .i64 0])) (w1.setCell ⟨w.heap.size, 0, none⟩ (.pointer a))) := ⟨a, rfl, Rp.set ⟨t, p1, p2, p3⟩ V1.out (by decide) rfl _, (B0.out.trans (p5.mono (by simp))).setCell (p := ⟨w.heap.size, 0, none⟩) (Nat.le_refl _) _⟩
    have cr := (V1.out.set (.pointer a)).c
    clear p1 p2 p3 p4 p5
    go_wp2_with fail
    exact bodyPost_ret (v := .tuple #[.agg #[.pointer a], .int .i64 0]) (by simp [results, Try.results54, go_sem, cr]) rfl H.out
  · rw [if_neg h0]
    have hne : (chkL L != 0) = true := by rw [bne_iff_ne]; exact h0
    have H : Hid (RPost w [] (chkL L) (.returned (.tuple #[.agg #[.pointer none], .int .i64 (chkL L)])) (w.alloc (.cells #[.pointer none] 29))) := ⟨none, rfl, Rp.nil _, B0.out⟩
    clear hs hf h0 ec
    go_enter Try.func54, Try.ntmps54
    go_wp2_with fail
    refine (KC.out).mono ?_
    rintro e w' ⟨rfl, rfl⟩
    go_wp2_with fail
    exact bodyPost_ret (v := .tuple #[.agg #[.pointer none], .int .i64 (chkL L)]) (by simp [results, Try.results54, go_sem]) rfl H.out

/-- What Split returns. -/
def SpPost (w : World) (A B : List Int) (err : Int) (e : Ending) (w' : World) : Prop := ∃ a b, e = .returned (.tuple #[.agg #[.pointer a], .agg #[.pointer b], .int .i64 err]) ∧ Rp w' a A ∧ Rp w' b B ∧ Below w.heap.size w w'

/-- The world in which Split has put its variables. -/
def vars2 (w : World) (a : Option Addr) : World := (w.alloc (.cells #[.pointer a] 29)).alloc (.cells #[.pointer none] 29)
def varsS (w : World) (a : Option Addr) : World := (vars2 w a).alloc (.cells #[.pointer none] 29)
theorem vars2_1 (w : World) (a : Option Addr) : Var (vars2 w a) w.heap.size 29 (.pointer a) := World.rowIs.alloc (Var.mk w _ _) _
theorem vars2_2 (w : World) (a : Option Addr) : Var (vars2 w a) (w.heap.size + 1) 29 (.pointer none) := by
  have := Var.mk (w.alloc (.cells #[.pointer a] 29)) 29 (.pointer none)
  rw [World.size_alloc] at this
  exact this
theorem vars2_b (w : World) (a : Option Addr) : Below w.heap.size w (vars2 w a) := ((Below.refl _ w).alloc (Nat.le_refl _) _).alloc (by rw [World.size_alloc]; omega) _
theorem vars2_s (w : World) (a : Option Addr) : (vars2 w a).heap.size = w.heap.size + 1 + 1 := by unfold vars2; rw [World.size_alloc, World.size_alloc]
theorem varsS_1 (w : World) (a : Option Addr) : Var (varsS w a) w.heap.size 29 (.pointer a) := World.rowIs.alloc (vars2_1 w a) _
theorem varsS_2 (w : World) (a : Option Addr) : Var (varsS w a) (w.heap.size + 1) 29 (.pointer none) := World.rowIs.alloc (vars2_2 w a) _
theorem varsS_3 (w : World) (a : Option Addr) : Var (varsS w a) (w.heap.size + 1 + 1) 29 (.pointer none) := by
  have := Var.mk (vars2 w a) 29 (.pointer none)
  rw [vars2_s] at this
  exact this
theorem varsS_b (w : World) (a : Option Addr) : Below w.heap.size w (varsS w a) := (vars2_b w a).alloc (by rw [vars2_s]; omega) _

theorem two_set {w : World} {q2 q3 : Nat} {t : TypeId} {u2 u3 : Value} (V2 : Var w q2 t u2) (V3 : Var w q3 t u3) (hne : q2 ≠ q3) (x y : Value) :
    Var (w.setCell ⟨q2, 0, none⟩ x) q3 t u3 ∧ Var ((w.setCell ⟨q2, 0, none⟩ x).setCell ⟨q3, 0, none⟩ y) q2 t x ∧ Var ((w.setCell ⟨q2, 0, none⟩ x).setCell ⟨q3, 0, none⟩ y) q3 t y := by
  have h1 : Var (w.setCell ⟨q2, 0, none⟩ x) q3 t u3 := World.rowIs.setOther V3 (Ne.symm hne) x
  exact ⟨h1, World.rowIs.setOther (V2.set x) hne y, h1.set y⟩

set_option maxRecDepth 100000 in
set_option maxHeartbeats 1600000 in
theorem rsplit_ok (w : World) (a : Option Addr) (L : List Int) (h : Rp w a L) (ok : LOk L) (k : Nat) (hk : k ≤ L.length) :
    Calls Try.prog 53 #[.agg #[.pointer a], .int .i64 k] w (SpPost w (L.take k) (L.drop k) 0) := by
  have V1 := Lib.hid (varsS_1 w a)
  have V2 := Lib.hid (varsS_2 w a)
  have V3 := Lib.hid (varsS_3 w a)
  have VB := Lib.hid (varsS_b w a)
  have hl := ok.len
  have HR := Lib.hid (h.below VB.out)
  have hki : ¬ (L.length : Int) < (k : Int) := by omega
  have OK := Lib.hid ok
  clear h ok
  go_enter Try.func53, Try.ntmps53
  go_wp2_with fail
  obtain ⟨w0, e0⟩ : ∃ w0, w0 = varsS w a := ⟨_, rfl⟩
  change Calls Try.prog _ _ (varsS w a) _
  rw [← e0] at V1 V2 V3 VB HR ⊢
  clear e0
  refine (rlen_any _ a L HR.out).mono ?_
  rintro e w1 ⟨rfl, hb⟩
  have W1 := Lib.hid (V1.out.below hb)
  have W2 := Lib.hid (V2.out.below hb)
  have W3 := Lib.hid (V3.out.below hb)
  have WB := Lib.hid (VB.out.trans (hb.mono VB.out.size))
  have WR := Lib.hid (HR.out.below hb)
  have c1 := W1.out.c
  clear hb V1 V2 V3 VB HR
  go_wp2_with fail
  refine (split_any w1 a L k k WR.out OK.out hk rfl).mono ?_
  rintro e w2 ⟨a1, a2, rfl, p1, p2, p3⟩
  have X2 := Lib.hid (W2.out.below p3)
  have X3 := Lib.hid (W3.out.below p3)
  have d2 := X2.out.c
  have f2 := X2.out.f
  have d3 := X3.out.c
  have f3 := X3.out.f
  obtain ⟨Y3, Z2, Z3⟩ := two_set X2.out X3.out (by omega) (.pointer a1) (.pointer a2)
  have r2 := Z2.c
  have r3 := Z3.c
  have H : Hid (SpPost w (L.take k) (L.drop k) 0 (.returned (.tuple #[.agg #[.pointer a1], .agg #[.pointer a2], .int .i64 0])) ((w2.setCell ⟨w.heap.size + 1, 0, none⟩ (.pointer a1)).setCell ⟨w.heap.size + 1 + 1, 0, none⟩ (.pointer a2))) :=
    ⟨a1, a2, rfl, (p1.set X2.out (by decide) rfl _).set Y3 (by decide) rfl _, (p2.set X2.out (by decide) rfl _).set Y3 (by decide) rfl _, below_set (below_set (WB.out.trans (p3.mono WB.out.size)) (by omega) _) (by omega) _⟩
  clear p1 p2 p3 c1 Y3 Z2 Z3
  go_wp2_with fail
  exact bodyPost_ret (v := .tuple #[.agg #[.pointer a1], .agg #[.pointer a2], .int .i64 0]) (by simp [results, Try.results53, go_sem, r2, r3]) rfl H.out
set_option maxRecDepth 100000 in
set_option maxHeartbeats 1600000 in
theorem rsplit_bad (w : World) (a : Option Addr) (L : List Int) (h : Rp w a L) (ok : LOk L) (x : Int) (hx : x < 0 ∨ (L.length : Int) < x) :
    Calls Try.prog 53 #[.agg #[.pointer a], .int .i64 x] w (SpPost w [] [] 4) := by
  have V1 := Lib.hid (varsS_1 w a)
  have V2 := Lib.hid (varsS_2 w a)
  have V3 := Lib.hid (varsS_3 w a)
  have VB := Lib.hid (varsS_b w a)
  have hl := ok.len
  have HR := Lib.hid (h.below VB.out)
  clear h ok
  by_cases hneg : x < 0
  · have r2 := V2.out.c
    have r3 := V3.out.c
    have H : Hid (SpPost w [] [] 4 (.returned (.tuple #[.agg #[.pointer none], .agg #[.pointer none], .int .i64 4])) (varsS w a)) := ⟨none, none, rfl, Rp.nil _, Rp.nil _, VB.out⟩
    clear hx
    go_enter Try.func53, Try.ntmps53
    go_wp2_with fail
    exact bodyPost_ret (v := .tuple #[.agg #[.pointer none], .agg #[.pointer none], .int .i64 4]) (by unfold varsS vars2 at r2 r3; simp [results, Try.results53, go_sem]) rfl H.out
  · have hki : (L.length : Int) < x := by omega
    clear hx
    go_enter Try.func53, Try.ntmps53
    go_wp2_with fail
    obtain ⟨w0, e0⟩ : ∃ w0, w0 = varsS w a := ⟨_, rfl⟩
    change Calls Try.prog _ _ (varsS w a) _
    rw [← e0] at V1 V2 V3 VB HR ⊢
    clear e0
    refine (rlen_any _ a L HR.out).mono ?_
    rintro e w1 ⟨rfl, hb⟩
    have X2 := Lib.hid (V2.out.below hb)
    have X3 := Lib.hid (V3.out.below hb)
    have d2 := X2.out.c
    have f2 := X2.out.f
    have d3 := X3.out.c
    have f3 := X3.out.f
    obtain ⟨Y3, Z2, Z3⟩ := two_set X2.out X3.out (by omega) (.pointer none) (.pointer none)
    have r2 := Z2.c
    have r3 := Z3.c
    have H : Hid (SpPost w [] [] 4 (.returned (.tuple #[.agg #[.pointer none], .agg #[.pointer none], .int .i64 4])) ((w1.setCell ⟨w.heap.size + 1, 0, none⟩ (.pointer none)).setCell ⟨w.heap.size + 1 + 1, 0, none⟩ (.pointer none))) :=
      ⟨none, none, rfl, Rp.nil _, Rp.nil _, below_set (below_set (VB.out.trans (hb.mono VB.out.size)) (by omega) _) (by omega) _⟩
    clear hb Y3 Z2 Z3
    go_wp2_with fail
    exact bodyPost_ret (v := .tuple #[.agg #[.pointer none], .agg #[.pointer none], .int .i64 4]) (by simp [results, Try.results53, go_sem, r2, r3]) rfl H.out
/-- The error of two lists that are put together. -/
def joinErr (A B : List Int) : Int := if 4096 < A.length + B.length then 3 else if 4611686018427387904 - B.sum < A.sum then 13 else 0
def varsJ (w : World) (a b : Option Addr) : World := ((w.alloc (.cells #[.pointer a] 29)).alloc (.cells #[.pointer b] 29)).alloc (.cells #[.pointer none] 29)
theorem varsJ_all (w : World) (a b : Option Addr) : Var (varsJ w a b) w.heap.size 29 (.pointer a) ∧ Var (varsJ w a b) (w.heap.size + 1) 29 (.pointer b) ∧ Var (varsJ w a b) (w.heap.size + 1 + 1) 29 (.pointer none) ∧ Below w.heap.size w (varsJ w a b) := by
  have h2 := Var.mk (w.alloc (.cells #[.pointer a] 29)) 29 (.pointer b)
  rw [World.size_alloc] at h2
  have h3 := Var.mk ((w.alloc (.cells #[.pointer a] 29)).alloc (.cells #[.pointer b] 29)) 29 (.pointer none)
  rw [World.size_alloc, World.size_alloc] at h3
  exact ⟨World.rowIs.alloc (World.rowIs.alloc (Var.mk w _ _) _) _, World.rowIs.alloc h2 _, h3, (((Below.refl _ w).alloc (Nat.le_refl _) _).alloc (by rw [World.size_alloc]; omega) _).alloc (by rw [World.size_alloc, World.size_alloc]; omega) _⟩

set_option maxRecDepth 100000 in
set_option maxHeartbeats 3200000 in
theorem rjoin_any (w : World) (a b : Option Addr) (A B : List Int) (ha : Rp w a A) (hb : Rp w b B) (oa : LOk A) (ob : LOk B) :
    Calls Try.prog 55 #[.agg #[.pointer a], .agg #[.pointer b]] w (RPost w (if joinErr A B = 0 then A ++ B else []) (joinErr A B)) := by
  obtain ⟨V1, V2, V3, VB⟩ := varsJ_all w a b
  have HA := Lib.hid (ha.below VB)
  have HB := Lib.hid (hb.below VB)
  have sa := oa.sum0
  have sb := ob.sum0
  have ta := oa.top
  have tb := ob.top
  have la := oa.len
  have lb := ob.len
  clear ha hb
  have hcase : (joinErr A B = 3 ∧ 4096 < (A.length : Int) + (B.length : Int)) ∨ (joinErr A B = 13 ∧ ¬ 4096 < (A.length : Int) + (B.length : Int) ∧ 4611686018427387904 - B.sum < A.sum) ∨ (joinErr A B = 0 ∧ ¬ 4096 < (A.length : Int) + (B.length : Int) ∧ ¬ 4611686018427387904 - B.sum < A.sum) := by
    unfold joinErr
    by_cases c1 : 4096 < A.length + B.length
    · exact .inl ⟨if_pos c1, by omega⟩
    · by_cases c2 : 4611686018427387904 - B.sum < A.sum
      · exact .inr (.inl ⟨by rw [if_neg c1, if_pos c2], by omega, c2⟩)
      · exact .inr (.inr ⟨by rw [if_neg c1, if_neg c2], by omega, c2⟩)
  have OK : Hid (¬ 4096 < (A.length : Int) + (B.length : Int) → ¬ 4611686018427387904 - B.sum < A.sum → LOk (A ++ B)) := fun h1 h2 => ⟨fun x hx => by rcases List.mem_append.1 hx with h | h; exact oa.nn x h; exact ob.nn x h, by rw [List.length_append]; omega, by rw [List.sum_append]; omega⟩
  obtain ⟨w0, e0⟩ : ∃ w0, w0 = varsJ w a b := ⟨_, rfl⟩
  have V1 := Lib.hid V1
  have V2 := Lib.hid V2
  have V3 := Lib.hid V3
  have VB := Lib.hid VB
  rw [← e0] at V1 V2 V3 VB HA HB
  have S0 : Hid (Below w0.heap.size w0 w0.drew) := (Below.refl _ _).drew
  have LA := Lib.hid (rlen_any w0.drew a A (HA.out.drawn ⟨1, rfl⟩))
  have LB := Lib.hid (fun W (h : Below w0.heap.size w0 W) => rlen_any W b B (HB.out.below h))
  have TA := Lib.hid (fun W (h : Below w0.heap.size w0 W) => rtotal_any W a A (HA.out.below h))
  have TB := Lib.hid (fun W (h : Below w0.heap.size w0 W) => rtotal_any W b B (HB.out.below h))
  have c1 := V1.out.c
  have c2 := V2.out.c
  have lt1 := World.rowIs.lt V1.out
  have lt2 := World.rowIs.lt V2.out
  have E0 := Lib.hid e0
  clear oa ob e0
  obtain ⟨nA, eA⟩ : ∃ n, n = A.length := ⟨_, rfl⟩
  obtain ⟨nB, eB⟩ : ∃ n, n = B.length := ⟨_, rfl⟩
  obtain ⟨tA, fA⟩ : ∃ n, n = A.sum := ⟨_, rfl⟩
  obtain ⟨tB, fB⟩ : ∃ n, n = B.sum := ⟨_, rfl⟩
  rw [← eA] at LA la hcase OK
  rw [← eB] at LB lb hcase OK
  rw [← fA] at TA sa ta hcase OK
  rw [← fB] at TB sb tb hcase OK
  clear eA eB fA fB
  have HW1 : Hid (IntKind.i64.wrap ((nA : Int) + (nB : Int)) = (nA : Int) + (nB : Int)) := IntWalk.i64_in _ (by omega)
  have HW2 : Hid (IntKind.i64.wrap (4611686018427387904 - tB) = 4611686018427387904 - tB) := IntWalk.i64_in _ (by omega)
  rcases hcase with ⟨hE, hc⟩ | ⟨hE, hc, hd⟩ | ⟨hE, hc, hd⟩
  · rw [hE, if_neg (by decide)]
    clear hE OK TA TB
    go_enter Try.func55, Try.ntmps55
    go_wp2_with fail
    change Code.wp _ _ _ _ (varsJ w a b)
    rw [← E0.out]
    refine wp_region_plan [(false, 0), (false, 2), (true, 1), (true, 3), (false, 4), (false, 5), (false, 6)] (Below w0.heap.size w0) (by kernel_rfl) (by kernel_rfl) (S0.out) _ (by simp only [pickH, List.getElem?_toArray, List.getElem?_cons_succ, List.getElem?_cons_zero]; rfl) ?_
    repeat (refine HWalk.step (fun K hK => ?_); first | (apply held_yes; (focus rfl); (focus (intro w' hw; obtain ⟨hc', hf'⟩ := below_cells hw; go_simp; rfl)); (go_simp; refine hK _ ?_; clear hK K)) | (refine ite_no (by decide) ?_; go_simp; refine hK _ ?_; clear hK K))
    refine HWalk.mark ?_
    go_wp2_with fail
    refine (LA.out).mono ?_
    rintro e w1 ⟨rfl, h1⟩
    have B1 := Lib.hid (S0.out.trans h1)
    clear h1
    go_wp2_with fail
    refine ⟨B1.out, ?_⟩
    repeat (refine HWalk.step (fun K hK => ?_); first | (apply held_yes; (focus rfl); (focus (intro w' hw; obtain ⟨hc', hf'⟩ := below_cells hw; go_simp; rfl)); (go_simp; refine hK _ ?_; clear hK K)) | (refine ite_no (by decide) ?_; go_simp; refine hK _ ?_; clear hK K))
    refine HWalk.mark ?_
    go_wp2_with fail
    refine (LB.out _ B1.out).mono ?_
    rintro e w2 ⟨rfl, h2⟩
    have B2 := Lib.hid (B1.out.trans (h2.mono B1.out.size))
    have d1 := (V1.out.below B2.out).c
    have d2 := (V2.out.below B2.out).c
    have W3 := Lib.hid (V3.out.below B2.out)
    have e3 := W3.out.c
    have f3 := W3.out.f
    have l1 : w.heap.size < w2.heap.size := Nat.lt_of_lt_of_le lt1 B2.out.size
    have l2 : w.heap.size + 1 < w2.heap.size := Nat.lt_of_lt_of_le lt2 B2.out.size
    clear h2
    go_wp2_with fail
    have hw1 := HW1.out
    refine ⟨B2.out, ?_⟩
    repeat (refine HWalk.step (fun K hK => ?_); first | (apply held_yes; (focus rfl); (focus (intro w' hw; obtain ⟨hc', hf'⟩ := below_cells hw; go_simp; rfl)); (go_simp; refine hK _ ?_; clear hK K)) | (refine ite_no (by decide) ?_; go_simp; refine hK _ ?_; clear hK K))
    clear hw1
    refine HWalk.done ?_
    go_wp2_with fail
    have r3 := (W3.out.set (.pointer none)).c
    have H : Hid (RPost w [] 3 (.returned (.tuple #[.agg #[.pointer none], .int .i64 3])) (w2.setCell ⟨w.heap.size + 1 + 1, 0, none⟩ (.pointer none))) := ⟨none, rfl, Rp.nil _, below_set (VB.out.trans (B2.out.mono VB.out.size)) (by omega) _⟩
    go_wp2_with fail
    exact bodyPost_ret (v := .tuple #[.agg #[.pointer none], .int .i64 3]) (by simp [results, Try.results55, go_sem, r3]) rfl H.out
  · rw [hE, if_neg (by decide)]
    clear hE OK
    go_enter Try.func55, Try.ntmps55
    go_wp2_with fail
    change Code.wp _ _ _ _ (varsJ w a b)
    rw [← E0.out]
    refine wp_region_plan [(false, 0), (false, 2), (true, 1), (true, 3), (false, 4), (false, 5), (false, 6)] (Below w0.heap.size w0) (by kernel_rfl) (by kernel_rfl) (S0.out) _ (by simp only [pickH, List.getElem?_toArray, List.getElem?_cons_succ, List.getElem?_cons_zero]; rfl) ?_
    repeat (refine HWalk.step (fun K hK => ?_); first | (apply held_yes; (focus rfl); (focus (intro w' hw; obtain ⟨hc', hf'⟩ := below_cells hw; go_simp; rfl)); (go_simp; refine hK _ ?_; clear hK K)) | (refine ite_no (by decide) ?_; go_simp; refine hK _ ?_; clear hK K))
    refine HWalk.mark ?_
    go_wp2_with fail
    refine (LA.out).mono ?_
    rintro e w1 ⟨rfl, h1⟩
    have B1 := Lib.hid (S0.out.trans h1)
    clear h1
    go_wp2_with fail
    refine ⟨B1.out, ?_⟩
    repeat (refine HWalk.step (fun K hK => ?_); first | (apply held_yes; (focus rfl); (focus (intro w' hw; obtain ⟨hc', hf'⟩ := below_cells hw; go_simp; rfl)); (go_simp; refine hK _ ?_; clear hK K)) | (refine ite_no (by decide) ?_; go_simp; refine hK _ ?_; clear hK K))
    refine HWalk.mark ?_
    go_wp2_with fail
    refine (LB.out _ B1.out).mono ?_
    rintro e w2 ⟨rfl, h2⟩
    have B2 := Lib.hid (B1.out.trans (h2.mono B1.out.size))
    have d1 := (V1.out.below B2.out).c
    have d2 := (V2.out.below B2.out).c
    have W3 := Lib.hid (V3.out.below B2.out)
    have e3 := W3.out.c
    have f3 := W3.out.f
    have l1 : w.heap.size < w2.heap.size := Nat.lt_of_lt_of_le lt1 B2.out.size
    have l2 : w.heap.size + 1 < w2.heap.size := Nat.lt_of_lt_of_le lt2 B2.out.size
    clear h2
    go_wp2_with fail
    have hw1 := HW1.out
    refine ⟨B2.out, ?_⟩
    repeat (refine HWalk.step (fun K hK => ?_); first | (apply held_yes; (focus rfl); (focus (intro w' hw; obtain ⟨hc', hf'⟩ := below_cells hw; go_simp; rfl)); (go_simp; refine hK _ ?_; clear hK K)) | (refine ite_no (by decide) ?_; go_simp; refine hK _ ?_; clear hK K))
    clear hw1
    refine HWalk.done ?_
    go_wp2_with fail
    have B3 : Hid (Below w0.heap.size w0 w2.drew) := B2.out.drew
    refine wp_region_plan [(false, 0), (false, 2), (true, 1), (true, 3), (false, 4), (false, 5), (false, 6)] (Below w2.heap.size w2) (by kernel_rfl) (by kernel_rfl) ((Below.refl _ _).drew) _ (by simp only [pickH, List.getElem?_toArray, List.getElem?_cons_succ, List.getElem?_cons_zero]; rfl) ?_
    repeat (refine HWalk.step (fun K hK => ?_); first | (apply held_yes; (focus rfl); (focus (intro w' hw; obtain ⟨hc', hf'⟩ := below_cells hw; go_simp; rfl)); (go_simp; refine hK _ ?_; clear hK K)) | (refine ite_no (by decide) ?_; go_simp; refine hK _ ?_; clear hK K))
    refine HWalk.mark ?_
    go_wp2_with fail
    refine (TA.out _ B3.out).mono ?_
    rintro e w3 ⟨rfl, h1⟩
    have C3 : Hid (Below w2.heap.size w2 w3) := ((Below.refl _ w2).drew).trans h1
    have B4 : Hid (Below w0.heap.size w0 w3) := B2.out.trans (C3.out.mono B2.out.size)
    clear h1
    go_wp2_with fail
    refine ⟨C3.out, ?_⟩
    repeat (refine HWalk.step (fun K hK => ?_); first | (apply held_yes; (focus rfl); (focus (intro w' hw; obtain ⟨hc', hf'⟩ := below_cells hw; go_simp; rfl)); (go_simp; refine hK _ ?_; clear hK K)) | (refine ite_no (by decide) ?_; go_simp; refine hK _ ?_; clear hK K))
    refine HWalk.mark ?_
    go_wp2_with fail
    refine (TB.out _ B4.out).mono ?_
    rintro e w4 ⟨rfl, h2⟩
    have C4 : Hid (Below w2.heap.size w2 w4) := C3.out.trans (h2.mono C3.out.size)
    have B5 : Hid (Below w0.heap.size w0 w4) := B4.out.trans (h2.mono B4.out.size)
    have g1 := (V1.out.below B5.out).c
    have g2 := (V2.out.below B5.out).c
    have X3 := Lib.hid (V3.out.below B5.out)
    have e4 := X3.out.c
    have f4 := X3.out.f
    clear h2
    go_wp2_with fail
    have hw1 := HW2.out
    refine ⟨C4.out, ?_⟩
    repeat (refine HWalk.step (fun K hK => ?_); first | (apply held_yes; (focus rfl); (focus (intro w' hw; obtain ⟨hc', hf'⟩ := below_cells hw; go_simp; rfl)); (go_simp; refine hK _ ?_; clear hK K)) | (refine ite_no (by decide) ?_; go_simp; refine hK _ ?_; clear hK K))
    clear hw1
    refine HWalk.done ?_
    go_wp2_with fail
    have r3 := (X3.out.set (.pointer none)).c
    have H : Hid (RPost w [] 13 (.returned (.tuple #[.agg #[.pointer none], .int .i64 13])) (w4.setCell ⟨w.heap.size + 1 + 1, 0, none⟩ (.pointer none))) := ⟨none, rfl, Rp.nil _, below_set (VB.out.trans (B5.out.mono VB.out.size)) (by omega) _⟩
    go_wp2_with fail
    exact bodyPost_ret (v := .tuple #[.agg #[.pointer none], .int .i64 13]) (by simp [results, Try.results55, go_sem, r3]) rfl H.out
  · rw [hE, if_pos rfl]
    have OK2 := Lib.hid (OK.out hc hd)
    clear hE OK
    go_enter Try.func55, Try.ntmps55
    go_wp2_with fail
    change Code.wp _ _ _ _ (varsJ w a b)
    rw [← E0.out]
    refine wp_region_plan [(false, 0), (false, 2), (true, 1), (true, 3), (false, 4), (false, 5), (false, 6)] (Below w0.heap.size w0) (by kernel_rfl) (by kernel_rfl) (S0.out) _ (by simp only [pickH, List.getElem?_toArray, List.getElem?_cons_succ, List.getElem?_cons_zero]; rfl) ?_
    repeat (refine HWalk.step (fun K hK => ?_); first | (apply held_yes; (focus rfl); (focus (intro w' hw; obtain ⟨hc', hf'⟩ := below_cells hw; go_simp; rfl)); (go_simp; refine hK _ ?_; clear hK K)) | (refine ite_no (by decide) ?_; go_simp; refine hK _ ?_; clear hK K))
    refine HWalk.mark ?_
    go_wp2_with fail
    refine (LA.out).mono ?_
    rintro e w1 ⟨rfl, h1⟩
    have B1 := Lib.hid (S0.out.trans h1)
    clear h1
    go_wp2_with fail
    refine ⟨B1.out, ?_⟩
    repeat (refine HWalk.step (fun K hK => ?_); first | (apply held_yes; (focus rfl); (focus (intro w' hw; obtain ⟨hc', hf'⟩ := below_cells hw; go_simp; rfl)); (go_simp; refine hK _ ?_; clear hK K)) | (refine ite_no (by decide) ?_; go_simp; refine hK _ ?_; clear hK K))
    refine HWalk.mark ?_
    go_wp2_with fail
    refine (LB.out _ B1.out).mono ?_
    rintro e w2 ⟨rfl, h2⟩
    have B2 := Lib.hid (B1.out.trans (h2.mono B1.out.size))
    have d1 := (V1.out.below B2.out).c
    have d2 := (V2.out.below B2.out).c
    have W3 := Lib.hid (V3.out.below B2.out)
    have e3 := W3.out.c
    have f3 := W3.out.f
    have l1 : w.heap.size < w2.heap.size := Nat.lt_of_lt_of_le lt1 B2.out.size
    have l2 : w.heap.size + 1 < w2.heap.size := Nat.lt_of_lt_of_le lt2 B2.out.size
    clear h2
    go_wp2_with fail
    have hw1 := HW1.out
    refine ⟨B2.out, ?_⟩
    repeat (refine HWalk.step (fun K hK => ?_); first | (apply held_yes; (focus rfl); (focus (intro w' hw; obtain ⟨hc', hf'⟩ := below_cells hw; go_simp; rfl)); (go_simp; refine hK _ ?_; clear hK K)) | (refine ite_no (by decide) ?_; go_simp; refine hK _ ?_; clear hK K))
    clear hw1
    refine HWalk.done ?_
    go_wp2_with fail
    have B3 : Hid (Below w0.heap.size w0 w2.drew) := B2.out.drew
    refine wp_region_plan [(false, 0), (false, 2), (true, 1), (true, 3), (false, 4), (false, 5), (false, 6)] (Below w2.heap.size w2) (by kernel_rfl) (by kernel_rfl) ((Below.refl _ _).drew) _ (by simp only [pickH, List.getElem?_toArray, List.getElem?_cons_succ, List.getElem?_cons_zero]; rfl) ?_
    repeat (refine HWalk.step (fun K hK => ?_); first | (apply held_yes; (focus rfl); (focus (intro w' hw; obtain ⟨hc', hf'⟩ := below_cells hw; go_simp; rfl)); (go_simp; refine hK _ ?_; clear hK K)) | (refine ite_no (by decide) ?_; go_simp; refine hK _ ?_; clear hK K))
    refine HWalk.mark ?_
    go_wp2_with fail
    refine (TA.out _ B3.out).mono ?_
    rintro e w3 ⟨rfl, h1⟩
    have C3 : Hid (Below w2.heap.size w2 w3) := ((Below.refl _ w2).drew).trans h1
    have B4 : Hid (Below w0.heap.size w0 w3) := B2.out.trans (C3.out.mono B2.out.size)
    clear h1
    go_wp2_with fail
    refine ⟨C3.out, ?_⟩
    repeat (refine HWalk.step (fun K hK => ?_); first | (apply held_yes; (focus rfl); (focus (intro w' hw; obtain ⟨hc', hf'⟩ := below_cells hw; go_simp; rfl)); (go_simp; refine hK _ ?_; clear hK K)) | (refine ite_no (by decide) ?_; go_simp; refine hK _ ?_; clear hK K))
    refine HWalk.mark ?_
    go_wp2_with fail
    refine (TB.out _ B4.out).mono ?_
    rintro e w4 ⟨rfl, h2⟩
    have C4 : Hid (Below w2.heap.size w2 w4) := C3.out.trans (h2.mono C3.out.size)
    have B5 : Hid (Below w0.heap.size w0 w4) := B4.out.trans (h2.mono B4.out.size)
    have g1 := (V1.out.below B5.out).c
    have g2 := (V2.out.below B5.out).c
    have X3 := Lib.hid (V3.out.below B5.out)
    have e4 := X3.out.c
    have f4 := X3.out.f
    clear h2
    go_wp2_with fail
    have hw1 := HW2.out
    refine ⟨C4.out, ?_⟩
    repeat (refine HWalk.step (fun K hK => ?_); first | (apply held_yes; (focus rfl); (focus (intro w' hw; obtain ⟨hc', hf'⟩ := below_cells hw; go_simp; rfl)); (go_simp; refine hK _ ?_; clear hK K)) | (refine ite_no (by decide) ?_; go_simp; refine hK _ ?_; clear hK K))
    clear hw1
    refine HWalk.done ?_
    go_wp2_with fail
    refine (put_any w4 a b A B (HA.out.below B5.out) (HB.out.below B5.out) OK2.out).mono ?_
    rintro e w5 ⟨a5, rfl, p1, p2⟩
    have Y3 := Lib.hid (X3.out.below p2)
    have e5 := Y3.out.c
    have f5 := Y3.out.f
    have r3 := (Y3.out.set (.pointer a5)).c
    have H : Hid (RPost w (A ++ B) 0 (.returned (.tuple #[.agg #[.pointer a5], .int .i64 0])) (w5.setCell ⟨w.heap.size + 1 + 1, 0, none⟩ (.pointer a5))) := ⟨a5, rfl, p1.set Y3.out (by decide) rfl _, below_set (VB.out.trans ((B5.out.trans (p2.mono B5.out.size)).mono VB.out.size)) (by omega) _⟩
    clear p1 p2
    go_wp2_with fail
    exact bodyPost_ret (v := .tuple #[.agg #[.pointer a5], .int .i64 0]) (by simp [results, Try.results55, go_sem, r3]) rfl H.out
end Go.Proofs.Ytngbaiijdgmpoaa

/-
  Contracts and plain laws that the walks of the top need, merged by a program out of one text a subject.
-/
import Derived.Test.YtfmfmeiaekknbaaGreatPa
import Derived.LoopTactic
import Derived.RangeFuncBox
import Derived.RangeFuncWrites
import Derived.RangeFuncLeaves
import Derived.RangeFuncNested
import Derived.Shelf.Abstract
import Derived.WalkKit
import Derived.OwnWalkIn
import Derived.TacticsInMore
import Derived.LoopNIn
import Derived.LoopIn
import Derived.BigQuiet
section
/-
  Contracts of package ropes, seventh: Of, Len, Total, Depth, Split, Join.
-/
namespace Go.Proofs.YtfmfmeiaekknbaaGreat
open Go.RowKit
set_option linter.unusedVariables false
set_option linter.unusedSimpArgs false

theorem Rp.set {w : World} {a : Option Addr} {L : List Int} (h : Rp w a L) {g : Nat} {ty : TypeId} {n : Nat} {f : Nat → Value} (hg : w.rowIs g ty n f) (hty : ty ≠ 108) {p : Addr} (hp : p.block = g) (v : Value) : Rp (w.setCell p v) a L := by
  obtain ⟨t, h1, h2, h3⟩ := h
  exact ⟨t, h1.set hg hty hp v, h2, h3⟩
theorem below_set {B : Nat} {a w : World} (h : Below B a w) {b o : Nat} (hb : B ≤ b) (v : Value) : Below B a (w.setCell ⟨b, o, none⟩ v) := h.setCell (p := ⟨b, o, none⟩) hb v
/-- A variable of one cell. -/
abbrev Var (w : World) (p : Nat) (t : TypeId) (v : Value) : Prop := w.rowIs p t 1 (fun _ => v)
theorem Var.mk (w : World) (t : TypeId) (v : Value) : Var (w.alloc (.cells #[v] t)) w.heap.size t v := World.rowIs_alloc w #[v] t _ (fun j hj => by
  have h0 : j = 0 := Nat.lt_one_iff.1 hj
  subst h0; rfl)
theorem Var.c {w : World} {p : Nat} {t : TypeId} {v : Value} (h : Var w p t v) : w.cell? ⟨p, 0, none⟩ = some v := World.rowIs.cell h (i := 0) (by omega)
theorem Var.f {w : World} {p : Nat} {t : TypeId} {v : Value} (h : Var w p t v) : w.frozen? ⟨p, 0, none⟩ = false := World.rowIs.frozen h 0
theorem Var.below {w w' : World} {p : Nat} {t : TypeId} {v : Value} (h : Var w p t v) (hb : Below w.heap.size w w') : Var w' p t v := World.rowIs.of_block h (hb.block p (World.rowIs.lt h))
theorem Var.set {w : World} {p : Nat} {t : TypeId} {v : Value} (h : Var w p t v) (u : Value) : Var (w.setCell ⟨p, 0, none⟩ u) p t u := (World.rowIs.set h 0 u).congr fun j hj => by
  have h0 : j = 0 := Nat.lt_one_iff.1 hj
  subst h0; rfl

/-- What returns a rope and an error. -/
def RPost (w : World) (L : List Int) (err : Int) (e : Ending) (w' : World) : Prop := ∃ a, e = .returned (.tuple #[.agg #[.pointer a], .int .i64 err]) ∧ Rp w' a L ∧ Below w.heap.size w w'

theorem rlen_any (w : World) (a : Option Addr) (L : List Int) (h : Rp w a L) : Calls Tryz.prog 47 #[.agg #[.pointer a]] w fun e w' => e = .returned (.int .i64 L.length) ∧ Below w.heap.size w w' := by
  obtain ⟨t, h1, _, rfl⟩ := h
  have B : Hid (Below w.heap.size w (w.alloc (.cells #[.pointer a] 27))) := (Below.refl _ w).alloc (Nat.le_refl _) _
  have C := Lib.hid (count_any _ a t (h1.below B.out))
  clear h1
  go_enter Tryz.func47, Tryz.ntmps47
  go_wp2_with fail
  refine (C.out).mono ?_
  rintro e w' ⟨rfl, rfl⟩
  go_wp2_with fail
  go_ret
  exact ⟨rfl, B.out⟩
theorem rtotal_any (w : World) (a : Option Addr) (L : List Int) (h : Rp w a L) : Calls Tryz.prog 31 #[.agg #[.pointer a]] w fun e w' => e = .returned (.int .i64 L.sum) ∧ Below w.heap.size w w' := by
  obtain ⟨t, h1, _, rfl⟩ := h
  have B : Hid (Below w.heap.size w (w.alloc (.cells #[.pointer a] 27))) := (Below.refl _ w).alloc (Nat.le_refl _) _
  have C := Lib.hid (total_any _ a t (h1.below B.out))
  clear h1
  go_enter Tryz.func31, Tryz.ntmps31
  go_wp2_with fail
  refine (C.out).mono ?_
  rintro e w' ⟨rfl, rfl⟩
  go_wp2_with fail
  go_ret
  exact ⟨rfl, B.out⟩

/-- The error of a list of sizes. -/
def chkL (L : List Int) : Int := chk (lf L) L.length
theorem chkL_ok {L : List Int} (h : chkL L = 0) : LOk L ∧ L.length ≤ 4096 := by
  unfold chkL chk at h
  by_cases c : 4096 < L.length
  · rw [if_pos c] at h; exact absurd h (by decide)
  · rw [if_neg c] at h
    exact ⟨(chk_lf h (by omega)).1, by omega⟩
theorem toL_lf (L : List Int) : toL (lf L) L.length = L := by
  apply List.ext_getElem
  · simp [toL]
  · intro i h1 h2
    simp only [toL, List.getElem_map, List.getElem_range]
    exact lf_get L h2
/-- A list's cells. -/
abbrev SeesL (w : World) (B : Nat) (A : Option Addr) (L : List Int) : Prop := Sees w B A L.length (i64s (lf L))

set_option maxRecDepth 100000 in
set_option maxHeartbeats 1600000 in
theorem of_any (w : World) (A : Option Addr) (c B : Nat) (L : List Int) (hs : SeesL w B A L) (hB : B ≤ w.heap.size) (hc : L.length ≤ c) (hm : c ≤ maxLen) (hn : L.length ≤ 1000000000000000) (hf : ∀ x ∈ L, Fits x) :
    Calls Tryz.prog 10 #[.slice A L.length c] w (RPost w (if chkL L = 0 then L else []) (chkL L)) := by
  have V0 : Hid (Var (w.alloc (.cells #[.pointer none] 27)) w.heap.size 27 (.pointer none)) := Var.mk w _ _
  have B0 : Hid (Below w.heap.size w (w.alloc (.cells #[.pointer none] 27))) := (Below.refl _ w).alloc (Nat.le_refl _) _
  have KC := Lib.hid (fcheck_any A L.length c (lf L) _ _ ((hs.more hB).below B0.out) (lf_fits hf) hn)
  have ec : chk (lf L) L.length = chkL L := rfl
  rw [ec] at KC
  by_cases h0 : chkL L = 0
  · obtain ⟨ok, hle⟩ := chkL_ok h0
    have KG := Lib.hid (grown_any L.length _ A c (lf L) _ ((hs.more hB).below B0.out) (by simp) hc hm (by omega) (by rw [toL_lf]; exact ok))
    rw [toL_lf] at KG
    rw [if_pos h0, h0]
    rw [h0] at KC
    have hle' := hle
    clear hs hf ok h0 ec
    go_enter Tryz.func10, Tryz.ntmps10
    go_wp2_with fail
    refine (KC.out).mono ?_
    rintro e w' ⟨rfl, rfl⟩
    go_wp2_with fail
    refine (KG.out).mono ?_
    rintro e w1 ⟨a, t, rfl, p1, p2, p3, p4, p5⟩
    have V1 := Lib.hid (V0.out.below p5)
    have cv := V1.out.c
    have fv := V1.out.f
    have H : Hid (RPost w L 0 (.returned (.tuple #[.agg #[.pointer a], .int .i64 0])) (w1.setCell ⟨w.heap.size, 0, none⟩ (.pointer a))) := ⟨a, rfl, Rp.set ⟨t, p1, p2, p3⟩ V1.out (by decide) rfl _, (B0.out.trans (p5.mono (by simp))).setCell (p := ⟨w.heap.size, 0, none⟩) (Nat.le_refl _) _⟩
    have cr := (V1.out.set (.pointer a)).c
    clear p1 p2 p3 p4 p5
    go_wp2_with fail
    exact bodyPost_ret (v := .tuple #[.agg #[.pointer a], .int .i64 0]) (by simp [results, Tryz.results10, go_sem, cr]) rfl H.out
  · rw [if_neg h0]
    have hne : (chkL L != 0) = true := by rw [bne_iff_ne]; exact h0
    have H : Hid (RPost w [] (chkL L) (.returned (.tuple #[.agg #[.pointer none], .int .i64 (chkL L)])) (w.alloc (.cells #[.pointer none] 27))) := ⟨none, rfl, Rp.nil _, B0.out⟩
    clear hs hf h0 ec
    go_enter Tryz.func10, Tryz.ntmps10
    go_wp2_with fail
    refine (KC.out).mono ?_
    rintro e w' ⟨rfl, rfl⟩
    go_wp2_with fail
    exact bodyPost_ret (v := .tuple #[.agg #[.pointer none], .int .i64 (chkL L)]) (by simp [results, Tryz.results10, go_sem]) rfl H.out

/-- What Split returns. -/
def SpPost (w : World) (A B : List Int) (err : Int) (e : Ending) (w' : World) : Prop := ∃ a b, e = .returned (.tuple #[.agg #[.pointer a], .agg #[.pointer b], .int .i64 err]) ∧ Rp w' a A ∧ Rp w' b B ∧ Below w.heap.size w w'

/-- The world in which Split has put its variables. -/
def vars2 (w : World) (a : Option Addr) : World := (w.alloc (.cells #[.pointer a] 27)).alloc (.cells #[.pointer none] 27)
def varsS (w : World) (a : Option Addr) : World := (vars2 w a).alloc (.cells #[.pointer none] 27)
theorem vars2_1 (w : World) (a : Option Addr) : Var (vars2 w a) w.heap.size 27 (.pointer a) := World.rowIs.alloc (Var.mk w _ _) _
theorem vars2_2 (w : World) (a : Option Addr) : Var (vars2 w a) (w.heap.size + 1) 27 (.pointer none) := by
  have := Var.mk (w.alloc (.cells #[.pointer a] 27)) 27 (.pointer none)
  rw [World.size_alloc] at this
  exact this
theorem vars2_b (w : World) (a : Option Addr) : Below w.heap.size w (vars2 w a) := ((Below.refl _ w).alloc (Nat.le_refl _) _).alloc (by rw [World.size_alloc]; omega) _
theorem vars2_s (w : World) (a : Option Addr) : (vars2 w a).heap.size = w.heap.size + 1 + 1 := by unfold vars2; rw [World.size_alloc, World.size_alloc]
theorem varsS_1 (w : World) (a : Option Addr) : Var (varsS w a) w.heap.size 27 (.pointer a) := World.rowIs.alloc (vars2_1 w a) _
theorem varsS_2 (w : World) (a : Option Addr) : Var (varsS w a) (w.heap.size + 1) 27 (.pointer none) := World.rowIs.alloc (vars2_2 w a) _
theorem varsS_3 (w : World) (a : Option Addr) : Var (varsS w a) (w.heap.size + 1 + 1) 27 (.pointer none) := by
  have := Var.mk (vars2 w a) 27 (.pointer none)
  rw [vars2_s] at this
  exact this
theorem varsS_b (w : World) (a : Option Addr) : Below w.heap.size w (varsS w a) := (vars2_b w a).alloc (by rw [vars2_s]; omega) _

theorem two_set {w : World} {q2 q3 : Nat} {t : TypeId} {u2 u3 : Value} (V2 : Var w q2 t u2) (V3 : Var w q3 t u3) (hne : q2 ≠ q3) (x y : Value) :
    Var (w.setCell ⟨q2, 0, none⟩ x) q3 t u3 ∧ Var ((w.setCell ⟨q2, 0, none⟩ x).setCell ⟨q3, 0, none⟩ y) q2 t x ∧ Var ((w.setCell ⟨q2, 0, none⟩ x).setCell ⟨q3, 0, none⟩ y) q3 t y := by
  have h1 : Var (w.setCell ⟨q2, 0, none⟩ x) q3 t u3 := World.rowIs.setOther V3 (Ne.symm hne) x
  exact ⟨h1, World.rowIs.setOther (V2.set x) hne y, h1.set y⟩

set_option maxRecDepth 100000 in
set_option maxHeartbeats 1600000 in
theorem rsplit_ok (w : World) (a : Option Addr) (L : List Int) (h : Rp w a L) (ok : LOk L) (k : Nat) (hk : k ≤ L.length) :
    Calls Tryz.prog 146 #[.agg #[.pointer a], .int .i64 k] w (SpPost w (L.take k) (L.drop k) 0) := by
  have V1 := Lib.hid (varsS_1 w a)
  have V2 := Lib.hid (varsS_2 w a)
  have V3 := Lib.hid (varsS_3 w a)
  have VB := Lib.hid (varsS_b w a)
  have hl := ok.len
  have HR := Lib.hid (h.below VB.out)
  have hki : ¬ (L.length : Int) < (k : Int) := by omega
  have OK := Lib.hid ok
  clear h ok
  go_enter Tryz.func146, Tryz.ntmps146
  go_wp2_with fail
  obtain ⟨w0, e0⟩ : ∃ w0, w0 = varsS w a := ⟨_, rfl⟩
  change Calls Tryz.prog _ _ (varsS w a) _
  rw [← e0] at V1 V2 V3 VB HR ⊢
  clear e0
  refine (rlen_any _ a L HR.out).mono ?_
  rintro e w1 ⟨rfl, hb⟩
  have W1 := Lib.hid (V1.out.below hb)
  have W2 := Lib.hid (V2.out.below hb)
  have W3 := Lib.hid (V3.out.below hb)
  have WB := Lib.hid (VB.out.trans (hb.mono VB.out.size))
  have WR := Lib.hid (HR.out.below hb)
  have c1 := W1.out.c
  clear hb V1 V2 V3 VB HR
  go_wp2_with fail
  refine (split_any w1 a L k k WR.out OK.out hk rfl).mono ?_
  rintro e w2 ⟨a1, a2, rfl, p1, p2, p3⟩
  have X2 := Lib.hid (W2.out.below p3)
  have X3 := Lib.hid (W3.out.below p3)
  have d2 := X2.out.c
  have f2 := X2.out.f
  have d3 := X3.out.c
  have f3 := X3.out.f
  obtain ⟨Y3, Z2, Z3⟩ := two_set X2.out X3.out (by omega) (.pointer a1) (.pointer a2)
  have r2 := Z2.c
  have r3 := Z3.c
  have H : Hid (SpPost w (L.take k) (L.drop k) 0 (.returned (.tuple #[.agg #[.pointer a1], .agg #[.pointer a2], .int .i64 0])) ((w2.setCell ⟨w.heap.size + 1, 0, none⟩ (.pointer a1)).setCell ⟨w.heap.size + 1 + 1, 0, none⟩ (.pointer a2))) :=
    ⟨a1, a2, rfl, (p1.set X2.out (by decide) rfl _).set Y3 (by decide) rfl _, (p2.set X2.out (by decide) rfl _).set Y3 (by decide) rfl _, below_set (below_set (WB.out.trans (p3.mono WB.out.size)) (by omega) _) (by omega) _⟩
  clear p1 p2 p3 c1 Y3 Z2 Z3
  go_wp2_with fail
  exact bodyPost_ret (v := .tuple #[.agg #[.pointer a1], .agg #[.pointer a2], .int .i64 0]) (by simp [results, Tryz.results146, go_sem, r2, r3]) rfl H.out
set_option maxRecDepth 100000 in
set_option maxHeartbeats 1600000 in
theorem rsplit_bad (w : World) (a : Option Addr) (L : List Int) (h : Rp w a L) (ok : LOk L) (x : Int) (hx : x < 0 ∨ (L.length : Int) < x) :
    Calls Tryz.prog 146 #[.agg #[.pointer a], .int .i64 x] w (SpPost w [] [] 4) := by
  have V1 := Lib.hid (varsS_1 w a)
  have V2 := Lib.hid (varsS_2 w a)
  have V3 := Lib.hid (varsS_3 w a)
  have VB := Lib.hid (varsS_b w a)
  have hl := ok.len
  have HR := Lib.hid (h.below VB.out)
  clear h ok
  by_cases hneg : x < 0
  · have r2 := V2.out.c
    have r3 := V3.out.c
    have H : Hid (SpPost w [] [] 4 (.returned (.tuple #[.agg #[.pointer none], .agg #[.pointer none], .int .i64 4])) (varsS w a)) := ⟨none, none, rfl, Rp.nil _, Rp.nil _, VB.out⟩
    clear hx
    go_enter Tryz.func146, Tryz.ntmps146
    go_wp2_with fail
    exact bodyPost_ret (v := .tuple #[.agg #[.pointer none], .agg #[.pointer none], .int .i64 4]) (by unfold varsS vars2 at r2 r3; simp [results, Tryz.results146, go_sem]) rfl H.out
  · have hki : (L.length : Int) < x := by omega
    clear hx
    go_enter Tryz.func146, Tryz.ntmps146
    go_wp2_with fail
    obtain ⟨w0, e0⟩ : ∃ w0, w0 = varsS w a := ⟨_, rfl⟩
    change Calls Tryz.prog _ _ (varsS w a) _
    rw [← e0] at V1 V2 V3 VB HR ⊢
    clear e0
    refine (rlen_any _ a L HR.out).mono ?_
    rintro e w1 ⟨rfl, hb⟩
    have X2 := Lib.hid (V2.out.below hb)
    have X3 := Lib.hid (V3.out.below hb)
    have d2 := X2.out.c
    have f2 := X2.out.f
    have d3 := X3.out.c
    have f3 := X3.out.f
    obtain ⟨Y3, Z2, Z3⟩ := two_set X2.out X3.out (by omega) (.pointer none) (.pointer none)
    have r2 := Z2.c
    have r3 := Z3.c
    have H : Hid (SpPost w [] [] 4 (.returned (.tuple #[.agg #[.pointer none], .agg #[.pointer none], .int .i64 4])) ((w1.setCell ⟨w.heap.size + 1, 0, none⟩ (.pointer none)).setCell ⟨w.heap.size + 1 + 1, 0, none⟩ (.pointer none))) :=
      ⟨none, none, rfl, Rp.nil _, Rp.nil _, below_set (below_set (VB.out.trans (hb.mono VB.out.size)) (by omega) _) (by omega) _⟩
    clear hb Y3 Z2 Z3
    go_wp2_with fail
    exact bodyPost_ret (v := .tuple #[.agg #[.pointer none], .agg #[.pointer none], .int .i64 4]) (by simp [results, Tryz.results146, go_sem, r2, r3]) rfl H.out
/-- The error of two lists that are put together. -/
def joinErr (A B : List Int) : Int := if 4096 < A.length + B.length then 3 else if 4611686018427387904 - B.sum < A.sum then 13 else 0
def varsJ (w : World) (a b : Option Addr) : World := ((w.alloc (.cells #[.pointer a] 27)).alloc (.cells #[.pointer b] 27)).alloc (.cells #[.pointer none] 27)
theorem varsJ_all (w : World) (a b : Option Addr) : Var (varsJ w a b) w.heap.size 27 (.pointer a) ∧ Var (varsJ w a b) (w.heap.size + 1) 27 (.pointer b) ∧ Var (varsJ w a b) (w.heap.size + 1 + 1) 27 (.pointer none) ∧ Below w.heap.size w (varsJ w a b) := by
  have h2 := Var.mk (w.alloc (.cells #[.pointer a] 27)) 27 (.pointer b)
  rw [World.size_alloc] at h2
  have h3 := Var.mk ((w.alloc (.cells #[.pointer a] 27)).alloc (.cells #[.pointer b] 27)) 27 (.pointer none)
  rw [World.size_alloc, World.size_alloc] at h3
  exact ⟨World.rowIs.alloc (World.rowIs.alloc (Var.mk w _ _) _) _, World.rowIs.alloc h2 _, h3, (((Below.refl _ w).alloc (Nat.le_refl _) _).alloc (by rw [World.size_alloc]; omega) _).alloc (by rw [World.size_alloc, World.size_alloc]; omega) _⟩

set_option maxRecDepth 100000 in
set_option maxHeartbeats 3200000 in
theorem rjoin_any (w : World) (a b : Option Addr) (A B : List Int) (ha : Rp w a A) (hb : Rp w b B) (oa : LOk A) (ob : LOk B) :
    Calls Tryz.prog 147 #[.agg #[.pointer a], .agg #[.pointer b]] w (RPost w (if joinErr A B = 0 then A ++ B else []) (joinErr A B)) := by
  obtain ⟨V1, V2, V3, VB⟩ := varsJ_all w a b
  have HA := Lib.hid (ha.below VB)
  have HB := Lib.hid (hb.below VB)
  have sa := oa.sum0
  have sb := ob.sum0
  have ta := oa.top
  have tb := ob.top
  have la := oa.len
  have lb := ob.len
  clear ha hb
  have hcase : (joinErr A B = 3 ∧ 4096 < (A.length : Int) + (B.length : Int)) ∨ (joinErr A B = 13 ∧ ¬ 4096 < (A.length : Int) + (B.length : Int) ∧ 4611686018427387904 - B.sum < A.sum) ∨ (joinErr A B = 0 ∧ ¬ 4096 < (A.length : Int) + (B.length : Int) ∧ ¬ 4611686018427387904 - B.sum < A.sum) := by
    unfold joinErr
    by_cases c1 : 4096 < A.length + B.length
    · exact .inl ⟨if_pos c1, by omega⟩
    · by_cases c2 : 4611686018427387904 - B.sum < A.sum
      · exact .inr (.inl ⟨by rw [if_neg c1, if_pos c2], by omega, c2⟩)
      · exact .inr (.inr ⟨by rw [if_neg c1, if_neg c2], by omega, c2⟩)
  have OK : Hid (¬ 4096 < (A.length : Int) + (B.length : Int) → ¬ 4611686018427387904 - B.sum < A.sum → LOk (A ++ B)) := fun h1 h2 => ⟨fun x hx => by rcases List.mem_append.1 hx with h | h; exact oa.nn x h; exact ob.nn x h, by rw [List.length_append]; omega, by rw [List.sum_append]; omega⟩
  obtain ⟨w0, e0⟩ : ∃ w0, w0 = varsJ w a b := ⟨_, rfl⟩
  have V1 := Lib.hid V1
  have V2 := Lib.hid V2
  have V3 := Lib.hid V3
  have VB := Lib.hid VB
  rw [← e0] at V1 V2 V3 VB HA HB
  have S0 : Hid (Below w0.heap.size w0 w0.drew) := (Below.refl _ _).drew
  have LA := Lib.hid (rlen_any w0.drew a A (HA.out.drawn ⟨1, rfl⟩))
  have LB := Lib.hid (fun W (h : Below w0.heap.size w0 W) => rlen_any W b B (HB.out.below h))
  have TA := Lib.hid (fun W (h : Below w0.heap.size w0 W) => rtotal_any W a A (HA.out.below h))
  have TB := Lib.hid (fun W (h : Below w0.heap.size w0 W) => rtotal_any W b B (HB.out.below h))
  have c1 := V1.out.c
  have c2 := V2.out.c
  have lt1 := World.rowIs.lt V1.out
  have lt2 := World.rowIs.lt V2.out
  have E0 := Lib.hid e0
  clear oa ob e0
  obtain ⟨nA, eA⟩ : ∃ n, n = A.length := ⟨_, rfl⟩
  obtain ⟨nB, eB⟩ : ∃ n, n = B.length := ⟨_, rfl⟩
  obtain ⟨tA, fA⟩ : ∃ n, n = A.sum := ⟨_, rfl⟩
  obtain ⟨tB, fB⟩ : ∃ n, n = B.sum := ⟨_, rfl⟩
  rw [← eA] at LA la hcase OK
  rw [← eB] at LB lb hcase OK
  rw [← fA] at TA sa ta hcase OK
  rw [← fB] at TB sb tb hcase OK
  clear eA eB fA fB
  have HW1 : Hid (IntKind.i64.wrap ((nA : Int) + (nB : Int)) = (nA : Int) + (nB : Int)) := IntWalk.i64_in _ (by omega)
  have HW2 : Hid (IntKind.i64.wrap (4611686018427387904 - tB) = 4611686018427387904 - tB) := IntWalk.i64_in _ (by omega)
  rcases hcase with ⟨hE, hc⟩ | ⟨hE, hc, hd⟩ | ⟨hE, hc, hd⟩
  · rw [hE, if_neg (by decide)]
    clear hE OK TA TB
    go_enter Tryz.func147, Tryz.ntmps147
    go_wp2_with fail
    change Code.wp _ _ _ _ (varsJ w a b)
    rw [← E0.out]
    refine wp_region_plan [(false, 0), (false, 2), (true, 1), (true, 3), (false, 4), (false, 5), (false, 6)] (Below w0.heap.size w0) (by kernel_rfl) (by kernel_rfl) (S0.out) _ (by simp only [pickH, List.getElem?_toArray, List.getElem?_cons_succ, List.getElem?_cons_zero]; rfl) ?_
    repeat (refine HWalk.step (fun K hK => ?_); first | (apply held_yes; (focus rfl); (focus (intro w' hw; obtain ⟨hc', hf'⟩ := below_cells hw; go_simp; rfl)); (go_simp; refine hK _ ?_; clear hK K)) | (refine ite_no (by decide) ?_; go_simp; refine hK _ ?_; clear hK K))
    refine HWalk.mark ?_
    go_wp2_with fail
    refine (LA.out).mono ?_
    rintro e w1 ⟨rfl, h1⟩
    have B1 := Lib.hid (S0.out.trans h1)
    clear h1
    go_wp2_with fail
    refine ⟨B1.out, ?_⟩
    repeat (refine HWalk.step (fun K hK => ?_); first | (apply held_yes; (focus rfl); (focus (intro w' hw; obtain ⟨hc', hf'⟩ := below_cells hw; go_simp; rfl)); (go_simp; refine hK _ ?_; clear hK K)) | (refine ite_no (by decide) ?_; go_simp; refine hK _ ?_; clear hK K))
    refine HWalk.mark ?_
    go_wp2_with fail
    refine (LB.out _ B1.out).mono ?_
    rintro e w2 ⟨rfl, h2⟩
    have B2 := Lib.hid (B1.out.trans (h2.mono B1.out.size))
    have d1 := (V1.out.below B2.out).c
    have d2 := (V2.out.below B2.out).c
    have W3 := Lib.hid (V3.out.below B2.out)
    have e3 := W3.out.c
    have f3 := W3.out.f
    have l1 : w.heap.size < w2.heap.size := Nat.lt_of_lt_of_le lt1 B2.out.size
    have l2 : w.heap.size + 1 < w2.heap.size := Nat.lt_of_lt_of_le lt2 B2.out.size
    clear h2
    go_wp2_with fail
    have hw1 := HW1.out
    refine ⟨B2.out, ?_⟩
    repeat (refine HWalk.step (fun K hK => ?_); first | (apply held_yes; (focus rfl); (focus (intro w' hw; obtain ⟨hc', hf'⟩ := below_cells hw; go_simp; rfl)); (go_simp; refine hK _ ?_; clear hK K)) | (refine ite_no (by decide) ?_; go_simp; refine hK _ ?_; clear hK K))
    clear hw1
    refine HWalk.done ?_
    go_wp2_with fail
    have r3 := (W3.out.set (.pointer none)).c
    have H : Hid (RPost w [] 3 (.returned (.tuple #[.agg #[.pointer none], .int .i64 3])) (w2.setCell ⟨w.heap.size + 1 + 1, 0, none⟩ (.pointer none))) := ⟨none, rfl, Rp.nil _, below_set (VB.out.trans (B2.out.mono VB.out.size)) (by omega) _⟩
    go_wp2_with fail
    exact bodyPost_ret (v := .tuple #[.agg #[.pointer none], .int .i64 3]) (by simp [results, Tryz.results147, go_sem, r3]) rfl H.out
  · rw [hE, if_neg (by decide)]
    clear hE OK
    go_enter Tryz.func147, Tryz.ntmps147
    go_wp2_with fail
    change Code.wp _ _ _ _ (varsJ w a b)
    rw [← E0.out]
    refine wp_region_plan [(false, 0), (false, 2), (true, 1), (true, 3), (false, 4), (false, 5), (false, 6)] (Below w0.heap.size w0) (by kernel_rfl) (by kernel_rfl) (S0.out) _ (by simp only [pickH, List.getElem?_toArray, List.getElem?_cons_succ, List.getElem?_cons_zero]; rfl) ?_
    repeat (refine HWalk.step (fun K hK => ?_); first | (apply held_yes; (focus rfl); (focus (intro w' hw; obtain ⟨hc', hf'⟩ := below_cells hw; go_simp; rfl)); (go_simp; refine hK _ ?_; clear hK K)) | (refine ite_no (by decide) ?_; go_simp; refine hK _ ?_; clear hK K))
    refine HWalk.mark ?_
    go_wp2_with fail
    refine (LA.out).mono ?_
    rintro e w1 ⟨rfl, h1⟩
    have B1 := Lib.hid (S0.out.trans h1)
    clear h1
    go_wp2_with fail
    refine ⟨B1.out, ?_⟩
    repeat (refine HWalk.step (fun K hK => ?_); first | (apply held_yes; (focus rfl); (focus (intro w' hw; obtain ⟨hc', hf'⟩ := below_cells hw; go_simp; rfl)); (go_simp; refine hK _ ?_; clear hK K)) | (refine ite_no (by decide) ?_; go_simp; refine hK _ ?_; clear hK K))
    refine HWalk.mark ?_
    go_wp2_with fail
    refine (LB.out _ B1.out).mono ?_
    rintro e w2 ⟨rfl, h2⟩
    have B2 := Lib.hid (B1.out.trans (h2.mono B1.out.size))
    have d1 := (V1.out.below B2.out).c
    have d2 := (V2.out.below B2.out).c
    have W3 := Lib.hid (V3.out.below B2.out)
    have e3 := W3.out.c
    have f3 := W3.out.f
    have l1 : w.heap.size < w2.heap.size := Nat.lt_of_lt_of_le lt1 B2.out.size
    have l2 : w.heap.size + 1 < w2.heap.size := Nat.lt_of_lt_of_le lt2 B2.out.size
    clear h2
    go_wp2_with fail
    have hw1 := HW1.out
    refine ⟨B2.out, ?_⟩
    repeat (refine HWalk.step (fun K hK => ?_); first | (apply held_yes; (focus rfl); (focus (intro w' hw; obtain ⟨hc', hf'⟩ := below_cells hw; go_simp; rfl)); (go_simp; refine hK _ ?_; clear hK K)) | (refine ite_no (by decide) ?_; go_simp; refine hK _ ?_; clear hK K))
    clear hw1
    refine HWalk.done ?_
    go_wp2_with fail
    have B3 : Hid (Below w0.heap.size w0 w2.drew) := B2.out.drew
    refine wp_region_plan [(false, 0), (false, 2), (true, 1), (true, 3), (false, 4), (false, 5), (false, 6)] (Below w2.heap.size w2) (by kernel_rfl) (by kernel_rfl) ((Below.refl _ _).drew) _ (by simp only [pickH, List.getElem?_toArray, List.getElem?_cons_succ, List.getElem?_cons_zero]; rfl) ?_
    repeat (refine HWalk.step (fun K hK => ?_); first | (apply held_yes; (focus rfl); (focus (intro w' hw; obtain ⟨hc', hf'⟩ := below_cells hw; go_simp; rfl)); (go_simp; refine hK _ ?_; clear hK K)) | (refine ite_no (by decide) ?_; go_simp; refine hK _ ?_; clear hK K))
    refine HWalk.mark ?_
    go_wp2_with fail
    refine (TA.out _ B3.out).mono ?_
    rintro e w3 ⟨rfl, h1⟩
    have C3 : Hid (Below w2.heap.size w2 w3) := ((Below.refl _ w2).drew).trans h1
    have B4 : Hid (Below w0.heap.size w0 w3) := B2.out.trans (C3.out.mono B2.out.size)
    clear h1
    go_wp2_with fail
    refine ⟨C3.out, ?_⟩
    repeat (refine HWalk.step (fun K hK => ?_); first | (apply held_yes; (focus rfl); (focus (intro w' hw; obtain ⟨hc', hf'⟩ := below_cells hw; go_simp; rfl)); (go_simp; refine hK _ ?_; clear hK K)) | (refine ite_no (by decide) ?_; go_simp; refine hK _ ?_; clear hK K))
    refine HWalk.mark ?_
    go_wp2_with fail
    refine (TB.out _ B4.out).mono ?_
    rintro e w4 ⟨rfl, h2⟩
    have C4 : Hid (Below w2.heap.size w2 w4) := C3.out.trans (h2.mono C3.out.size)
    have B5 : Hid (Below w0.heap.size w0 w4) := B4.out.trans (h2.mono B4.out.size)
    have g1 := (V1.out.below B5.out).c
    have g2 := (V2.out.below B5.out).c
    have X3 := Lib.hid (V3.out.below B5.out)
    have e4 := X3.out.c
    have f4 := X3.out.f
    clear h2
    go_wp2_with fail
    have hw1 := HW2.out
    refine ⟨C4.out, ?_⟩
    repeat (refine HWalk.step (fun K hK => ?_); first | (apply held_yes; (focus rfl); (focus (intro w' hw; obtain ⟨hc', hf'⟩ := below_cells hw; go_simp; rfl)); (go_simp; refine hK _ ?_; clear hK K)) | (refine ite_no (by decide) ?_; go_simp; refine hK _ ?_; clear hK K))
    clear hw1
    refine HWalk.done ?_
    go_wp2_with fail
    have r3 := (X3.out.set (.pointer none)).c
    have H : Hid (RPost w [] 13 (.returned (.tuple #[.agg #[.pointer none], .int .i64 13])) (w4.setCell ⟨w.heap.size + 1 + 1, 0, none⟩ (.pointer none))) := ⟨none, rfl, Rp.nil _, below_set (VB.out.trans (B5.out.mono VB.out.size)) (by omega) _⟩
    go_wp2_with fail
    exact bodyPost_ret (v := .tuple #[.agg #[.pointer none], .int .i64 13]) (by simp [results, Tryz.results147, go_sem, r3]) rfl H.out
  · rw [hE, if_pos rfl]
    have OK2 := Lib.hid (OK.out hc hd)
    clear hE OK
    go_enter Tryz.func147, Tryz.ntmps147
    go_wp2_with fail
    change Code.wp _ _ _ _ (varsJ w a b)
    rw [← E0.out]
    refine wp_region_plan [(false, 0), (false, 2), (true, 1), (true, 3), (false, 4), (false, 5), (false, 6)] (Below w0.heap.size w0) (by kernel_rfl) (by kernel_rfl) (S0.out) _ (by simp only [pickH, List.getElem?_toArray, List.getElem?_cons_succ, List.getElem?_cons_zero]; rfl) ?_
    repeat (refine HWalk.step (fun K hK => ?_); first | (apply held_yes; (focus rfl); (focus (intro w' hw; obtain ⟨hc', hf'⟩ := below_cells hw; go_simp; rfl)); (go_simp; refine hK _ ?_; clear hK K)) | (refine ite_no (by decide) ?_; go_simp; refine hK _ ?_; clear hK K))
    refine HWalk.mark ?_
    go_wp2_with fail
    refine (LA.out).mono ?_
    rintro e w1 ⟨rfl, h1⟩
    have B1 := Lib.hid (S0.out.trans h1)
    clear h1
    go_wp2_with fail
    refine ⟨B1.out, ?_⟩
    repeat (refine HWalk.step (fun K hK => ?_); first | (apply held_yes; (focus rfl); (focus (intro w' hw; obtain ⟨hc', hf'⟩ := below_cells hw; go_simp; rfl)); (go_simp; refine hK _ ?_; clear hK K)) | (refine ite_no (by decide) ?_; go_simp; refine hK _ ?_; clear hK K))
    refine HWalk.mark ?_
    go_wp2_with fail
    refine (LB.out _ B1.out).mono ?_
    rintro e w2 ⟨rfl, h2⟩
    have B2 := Lib.hid (B1.out.trans (h2.mono B1.out.size))
    have d1 := (V1.out.below B2.out).c
    have d2 := (V2.out.below B2.out).c
    have W3 := Lib.hid (V3.out.below B2.out)
    have e3 := W3.out.c
    have f3 := W3.out.f
    have l1 : w.heap.size < w2.heap.size := Nat.lt_of_lt_of_le lt1 B2.out.size
    have l2 : w.heap.size + 1 < w2.heap.size := Nat.lt_of_lt_of_le lt2 B2.out.size
    clear h2
    go_wp2_with fail
    have hw1 := HW1.out
    refine ⟨B2.out, ?_⟩
    repeat (refine HWalk.step (fun K hK => ?_); first | (apply held_yes; (focus rfl); (focus (intro w' hw; obtain ⟨hc', hf'⟩ := below_cells hw; go_simp; rfl)); (go_simp; refine hK _ ?_; clear hK K)) | (refine ite_no (by decide) ?_; go_simp; refine hK _ ?_; clear hK K))
    clear hw1
    refine HWalk.done ?_
    go_wp2_with fail
    have B3 : Hid (Below w0.heap.size w0 w2.drew) := B2.out.drew
    refine wp_region_plan [(false, 0), (false, 2), (true, 1), (true, 3), (false, 4), (false, 5), (false, 6)] (Below w2.heap.size w2) (by kernel_rfl) (by kernel_rfl) ((Below.refl _ _).drew) _ (by simp only [pickH, List.getElem?_toArray, List.getElem?_cons_succ, List.getElem?_cons_zero]; rfl) ?_
    repeat (refine HWalk.step (fun K hK => ?_); first | (apply held_yes; (focus rfl); (focus (intro w' hw; obtain ⟨hc', hf'⟩ := below_cells hw; go_simp; rfl)); (go_simp; refine hK _ ?_; clear hK K)) | (refine ite_no (by decide) ?_; go_simp; refine hK _ ?_; clear hK K))
    refine HWalk.mark ?_
    go_wp2_with fail
    refine (TA.out _ B3.out).mono ?_
    rintro e w3 ⟨rfl, h1⟩
    have C3 : Hid (Below w2.heap.size w2 w3) := ((Below.refl _ w2).drew).trans h1
    have B4 : Hid (Below w0.heap.size w0 w3) := B2.out.trans (C3.out.mono B2.out.size)
    clear h1
    go_wp2_with fail
    refine ⟨C3.out, ?_⟩
    repeat (refine HWalk.step (fun K hK => ?_); first | (apply held_yes; (focus rfl); (focus (intro w' hw; obtain ⟨hc', hf'⟩ := below_cells hw; go_simp; rfl)); (go_simp; refine hK _ ?_; clear hK K)) | (refine ite_no (by decide) ?_; go_simp; refine hK _ ?_; clear hK K))
    refine HWalk.mark ?_
    go_wp2_with fail
    refine (TB.out _ B4.out).mono ?_
    rintro e w4 ⟨rfl, h2⟩
    have C4 : Hid (Below w2.heap.size w2 w4) := C3.out.trans (h2.mono C3.out.size)
    have B5 : Hid (Below w0.heap.size w0 w4) := B4.out.trans (h2.mono B4.out.size)
    have g1 := (V1.out.below B5.out).c
    have g2 := (V2.out.below B5.out).c
    have X3 := Lib.hid (V3.out.below B5.out)
    have e4 := X3.out.c
    have f4 := X3.out.f
    clear h2
    go_wp2_with fail
    have hw1 := HW2.out
    refine ⟨C4.out, ?_⟩
    repeat (refine HWalk.step (fun K hK => ?_); first | (apply held_yes; (focus rfl); (focus (intro w' hw; obtain ⟨hc', hf'⟩ := below_cells hw; go_simp; rfl)); (go_simp; refine hK _ ?_; clear hK K)) | (refine ite_no (by decide) ?_; go_simp; refine hK _ ?_; clear hK K))
    clear hw1
    refine HWalk.done ?_
    go_wp2_with fail
    refine (put_any w4 a b A B (HA.out.below B5.out) (HB.out.below B5.out) OK2.out).mono ?_
    rintro e w5 ⟨a5, rfl, p1, p2⟩
    have Y3 := Lib.hid (X3.out.below p2)
    have e5 := Y3.out.c
    have f5 := Y3.out.f
    have r3 := (Y3.out.set (.pointer a5)).c
    have H : Hid (RPost w (A ++ B) 0 (.returned (.tuple #[.agg #[.pointer a5], .int .i64 0])) (w5.setCell ⟨w.heap.size + 1 + 1, 0, none⟩ (.pointer a5))) := ⟨a5, rfl, p1.set Y3.out (by decide) rfl _, below_set (VB.out.trans ((B5.out.trans (p2.mono B5.out.size)).mono VB.out.size)) (by omega) _⟩
    clear p1 p2
    go_wp2_with fail
    exact bodyPost_ret (v := .tuple #[.agg #[.pointer a5], .int .i64 0]) (by simp [results, Tryz.results147, go_sem, r3]) rfl H.out
end Go.Proofs.YtfmfmeiaekknbaaGreat
end

section
/-
  Contracts of package ropes, eighth: cut, Remove, Move.
-/
namespace Go.Proofs.YtfmfmeiaekknbaaGreat
open Go.RowKit
set_option linter.unusedVariables false
set_option linter.unusedSimpArgs false

/-- The error of a part of a list. -/
def cutErr (L : List Int) (i n : Int) : Int := if i < 0 ∨ n < 0 ∨ (L.length : Int) < i ∨ (L.length : Int) - i < n then 4 else 0
def CutPost (w : World) (L : List Int) (k m : Nat) (e : Ending) (w' : World) : Prop := ∃ a b c, e = .returned (.tuple #[.pointer a, .pointer b, .pointer c, .int .i64 0]) ∧ Rp w' a (L.take k) ∧ Rp w' b ((L.drop k).take m) ∧ Rp w' c ((L.drop k).drop m) ∧ Below w.heap.size w w'

set_option maxRecDepth 100000 in
set_option maxHeartbeats 1600000 in
theorem cut_bad (w : World) (a : Option Addr) (L : List Int) (h : Rp w a L) (ok : LOk L) (i n : Int) (hc : i < 0 ∨ n < 0 ∨ (L.length : Int) < i ∨ (L.length : Int) - i < n) :
    Calls Tryz.prog 93 #[.agg #[.pointer a], .int .i64 i, .int .i64 n] w (fun e w' => e = .returned (.tuple #[.pointer none, .pointer none, .pointer none, .int .i64 4]) ∧ Below w.heap.size w w') := by
  have V1 := Lib.hid (Var.mk w 27 (.pointer a))
  have VB : Hid (Below w.heap.size w (w.alloc (.cells #[.pointer a] 27))) := (Below.refl _ w).alloc (Nat.le_refl _) _
  have HR := Lib.hid (h.below VB.out)
  have hl := ok.len
  clear h ok
  by_cases c1 : i < 0
  · clear hc
    go_enter Tryz.func93, Tryz.ntmps93
    go_wp2_with fail
    exact bodyPost_ret (v := .tuple #[.pointer none, .pointer none, .pointer none, .int .i64 4]) (by simp [results, Tryz.results93, go_sem]) rfl ⟨rfl, VB.out⟩
  by_cases c2 : n < 0
  · clear hc
    go_enter Tryz.func93, Tryz.ntmps93
    go_wp2_with fail
    exact bodyPost_ret (v := .tuple #[.pointer none, .pointer none, .pointer none, .int .i64 4]) (by simp [results, Tryz.results93, go_sem]) rfl ⟨rfl, VB.out⟩
  have KL := Lib.hid (rlen_any _ a L HR.out)
  obtain ⟨len, el⟩ : ∃ n, n = L.length := ⟨_, rfl⟩
  rw [← el] at KL hc hl
  by_cases c3 : (len : Int) < i
  · clear hc el
    go_enter Tryz.func93, Tryz.ntmps93
    go_wp2_with fail
    refine (KL.out).mono ?_
    rintro e w1 ⟨rfl, hb⟩
    have B1 := Lib.hid (VB.out.trans (hb.mono VB.out.size))
    clear hb
    go_wp2_with fail
    exact bodyPost_ret (v := .tuple #[.pointer none, .pointer none, .pointer none, .int .i64 4]) (by simp [results, Tryz.results93, go_sem]) rfl ⟨rfl, B1.out⟩
  · have c4 : (len : Int) - i < n := by omega
    have EL := Lib.hid el
    clear hc el
    go_enter Tryz.func93, Tryz.ntmps93
    go_wp2_with fail
    refine (KL.out).mono ?_
    rintro e w1 ⟨rfl, hb⟩
    have V2 := Lib.hid (V1.out.below hb)
    have B1 := Lib.hid (VB.out.trans (hb.mono VB.out.size))
    have KL2 := Lib.hid (rlen_any w1 a L (HR.out.below hb))
    have cv := V2.out.c
    rw [← EL.out] at KL2
    clear hb
    go_wp2_with fail
    refine (KL2.out).mono ?_
    rintro e w2 ⟨rfl, hb⟩
    have B2 := Lib.hid (B1.out.trans (hb.mono B1.out.size))
    clear hb cv
    go_wp2_with fail
    exact bodyPost_ret (v := .tuple #[.pointer none, .pointer none, .pointer none, .int .i64 4]) (by simp [results, Tryz.results93, go_sem]) rfl ⟨rfl, B2.out⟩

set_option maxRecDepth 100000 in
set_option maxHeartbeats 1600000 in
theorem cut_ok (w : World) (a : Option Addr) (L : List Int) (h : Rp w a L) (ok : LOk L) (k m : Nat) (hk : k + m ≤ L.length) :
    Calls Tryz.prog 93 #[.agg #[.pointer a], .int .i64 k, .int .i64 m] w (CutPost w L k m) := by
  have V1 := Lib.hid (Var.mk w 27 (.pointer a))
  have VB : Hid (Below w.heap.size w (w.alloc (.cells #[.pointer a] 27))) := (Below.refl _ w).alloc (Nat.le_refl _) _
  have HR := Lib.hid (h.below VB.out)
  have hl := ok.len
  have OK := Lib.hid ok
  have KL := Lib.hid (rlen_any _ a L HR.out)
  obtain ⟨len, el⟩ : ∃ n, n = L.length := ⟨_, rfl⟩
  rw [← el] at KL hk hl
  have c3 : ¬ (len : Int) < (k : Int) := by omega
  have c4 : ¬ (len : Int) - (k : Int) < (m : Int) := by omega
  have hkl : k ≤ len := by omega
  have EL := Lib.hid el
  clear h ok el
  go_enter Tryz.func93, Tryz.ntmps93
  go_wp2_with fail
  refine (KL.out).mono ?_
  rintro e w1 ⟨rfl, hb⟩
  have V2 := Lib.hid (V1.out.below hb)
  have R1 := Lib.hid (HR.out.below hb)
  have B1 := Lib.hid (VB.out.trans (hb.mono VB.out.size))
  have KL2 := Lib.hid (rlen_any w1 a L R1.out)
  have cv := V2.out.c
  rw [← EL.out] at KL2
  clear hb V1 HR KL
  go_wp2_with fail
  refine (KL2.out).mono ?_
  rintro e w2 ⟨rfl, hb⟩
  have V3 := Lib.hid (V2.out.below hb)
  have R2 := Lib.hid (R1.out.below hb)
  have B2 := Lib.hid (B1.out.trans (hb.mono B1.out.size))
  have KS := Lib.hid (split_any w2 a L k k R2.out OK.out (by rw [← EL.out]; exact hkl) rfl)
  have cv2 := V3.out.c
  clear hb cv KL2 R1 B1 V2
  go_wp2_with fail
  refine (KS.out).mono ?_
  rintro e w3 ⟨a1, a2, rfl, p1, p2, p3⟩
  have B3 := Lib.hid (B2.out.trans (p3.mono B2.out.size))
  have R3 := Lib.hid p1
  have KT := Lib.hid (split_any w3 a2 (L.drop k) m m p2 (OK.out.drop k) (by rw [List.length_drop, ← EL.out]; omega) rfl)
  clear p1 p2 p3 cv2
  go_wp2_with fail
  refine (KT.out).mono ?_
  rintro e w4 ⟨a3, a4, rfl, p1, p2, p3⟩
  have H : Hid (CutPost w L k m (.returned (.tuple #[.pointer a1, .pointer a3, .pointer a4, .int .i64 0])) w4) := ⟨a1, a3, a4, rfl, R3.out.below p3, p1, p2, B3.out.trans (p3.mono B3.out.size)⟩
  clear p1 p2 p3
  go_wp2_with fail
  exact bodyPost_ret (v := .tuple #[.pointer a1, .pointer a3, .pointer a4, .int .i64 0]) (by simp [results, Tryz.results93, go_sem]) rfl H.out

/-- The list without a part. -/
def remL (L : List Int) (k m : Nat) : List Int := L.take k ++ (L.drop k).drop m
theorem remL_ok {L : List Int} (ok : LOk L) (k m : Nat) : LOk (remL L k m) := by
  have h1 : L = L.take k ++ ((L.drop k).take m ++ (L.drop k).drop m) := by rw [List.take_append_drop, List.take_append_drop]
  unfold remL
  rw [h1] at ok
  refine ⟨fun x hx => ?_, ?_, ?_⟩
  · rcases List.mem_append.1 hx with h | h
    · exact ok.nn x (by simp [h])
    · exact ok.nn x (List.mem_append.2 (.inr (List.mem_append.2 (.inr h))))
  · have := ok.len
    simp only [List.length_append] at this ⊢
    omega
  · have h2 := ok.top
    have h3 := ok.right.left.sum0
    rw [List.sum_append, List.sum_append] at h2
    rw [List.sum_append]
    omega
theorem remL_len (L : List Int) (k m : Nat) (h : k + m ≤ L.length) : (remL L k m).length = L.length - m := by unfold remL; simp; omega
theorem cutErr_cases (L : List Int) (i n : Int) : (cutErr L i n = 4 ∧ (i < 0 ∨ n < 0 ∨ (L.length : Int) < i ∨ (L.length : Int) - i < n)) ∨ (cutErr L i n = 0 ∧ ∃ k m : Nat, i = (k : Int) ∧ n = (m : Int) ∧ k + m ≤ L.length) := by
  unfold cutErr
  by_cases c : i < 0 ∨ n < 0 ∨ (L.length : Int) < i ∨ (L.length : Int) - i < n
  · exact .inl ⟨if_pos c, c⟩
  · exact .inr ⟨if_neg c, i.toNat, n.toNat, by omega, by omega, by omega⟩

end Go.Proofs.YtfmfmeiaekknbaaGreat
end

section
/-
  Contracts of package ropes, ninth: Move, Insert.
-/
namespace Go.Proofs.YtfmfmeiaekknbaaGreat
open Go.RowKit
set_option linter.unusedVariables false
set_option linter.unusedSimpArgs false

theorem LOk.of {L M : List Int} (h : LOk L) (h1 : ∀ x ∈ M, x ∈ L) (h2 : M.length ≤ L.length) (h3 : M.sum ≤ L.sum) : LOk M := ⟨fun x hx => h.nn x (h1 x hx), by have := h.len; omega, by have := h.top; omega⟩
/-- The list in which a part was moved. -/
def movL (L : List Int) (k m t : Nat) : List Int := ((remL L k m).take t ++ (L.drop k).take m) ++ (remL L k m).drop t
theorem parts_eq (L : List Int) (k m : Nat) : L = L.take k ++ ((L.drop k).take m ++ (L.drop k).drop m) := by rw [List.take_append_drop, List.take_append_drop]
theorem movL_ok {L : List Int} (ok : LOk L) (k m t : Nat) : LOk (movL L k m t) := by
  have e := parts_eq L k m
  have es : L.sum = (L.take k).sum + (((L.drop k).take m).sum + ((L.drop k).drop m).sum) := by
    have := congrArg List.sum e
    rwa [List.sum_append, List.sum_append] at this
  have el : L.length = (L.take k).length + (((L.drop k).take m).length + ((L.drop k).drop m).length) := by
    have := congrArg List.length e
    rwa [List.length_append, List.length_append] at this
  have rs : ((remL L k m).take t).sum + ((remL L k m).drop t).sum = (L.take k).sum + ((L.drop k).drop m).sum := by
    rw [← List.sum_append, List.take_append_drop]; unfold remL; rw [List.sum_append]
  have rl : ((remL L k m).take t).length + ((remL L k m).drop t).length = (L.take k).length + ((L.drop k).drop m).length := by
    rw [← List.length_append, List.take_append_drop]; unfold remL; rw [List.length_append]
  refine ok.of (fun x hx => ?_) ?_ ?_
  · have hr : ∀ y, y ∈ remL L k m → y ∈ L := fun y hy => by
      rw [e]
      unfold remL at hy
      rcases List.mem_append.1 hy with h | h
      · exact List.mem_append.2 (.inl h)
      · exact List.mem_append.2 (.inr (List.mem_append.2 (.inr h)))
    unfold movL at hx
    rcases List.mem_append.1 hx with h | h
    · rcases List.mem_append.1 h with h | h
      · exact hr x (List.mem_of_mem_take h)
      · exact List.mem_of_mem_drop (List.mem_of_mem_take h)
    · exact hr x (List.mem_of_mem_drop h)
  · unfold movL; rw [List.length_append, List.length_append]; omega
  · unfold movL; rw [List.sum_append, List.sum_append]; omega
def movErr (L : List Int) (i n t : Int) : Int := if i < 0 ∨ n < 0 ∨ (L.length : Int) < i ∨ (L.length : Int) - i < n ∨ t < 0 ∨ (L.length : Int) - n < t then 4 else 0
def movTo (L : List Int) (i n t : Int) : List Int := if movErr L i n t = 0 then movL L i.toNat n.toNat t.toNat else []

set_option maxRecDepth 100000 in
set_option maxHeartbeats 3200000 in
theorem rmove_any (w : World) (a : Option Addr) (L : List Int) (h : Rp w a L) (ok : LOk L) (i n t : Int) (ft : Fits t) :
    Calls Tryz.prog 39 #[.agg #[.pointer a], .int .i64 i, .int .i64 n, .int .i64 t] w (RPost w (movTo L i n t) (movErr L i n t)) := by
  have V1 := Lib.hid (vars2_1 w a)
  have V2 := Lib.hid (vars2_2 w a)
  have VB := Lib.hid (vars2_b w a)
  have HR := Lib.hid (h.below VB.out)
  have OK := Lib.hid ok
  have hl := ok.len
  obtain ⟨ft1, ft2⟩ := ft
  clear h ok
  rcases cutErr_cases L i n with ⟨hE, hc⟩ | ⟨hE, k, m, rfl, rfl, hkm⟩
  · have KC := Lib.hid (cut_bad _ a L HR.out OK.out i n hc)
    have hE4 : movErr L i n t = 4 := by unfold movErr; rw [if_pos (by omega)]
    unfold movTo
    rw [hE4, if_neg (by decide)]
    clear hE hE4 hc
    go_enter Tryz.func39, Tryz.ntmps39
    go_wp2_with fail
    obtain ⟨w0, e0⟩ : ∃ w0, w0 = vars2 w a := ⟨_, rfl⟩
    change Calls Tryz.prog _ _ (vars2 w a) _
    rw [← e0] at V1 V2 VB HR KC ⊢
    clear e0
    refine (KC.out).mono ?_
    rintro e w1 ⟨rfl, hb⟩
    have X2 := Lib.hid (V2.out.below hb)
    have d2 := X2.out.c
    have f2 := X2.out.f
    have r2 := (X2.out.set (.pointer none)).c
    have H : Hid (RPost w [] 4 (.returned (.tuple #[.agg #[.pointer none], .int .i64 4])) (w1.setCell ⟨w.heap.size + 1, 0, none⟩ (.pointer none))) := ⟨none, rfl, Rp.nil _, below_set (VB.out.trans (hb.mono VB.out.size)) (by omega) _⟩
    clear hb
    go_wp2_with fail
    exact bodyPost_ret (v := .tuple #[.agg #[.pointer none], .int .i64 4]) (by simp [results, Tryz.results39, go_sem, r2]) rfl H.out
  have KC := Lib.hid (cut_ok _ a L HR.out OK.out k m hkm)
  by_cases c1 : t < 0
  · have hE4 : movErr L k m t = 4 := by unfold movErr; rw [if_pos (by omega)]
    unfold movTo
    rw [hE4, if_neg (by decide)]
    clear hE hE4
    go_enter Tryz.func39, Tryz.ntmps39
    go_wp2_with fail
    obtain ⟨w0, e0⟩ : ∃ w0, w0 = vars2 w a := ⟨_, rfl⟩
    change Calls Tryz.prog _ _ (vars2 w a) _
    rw [← e0] at V1 V2 VB HR KC ⊢
    clear e0
    refine (KC.out).mono ?_
    rintro e w1 ⟨a1, a2, a3, rfl, p1, p2, p3, hb⟩
    have X2 := Lib.hid (V2.out.below hb)
    have d2 := X2.out.c
    have f2 := X2.out.f
    have r2 := (X2.out.set (.pointer none)).c
    have H : Hid (RPost w [] 4 (.returned (.tuple #[.agg #[.pointer none], .int .i64 4])) (w1.setCell ⟨w.heap.size + 1, 0, none⟩ (.pointer none))) := ⟨none, rfl, Rp.nil _, below_set (VB.out.trans (hb.mono VB.out.size)) (by omega) _⟩
    clear hb p1 p2 p3
    go_wp2_with fail
    exact bodyPost_ret (v := .tuple #[.agg #[.pointer none], .int .i64 4]) (by simp [results, Tryz.results39, go_sem, r2]) rfl H.out
  have LX : Hid (∀ W (h : Rp W a L), Calls Tryz.prog 47 #[.agg #[.pointer a]] W fun e w' => e = .returned (.int .i64 L.length) ∧ Below W.heap.size W w') := fun W h => rlen_any W a L h
  obtain ⟨len, el⟩ : ∃ n, n = L.length := ⟨_, rfl⟩
  have EL := Lib.hid el
  rw [← el] at LX hl hkm
  by_cases c2 : (len : Int) - (m : Int) < t
  · have hE4 : movErr L k m t = 4 := by unfold movErr; rw [if_pos (by omega)]
    unfold movTo
    rw [hE4, if_neg (by decide)]
    clear hE hE4 el
    go_enter Tryz.func39, Tryz.ntmps39
    go_wp2_with fail
    obtain ⟨w0, e0⟩ : ∃ w0, w0 = vars2 w a := ⟨_, rfl⟩
    change Calls Tryz.prog _ _ (vars2 w a) _
    rw [← e0] at V1 V2 VB HR KC ⊢
    clear e0
    refine (KC.out).mono ?_
    rintro e w1 ⟨a1, a2, a3, rfl, p1, p2, p3, hb⟩
    have X1 := Lib.hid (V1.out.below hb)
    have X2 := Lib.hid (V2.out.below hb)
    have B1 := Lib.hid (VB.out.trans (hb.mono VB.out.size))
    have KL := Lib.hid (LX.out w1 (HR.out.below hb))
    have d1 := X1.out.c
    clear hb p1 p2 p3
    go_wp2_with fail
    refine (KL.out).mono ?_
    rintro e w2 ⟨rfl, hb⟩
    have Y2 := Lib.hid (X2.out.below hb)
    have d2 := Y2.out.c
    have f2 := Y2.out.f
    have r2 := (Y2.out.set (.pointer none)).c
    have H : Hid (RPost w [] 4 (.returned (.tuple #[.agg #[.pointer none], .int .i64 4])) (w2.setCell ⟨w.heap.size + 1, 0, none⟩ (.pointer none))) := ⟨none, rfl, Rp.nil _, below_set (B1.out.trans (hb.mono B1.out.size)) (by omega) _⟩
    clear hb d1
    go_wp2_with fail
    exact bodyPost_ret (v := .tuple #[.agg #[.pointer none], .int .i64 4]) (by simp [results, Tryz.results39, go_sem, r2]) rfl H.out
  · obtain ⟨q, rfl⟩ : ∃ q : Nat, t = (q : Int) := ⟨t.toNat, by omega⟩
    have hE0 : movErr L k m q = 0 := by unfold movErr; rw [if_neg (by omega)]
    have hq : q ≤ (remL L k m).length := by rw [remL_len L k m (by omega)]; omega
    have MO := Lib.hid (movL_ok OK.out k m q)
    have RO := Lib.hid (remL_ok OK.out k m)
    unfold movTo
    rw [hE0, if_pos rfl, Int.toNat_natCast, Int.toNat_natCast, Int.toNat_natCast]
    clear hE hE0 el
    go_enter Tryz.func39, Tryz.ntmps39
    go_wp2_with fail
    obtain ⟨w0, e0⟩ : ∃ w0, w0 = vars2 w a := ⟨_, rfl⟩
    change Calls Tryz.prog _ _ (vars2 w a) _
    rw [← e0] at V1 V2 VB HR KC ⊢
    clear e0
    refine (KC.out).mono ?_
    rintro e w1 ⟨a1, a2, a3, rfl, p1, p2, p3, hb⟩
    have X1 := Lib.hid (V1.out.below hb)
    have X2 := Lib.hid (V2.out.below hb)
    have B1 := Lib.hid (VB.out.trans (hb.mono VB.out.size))
    have KL := Lib.hid (LX.out w1 (HR.out.below hb))
    have d1 := X1.out.c
    have P1 := Lib.hid p1
    have P2 := Lib.hid p2
    have P3 := Lib.hid p3
    clear hb p1 p2 p3 KC
    go_wp2_with fail
    refine (KL.out).mono ?_
    rintro e w2 ⟨rfl, hb⟩
    have Y2 := Lib.hid (X2.out.below hb)
    have B2 := Lib.hid (B1.out.trans (hb.mono B1.out.size))
    have KP := Lib.hid (put_any w2 a1 a3 _ _ (P1.out.below hb) (P3.out.below hb) RO.out)
    have Q2 := Lib.hid (P2.out.below hb)
    clear hb d1 KL
    go_wp2_with fail
    refine (KP.out).mono ?_
    rintro e w3 ⟨a4, rfl, p1, p2⟩
    have Z2 := Lib.hid (Y2.out.below p2)
    have B3 := Lib.hid (B2.out.trans (p2.mono B2.out.size))
    have KS := Lib.hid (split_any w3 a4 (remL L k m) q q p1 RO.out hq rfl)
    have Q3 := Lib.hid (Q2.out.below p2)
    clear p1 p2 KP
    go_wp2_with fail
    refine (KS.out).mono ?_
    rintro e w4 ⟨a5, a6, rfl, p1, p2, p3⟩
    have U2 := Lib.hid (Z2.out.below p3)
    have B4 := Lib.hid (B3.out.trans (p3.mono B3.out.size))
    have KP := Lib.hid (put_any w4 a5 a2 _ _ p1 (Q3.out.below p3) (MO.out.left))
    have Q4 := Lib.hid p2
    clear p1 p2 p3 KS
    go_wp2_with fail
    refine (KP.out).mono ?_
    rintro e w5 ⟨a7, rfl, p1, p2⟩
    have U3 := Lib.hid (U2.out.below p2)
    have B5 := Lib.hid (B4.out.trans (p2.mono B4.out.size))
    have KP2 := Lib.hid (put_any w5 a7 a6 _ _ p1 (Q4.out.below p2) MO.out)
    clear p1 p2 KP
    go_wp2_with fail
    refine (KP2.out).mono ?_
    rintro e w6 ⟨a8, rfl, p1, p2⟩
    have U4 := Lib.hid (U3.out.below p2)
    have d2 := U4.out.c
    have f2 := U4.out.f
    have r2 := (U4.out.set (.pointer a8)).c
    have H : Hid (RPost w (movL L k m q) 0 (.returned (.tuple #[.agg #[.pointer a8], .int .i64 0])) (w6.setCell ⟨w.heap.size + 1, 0, none⟩ (.pointer a8))) := ⟨a8, rfl, p1.set U4.out (by decide) rfl _, below_set (B5.out.trans (p2.mono B5.out.size)) (by omega) _⟩
    clear p1 p2
    go_wp2_with fail
    exact bodyPost_ret (v := .tuple #[.agg #[.pointer a8], .int .i64 0]) (by simp [results, Tryz.results39, go_sem, r2]) rfl H.out
end Go.Proofs.YtfmfmeiaekknbaaGreat
end

section
/-
  Contracts of package ropes, tenth: Insert.
-/
namespace Go.Proofs.YtfmfmeiaekknbaaGreat
open Go.RowKit
set_option linter.unusedVariables false
set_option linter.unusedSimpArgs false

def insErr (L : List Int) (i : Int) (S : List Int) : Int := if i < 0 ∨ (L.length : Int) < i then 4 else if chkL S ≠ 0 then chkL S else joinErr L S
def insL (L : List Int) (k : Nat) (S : List Int) : List Int := (L.take k ++ S) ++ L.drop k
def insTo (L : List Int) (i : Int) (S : List Int) : List Int := if insErr L i S = 0 then insL L i.toNat S else []
theorem insL_ok {L S : List Int} (h : LOk (L ++ S)) (k : Nat) : LOk (insL L k S) := by
  have e : L = L.take k ++ L.drop k := by rw [List.take_append_drop]
  have es : L.sum = (L.take k).sum + (L.drop k).sum := by rw [← List.sum_append, List.take_append_drop]
  have el : L.length = (L.take k).length + (L.drop k).length := by rw [← List.length_append, List.take_append_drop]
  refine h.of (fun x hx => ?_) ?_ ?_
  · unfold insL at hx
    rcases List.mem_append.1 hx with h | h
    · rcases List.mem_append.1 h with h | h
      · exact List.mem_append.2 (.inl (List.mem_of_mem_take h))
      · exact List.mem_append.2 (.inr h)
    · exact List.mem_append.2 (.inl (List.mem_of_mem_drop h))
  · unfold insL; rw [List.length_append, List.length_append, List.length_append]; omega
  · unfold insL; rw [List.sum_append, List.sum_append, List.sum_append]; omega
theorem joinErr_ok {A B : List Int} (oa : LOk A) (ob : LOk B) (h : joinErr A B = 0) : LOk (A ++ B) ∧ A.length + B.length ≤ 4096 := by
  unfold joinErr at h
  by_cases c1 : 4096 < A.length + B.length
  · rw [if_pos c1] at h; exact absurd h (by decide)
  rw [if_neg c1] at h
  by_cases c2 : 4611686018427387904 - B.sum < A.sum
  · rw [if_pos c2] at h; exact absurd h (by decide)
  exact ⟨⟨fun x hx => by rcases List.mem_append.1 hx with h | h; exact oa.nn x h; exact ob.nn x h, by rw [List.length_append]; omega, by rw [List.sum_append]; omega⟩, by omega⟩

/-- The world with two more variables. -/
def varsP (w : World) (a b : Option Addr) : World := (w.alloc (.cells #[.pointer a] 27)).alloc (.cells #[.pointer b] 27)
theorem varsP_all (w : World) (a b : Option Addr) : Var (varsP w a b) w.heap.size 27 (.pointer a) ∧ Var (varsP w a b) (w.heap.size + 1) 27 (.pointer b) ∧ Below w.heap.size w (varsP w a b) := by
  have h2 := Var.mk (w.alloc (.cells #[.pointer a] 27)) 27 (.pointer b)
  rw [World.size_alloc] at h2
  exact ⟨World.rowIs.alloc (Var.mk w _ _) _, h2, ((Below.refl _ w).alloc (Nat.le_refl _) _).alloc (by rw [World.size_alloc]; omega) _⟩

set_option maxRecDepth 100000 in
set_option maxHeartbeats 3200000 in
theorem rinsert_any (w : World) (a : Option Addr) (L : List Int) (h : Rp w a L) (ok : LOk L) (i : Int) (A : Option Addr) (c B : Nat) (S : List Int) (hs : SeesL w B A S) (hB : B ≤ w.heap.size) (hc : S.length ≤ c) (hm : c ≤ maxLen) (hn : S.length ≤ 1000000000000000) (hf : ∀ x ∈ S, Fits x) :
    Calls Tryz.prog 111 #[.agg #[.pointer a], .int .i64 i, .slice A S.length c] w (RPost w (insTo L i S) (insErr L i S)) := by
  have V1 := Lib.hid (vars2_1 w a)
  have V2 := Lib.hid (vars2_2 w a)
  have VB := Lib.hid (vars2_b w a)
  have HR := Lib.hid (h.below VB.out)
  have OK := Lib.hid ok
  have HS := Lib.hid ((hs.more hB).below VB.out)
  have HF := Lib.hid hf
  clear h ok hs hf
  by_cases c1 : i < 0 ∨ (L.length : Int) < i
  · have KS := Lib.hid (rsplit_bad _ a L HR.out OK.out i c1)
    have hE4 : insErr L i S = 4 := by unfold insErr; rw [if_pos c1]
    unfold insTo
    rw [hE4, if_neg (by decide)]
    clear hE4 c1
    go_enter Tryz.func111, Tryz.ntmps111
    go_wp2_with fail
    obtain ⟨w0, e0⟩ : ∃ w0, w0 = vars2 w a := ⟨_, rfl⟩
    change Calls Tryz.prog _ _ (vars2 w a) _
    rw [← e0] at V1 V2 VB HR KS HS ⊢
    clear e0
    refine (KS.out).mono ?_
    rintro e w1 ⟨a1, a2, rfl, p1, p2, hb⟩
    have X2 := Lib.hid (V2.out.below hb)
    obtain ⟨_, _, hbp⟩ := varsP_all w1 a1 a2
    have X3 := Lib.hid (X2.out.below hbp)
    have d2 := X3.out.c
    have f2 := X3.out.f
    unfold varsP at d2 f2
    have r2 := (X3.out.set (.pointer none)).c
    have H : Hid (RPost w [] 4 (.returned (.tuple #[.agg #[.pointer none], .int .i64 4])) ((varsP w1 a1 a2).setCell ⟨w.heap.size + 1, 0, none⟩ (.pointer none))) := ⟨none, rfl, Rp.nil _, below_set ((VB.out.trans (hb.mono VB.out.size)).trans (hbp.mono (by have := VB.out.size; have := hb.size; omega))) (by omega) _⟩
    clear hb p1 p2 hbp
    unfold varsP at r2 H
    go_wp2_with fail
    exact bodyPost_ret (v := .tuple #[.agg #[.pointer none], .int .i64 4]) (by simp [results, Tryz.results111, go_sem, r2]) rfl H.out
  obtain ⟨k, rfl⟩ : ∃ k : Nat, i = (k : Int) := ⟨i.toNat, by omega⟩
  have hk : k ≤ L.length := by omega
  have KS := Lib.hid (rsplit_ok _ a L HR.out OK.out k hk)
  by_cases c2 : chkL S = 0
  · have OS := Lib.hid (chkL_ok c2).1
    have hJ : insErr L k S = joinErr L S := by unfold insErr; rw [if_neg c1, if_neg (by rw [c2]; decide)]
    unfold insTo
    rw [hJ, Int.toNat_natCast]
    clear hJ c1
    obtain ⟨x, ex⟩ : ∃ x, x = joinErr L S := ⟨_, rfl⟩
    have EX := Lib.hid ex
    have OI := Lib.hid (fun h => insL_ok (joinErr_ok OK.out OS.out h).1 k)
    rw [← ex] at OI
    by_cases c3 : x = 0
    · have RJ := Lib.hid (fun W a b h1 h2 => rjoin_any W a b L S h1 h2 OK.out OS.out)
      rw [← ex, if_pos c3] at RJ ⊢
      subst c3
      have OI2 := Lib.hid (OI.out rfl)
      clear ex OI
      go_enter Tryz.func111, Tryz.ntmps111
      go_wp2_with fail
      obtain ⟨w0, e0⟩ : ∃ w0, w0 = vars2 w a := ⟨_, rfl⟩
      change Calls Tryz.prog _ _ (vars2 w a) _
      rw [← e0] at V1 V2 VB HR KS HS ⊢
      clear e0
      refine (KS.out).mono ?_
      rintro e w1 ⟨a1, a2, rfl, p1, p2, hb⟩
      obtain ⟨q1, q2, hbp⟩ := varsP_all w1 a1 a2
      have hsz := VB.out.size
      have X1 := Lib.hid ((V1.out.below hb).below hbp)
      have X2 := Lib.hid ((V2.out.below hb).below hbp)
      have Z1 := Lib.hid q1
      have Z2 := Lib.hid q2
      have P1 := Lib.hid (p1.below hbp)
      have P2 := Lib.hid (p2.below hbp)
      have BX := Lib.hid (VB.out.trans (hb.mono VB.out.size) |>.trans (hbp.mono (by have := VB.out.size; have := hb.size; omega)))
      have RX := Lib.hid ((HR.out.below hb).below hbp)
      have HX := Lib.hid ((HS.out.below (hb.mono VB.out.size)).below (hbp.mono (by have := VB.out.size; have := hb.size; omega)))
      have lt1 : w.heap.size + 1 < w1.heap.size := by have := World.rowIs.lt V2.out; have := hb.size; omega
      obtain ⟨wP, eP⟩ : ∃ wP, wP = varsP w1 a1 a2 := ⟨_, rfl⟩
      rw [← eP] at X1 X2 Z1 Z2 P1 P2 BX RX HX
      have EP := Lib.hid eP
      have KO := Lib.hid (of_any wP A c _ S HX.out (by have := BX.out.size; omega) hc hm hn HF.out)
      rw [if_pos c2, c2] at KO
      clear hb p1 p2 hbp q1 q2 eP KS HR HS V1 V2 VB c2
      go_wp2_with fail
      change Calls Tryz.prog _ _ (varsP w1 a1 a2) _
      rw [← EP.out]
      refine (KO.out).mono ?_
      rintro e w2 ⟨a3, rfl, p3, hb⟩
      have lt2 : w1.heap.size + 1 < w2.heap.size := by have := World.rowIs.lt Z2.out; have := hb.size; omega
      have hb' := hb.alloc hb.size (.cells #[.pointer a3] 27)
      have Y1 : Hid (Var (w2.alloc (.cells #[.pointer a3] 27)) w.heap.size 27 (.pointer a)) := World.rowIs.alloc (X1.out.below hb) _
      have Y2 : Hid (Var (w2.alloc (.cells #[.pointer a3] 27)) (w.heap.size + 1) 27 (.pointer none)) := World.rowIs.alloc (X2.out.below hb) _
      have Y3 : Hid (Var (w2.alloc (.cells #[.pointer a3] 27)) w2.heap.size 27 (.pointer a3)) := Var.mk _ _ _
      have Y4 : Hid (Var (w2.alloc (.cells #[.pointer a3] 27)) w1.heap.size 27 (.pointer a1)) := World.rowIs.alloc (Z1.out.below hb) _
      have Y5 : Hid (Var (w2.alloc (.cells #[.pointer a3] 27)) (w1.heap.size + 1) 27 (.pointer a2)) := World.rowIs.alloc (Z2.out.below hb) _
      have Q1 := Lib.hid (P1.out.below hb')
      have Q2 := Lib.hid (P2.out.below hb')
      have Q3 := Lib.hid (p3.below ((Below.refl _ w2).alloc (Nat.le_refl _) (.cells #[.pointer a3] 27)))
      have RY := Lib.hid (RX.out.below hb')
      have BY := Lib.hid (BX.out.trans (hb'.mono BX.out.size))
      obtain ⟨wQ, eQ⟩ : ∃ wQ, wQ = w2.alloc (.cells #[.pointer a3] 27) := ⟨_, rfl⟩
      rw [← eQ] at Y1 Y2 Y3 Y4 Y5 Q1 Q2 Q3 RY BY
      have EQ := Lib.hid eQ
      have KJ := Lib.hid (RJ.out wQ a a3 RY.out Q3.out)
      have d1 := Y1.out.c
      have d3 := Y3.out.c
      rw [eQ] at d1 d3
      clear hb hb' p3 eQ KO X1 X2 Z1 Z2 P1 P2 BX RX HX
      go_wp2_with fail
      change Calls Tryz.prog _ _ (w2.alloc _) _
      rw [← EQ.out]
      refine (KJ.out).mono ?_
      rintro e w3 ⟨a4, rfl, p4, hb⟩
      have lt3 : w2.heap.size < w3.heap.size := by have := World.rowIs.lt Y3.out; have := hb.size; omega
      have hb' := hb.alloc hb.size (.cells #[.pointer a4] 27)
      have X2 : Hid (Var (w3.alloc (.cells #[.pointer a4] 27)) (w.heap.size + 1) 27 (.pointer none)) := World.rowIs.alloc (Y2.out.below hb) _
      have X3 : Hid (Var (w3.alloc (.cells #[.pointer a4] 27)) w2.heap.size 27 (.pointer a3)) := World.rowIs.alloc (Y3.out.below hb) _
      have X4 : Hid (Var (w3.alloc (.cells #[.pointer a4] 27)) w1.heap.size 27 (.pointer a1)) := World.rowIs.alloc (Y4.out.below hb) _
      have X5 : Hid (Var (w3.alloc (.cells #[.pointer a4] 27)) (w1.heap.size + 1) 27 (.pointer a2)) := World.rowIs.alloc (Y5.out.below hb) _
      have P1 := Lib.hid (Q1.out.below hb')
      have P2 := Lib.hid (Q2.out.below hb')
      have P3 := Lib.hid (Q3.out.below hb')
      have BX := Lib.hid (BY.out.trans (hb'.mono BY.out.size))
      obtain ⟨wR, eR⟩ : ∃ wR, wR = w3.alloc (.cells #[.pointer a4] 27) := ⟨_, rfl⟩
      rw [← eR] at X2 X3 X4 X5 P1 P2 P3 BX
      have ER := Lib.hid eR
      clear hb hb' p4 eR KJ Y1 Y2 Y3 Y4 Y5 Q1 Q2 Q3 RY BY d1 d3
      go_wp2_with fail
      change Code.wp _ _ _ _ (w3.alloc _)
      rw [← ER.out]
      have n1 : ¬ w1.heap.size = w.heap.size + 1 := by omega
      have n2 : ¬ w1.heap.size = w.heap.size := by omega
      have n3 : ¬ w2.heap.size = w.heap.size + 1 := by omega
      have S0 : Hid (Fr (fun b => b = w.heap.size + 1) wR wR.drew) := (Fr.refl _ _).drawn ⟨1, rfl⟩
      have d4 := X4.out.c
      have d5 := X5.out.c
      have d3 := X3.out.c
      have g4 := World.rowIs.lt X4.out
      have g5 := World.rowIs.lt X5.out
      have g3 := World.rowIs.lt X3.out
      refine wp_region_plan [(false, 0), (false, 1), (false, 2), (false, 3), (false, 5), (false, 6), (true, 4), (true, 7), (false, 8), (true, 9), (false, 10)] (Fr (fun b => b = w.heap.size + 1) wR) (by kernel_rfl) (by kernel_rfl) (S0.out) _ (by simp only [pickH, List.getElem?_toArray, List.getElem?_cons_succ, List.getElem?_cons_zero]; rfl) ?_
      repeat (refine HWalk.step (fun K hK => ?_); first | (apply held_yes; (focus rfl); (focus (intro w' hw; have hc' := fr_cells hw; go_simp; rfl)); (go_simp; refine hK _ ?_; clear hK K)) | (refine ite_no (by decide) ?_; go_simp; refine hK _ ?_; clear hK K))
      clear d3 d4 d5 g3 g4 g5
      refine HWalk.mark ?_
      go_wp2_with fail
      have D0 : Hid (Below wR.heap.size wR wR.drew) := (Below.refl _ _).drew
      have OA := Lib.hid (OI2.out.left)
      refine (put_any wR.drew a1 a3 _ _ (P1.out.below D0.out) (P3.out.below D0.out) OA.out).mono ?_
      rintro e w5 ⟨a5, rfl, p1, hb⟩
      have B5 : Hid (Below wR.heap.size wR w5) := D0.out.trans hb
      have KP := Lib.hid (put_any w5 a5 a2 _ _ p1 (P2.out.below B5.out) OI2.out)
      have S1 := Lib.hid (Fr.of_below (S := fun b => b = w.heap.size + 1) B5.out)
      clear p1 hb
      go_wp2_with fail
      refine ⟨S1.out, ?_⟩
      repeat (refine HWalk.step (fun K hK => ?_); first | (apply held_yes; (focus rfl); (focus (intro w' hw; have hc' := fr_cells hw; go_simp; rfl)); (go_simp; refine hK _ ?_; clear hK K)) | (refine ite_no (by decide) ?_; go_simp; refine hK _ ?_; clear hK K))
      refine HWalk.mark ?_
      go_wp2_with fail
      refine (KP.out).mono ?_
      rintro e w6 ⟨a6, rfl, p1, hb⟩
      have B6 : Hid (Below wR.heap.size wR w6) := B5.out.trans (hb.mono B5.out.size)
      have U2 := Lib.hid (X2.out.below B6.out)
      have d2 := U2.out.c
      have f2 := U2.out.f
      have r2 := (U2.out.set (.pointer a6)).c
      have S2 := Lib.hid (Fr.of_below (S := fun b => b = w.heap.size + 1) B6.out)
      have S3 := Lib.hid (S2.out.setCell (p := ⟨w.heap.size + 1, 0, none⟩) rfl (.pointer a6))
      have H : Hid (RPost w (insL L k S) 0 (.returned (.tuple #[.agg #[.pointer a6], .int .i64 0])) (w6.setCell ⟨w.heap.size + 1, 0, none⟩ (.pointer a6))) := ⟨a6, rfl, p1.set U2.out (by decide) rfl _, below_set (BX.out.trans (B6.out.mono BX.out.size)) (by omega) _⟩
      clear p1 hb KP
      go_wp2_with fail
      refine ⟨S2.out, ?_⟩
      repeat (refine HWalk.step (fun K hK => ?_); first | (apply held_yes; (focus rfl); (focus (intro w' hw; have hc' := fr_cells hw; go_simp; rfl)); (go_simp; refine hK _ ?_; clear hK K)) | (refine ite_no (by decide) ?_; go_simp; refine hK _ ?_; clear hK K))
      refine HWalk.mark ?_
      go_wp2_with fail
      refine ⟨S3.out, ?_⟩
      repeat (refine HWalk.step (fun K hK => ?_); first | (apply held_yes; (focus rfl); (focus (intro w' hw; have hc' := fr_cells hw; go_simp; rfl)); (go_simp; refine hK _ ?_; clear hK K)) | (refine ite_no (by decide) ?_; go_simp; refine hK _ ?_; clear hK K))
      refine HWalk.done ?_
      go_wp2_with fail
      go_wp2_with fail
      exact bodyPost_ret (v := .tuple #[.agg #[.pointer a6], .int .i64 0]) (by simp [results, Tryz.results111, go_sem, r2]) rfl H.out
    · have RJ := Lib.hid (fun W a b h1 h2 => rjoin_any W a b L S h1 h2 OK.out OS.out)
      rw [← ex, if_neg c3] at RJ ⊢
      clear ex OI
      go_enter Tryz.func111, Tryz.ntmps111
      go_wp2_with fail
      obtain ⟨w0, e0⟩ : ∃ w0, w0 = vars2 w a := ⟨_, rfl⟩
      change Calls Tryz.prog _ _ (vars2 w a) _
      rw [← e0] at V1 V2 VB HR KS HS ⊢
      clear e0
      refine (KS.out).mono ?_
      rintro e w1 ⟨a1, a2, rfl, p1, p2, hb⟩
      obtain ⟨q1, q2, hbp⟩ := varsP_all w1 a1 a2
      have hsz := VB.out.size
      have X1 := Lib.hid ((V1.out.below hb).below hbp)
      have X2 := Lib.hid ((V2.out.below hb).below hbp)
      have BX := Lib.hid (VB.out.trans (hb.mono VB.out.size) |>.trans (hbp.mono (by have := VB.out.size; have := hb.size; omega)))
      have RX := Lib.hid ((HR.out.below hb).below hbp)
      have HX := Lib.hid ((HS.out.below (hb.mono VB.out.size)).below (hbp.mono (by have := VB.out.size; have := hb.size; omega)))
      have lt1 : w.heap.size + 1 < w1.heap.size := by have := World.rowIs.lt V2.out; have := hb.size; omega
      obtain ⟨wP, eP⟩ : ∃ wP, wP = varsP w1 a1 a2 := ⟨_, rfl⟩
      rw [← eP] at X1 X2 BX RX HX
      have EP := Lib.hid eP
      have KO := Lib.hid (of_any wP A c _ S HX.out (by have := BX.out.size; omega) hc hm hn HF.out)
      rw [if_pos c2, c2] at KO
      clear hb p1 p2 hbp q1 q2 eP KS HR HS V1 V2 VB c2
      go_wp2_with fail
      change Calls Tryz.prog _ _ (varsP w1 a1 a2) _
      rw [← EP.out]
      refine (KO.out).mono ?_
      rintro e w2 ⟨a3, rfl, p3, hb⟩
      have lt2 : w.heap.size + 1 < w2.heap.size := by have := World.rowIs.lt X2.out; have := hb.size; omega
      have hb' := hb.alloc hb.size (.cells #[.pointer a3] 27)
      have Y1 : Hid (Var (w2.alloc (.cells #[.pointer a3] 27)) w.heap.size 27 (.pointer a)) := World.rowIs.alloc (X1.out.below hb) _
      have Y2 : Hid (Var (w2.alloc (.cells #[.pointer a3] 27)) (w.heap.size + 1) 27 (.pointer none)) := World.rowIs.alloc (X2.out.below hb) _
      have Y3 : Hid (Var (w2.alloc (.cells #[.pointer a3] 27)) w2.heap.size 27 (.pointer a3)) := Var.mk _ _ _
      have Q3 := Lib.hid (p3.below ((Below.refl _ w2).alloc (Nat.le_refl _) (.cells #[.pointer a3] 27)))
      have RY := Lib.hid (RX.out.below hb')
      have BY := Lib.hid (BX.out.trans (hb'.mono BX.out.size))
      obtain ⟨wQ, eQ⟩ : ∃ wQ, wQ = w2.alloc (.cells #[.pointer a3] 27) := ⟨_, rfl⟩
      rw [← eQ] at Y1 Y2 Y3 Q3 RY BY
      have EQ := Lib.hid eQ
      have KJ := Lib.hid (RJ.out wQ a a3 RY.out Q3.out)
      have d1 := Y1.out.c
      have d3 := Y3.out.c
      rw [eQ] at d1 d3
      clear hb hb' p3 eQ KO X1 X2 BX RX HX
      go_wp2_with fail
      change Calls Tryz.prog _ _ (w2.alloc _) _
      rw [← EQ.out]
      refine (KJ.out).mono ?_
      rintro e w3 ⟨a4, rfl, p4, hb⟩
      have hb' := hb.alloc hb.size (.cells #[.pointer a4] 27)
      have X2 : Hid (Var (w3.alloc (.cells #[.pointer a4] 27)) (w.heap.size + 1) 27 (.pointer none)) := World.rowIs.alloc (Y2.out.below hb) _
      have BX := Lib.hid (BY.out.trans (hb'.mono BY.out.size))
      have d2 := X2.out.c
      have f2 := X2.out.f
      have r2 := (X2.out.set (.pointer none)).c
      have H : Hid (RPost w [] x (.returned (.tuple #[.agg #[.pointer none], .int .i64 x])) ((w3.alloc (.cells #[.pointer a4] 27)).setCell ⟨w.heap.size + 1, 0, none⟩ (.pointer none))) := ⟨none, rfl, Rp.nil _, below_set BX.out (by omega) _⟩
      clear hb hb' p4 KJ Y1 Y2 Y3 Q3 RY BY d1 d3
      go_wp2_with fail
      exact bodyPost_ret (v := .tuple #[.agg #[.pointer none], .int .i64 x]) (by simp [results, Tryz.results111, go_sem, r2]) rfl (by first | exact H.out | (rw [← EX.out]; exact H.out))
  · have hE : insErr L k S = chkL S := by unfold insErr; rw [if_neg c1, if_pos c2]
    unfold insTo
    rw [hE, if_neg c2]
    clear hE c1
    go_enter Tryz.func111, Tryz.ntmps111
    go_wp2_with fail
    obtain ⟨w0, e0⟩ : ∃ w0, w0 = vars2 w a := ⟨_, rfl⟩
    change Calls Tryz.prog _ _ (vars2 w a) _
    rw [← e0] at V1 V2 VB HR KS HS ⊢
    clear e0
    refine (KS.out).mono ?_
    rintro e w1 ⟨a1, a2, rfl, p1, p2, hb⟩
    obtain ⟨q1, q2, hbp⟩ := varsP_all w1 a1 a2
    have X2 := Lib.hid ((V2.out.below hb).below hbp)
    have BX := Lib.hid (VB.out.trans (hb.mono VB.out.size) |>.trans (hbp.mono (by have := VB.out.size; have := hb.size; omega)))
    have HX := Lib.hid ((HS.out.below (hb.mono VB.out.size)).below (hbp.mono (by have := VB.out.size; have := hb.size; omega)))
    obtain ⟨wP, eP⟩ : ∃ wP, wP = varsP w1 a1 a2 := ⟨_, rfl⟩
    rw [← eP] at X2 BX HX
    have EP := Lib.hid eP
    have KO := Lib.hid (of_any wP A c _ S HX.out (by have := BX.out.size; omega) hc hm hn HF.out)
    rw [if_neg c2] at KO
    obtain ⟨x, ex⟩ : ∃ x, x = chkL S := ⟨_, rfl⟩
    have EX := Lib.hid ex
    rw [← ex] at KO c2 ⊢
    clear hb p1 p2 hbp q1 q2 eP ex KS
    go_wp2_with fail
    change Calls Tryz.prog _ _ (varsP w1 a1 a2) _
    rw [← EP.out]
    refine (KO.out).mono ?_
    rintro e w2 ⟨a3, rfl, p1, hb⟩
    have Y2 : Hid (Var (w2.alloc (.cells #[.pointer a3] 27)) (w.heap.size + 1) 27 (.pointer none)) := World.rowIs.alloc (X2.out.below hb) _
    have BY := Lib.hid ((BX.out.trans (hb.mono BX.out.size)).alloc (by have := BX.out.size; have := hb.size; omega) (.cells #[.pointer a3] 27))
    have d2 := Y2.out.c
    have f2 := Y2.out.f
    have r2 := (Y2.out.set (.pointer none)).c
    have H : Hid (RPost w [] x (.returned (.tuple #[.agg #[.pointer none], .int .i64 x])) ((w2.alloc (.cells #[.pointer a3] 27)).setCell ⟨w.heap.size + 1, 0, none⟩ (.pointer none))) := ⟨none, rfl, Rp.nil _, below_set BY.out (by omega) _⟩
    clear hb p1 KO
    go_wp2_with fail
    exact bodyPost_ret (v := .tuple #[.agg #[.pointer none], .int .i64 x]) (by simp [results, Tryz.results111, go_sem, r2]) rfl (by rw [← EX.out]; exact H.out)
end Go.Proofs.YtfmfmeiaekknbaaGreat
end

section
/-
  Contracts of package ropes, eleventh: find, At.
-/
namespace Go.Proofs.YtfmfmeiaekknbaaGreat
open Go.RowKit
set_option linter.unusedVariables false
set_option linter.unusedSimpArgs false

theorem lf_l_lt {l r : T} {s : Int} {k : Nat} (h : k < l.l.length) : lf (T.node l s r).l k = lf l.l k := by
  unfold lf; rw [T.l_node, List.getD_eq_getElem?_getD, List.getD_eq_getElem?_getD, List.getElem?_append_left h]
theorem lf_l_mid {l r : T} {s : Int} : lf (T.node l s r).l l.l.length = s := by
  unfold lf; rw [T.l_node, List.getD_eq_getElem?_getD, List.getElem?_append_right (Nat.le_refl _)]; simp
theorem lf_l_gt {l r : T} {s : Int} {k : Nat} (h : l.l.length < k) : lf (T.node l s r).l k = lf r.l (k - l.l.length - 1) := by
  unfold lf
  rw [T.l_node, List.getD_eq_getElem?_getD, List.getD_eq_getElem?_getD, List.getElem?_append_right (by omega)]
  obtain ⟨m, rfl⟩ : ∃ m, k = l.l.length + 1 + m := ⟨k - l.l.length - 1, by omega⟩
  rw [show l.l.length + 1 + m - l.l.length = m + 1 from by omega, show m + 1 - 1 = m from by omega, List.getElem?_cons_succ]
def FindPost (w : World) (x : Int) (e : Ending) (w' : World) : Prop := (∃ b, e = .returned (.pointer (some ⟨b, 0, none⟩)) ∧ w.cell? ⟨b, 2, none⟩ = some (.int .i64 x)) ∧ w = w'
set_option maxRecDepth 100000 in
set_option maxHeartbeats 800000 in
theorem find_tr (t : T) : ∀ (w : World) (a : Option Addr) (k : Nat), Tr w a t → t.l.length ≤ 8192 → k < t.l.length → ∀ x : Int, x = (k : Int) → Calls Tryz.prog 112 #[.pointer a, .int .i64 x] w (FindPost w (lf t.l k)) := by
  induction t with
  | nil => intro w a k _ _ hk; exact absurd hk (by simp [T.l])
  | node l s r ihl ihr =>
    intro w a k h hb hk x hx
    obtain ⟨b, al, ar, rfl, hr, h1, h2⟩ := h
    obtain ⟨c0, c1, c2, c3, c4, c5⟩ := ncells_of hr
    have el : (T.node l s r).l.length = l.l.length + (r.l.length + 1) := by rw [T.l_node]; simp
    rw [el] at hk hb
    have C := Lib.hid (count_any w al l h1)
    rcases Nat.lt_trichotomy k l.l.length with c | c | c
    · have K := Lib.hid (ihl w al k h1 (by omega) c x hx)
      rw [lf_l_lt c]
      obtain ⟨n, hn⟩ : ∃ n, n = l.l.length := ⟨_, rfl⟩
      rw [← hn] at C c
      subst hx
      clear hr c3 c4 c5 hn ihl ihr el hk h1 h2
      go_enter Tryz.func112, Tryz.ntmps112
      go_wp2_with fail
      refine (C.out).mono ?_
      rintro e w' ⟨rfl, rfl⟩
      go_wp2_with fail
      refine (K.out).mono ?_
      rintro e w' ⟨⟨b', rfl, g⟩, rfl⟩
      go_wp2_with fail
      go_ret
      exact ⟨⟨b', rfl, g⟩, rfl⟩
    · subst c
      rw [lf_l_mid]
      obtain ⟨n, hn⟩ : ∃ n, n = l.l.length := ⟨_, rfl⟩
      rw [← hn] at C hx
      subst hx
      clear hr c3 c4 c5 hn ihl ihr el hk h1 h2
      go_enter Tryz.func112, Tryz.ntmps112
      go_wp2_with fail
      refine (C.out).mono ?_
      rintro e w' ⟨rfl, rfl⟩
      go_wp2_with fail
      go_ret
      exact ⟨⟨b, rfl, c2⟩, rfl⟩
    · have K := Lib.hid (ihr w ar (k - l.l.length - 1) h2 (by omega) (by omega) ((k : Int) - (l.l.length : Int) - 1) (by omega))
      rw [lf_l_gt c]
      obtain ⟨n, hn⟩ : ∃ n, n = l.l.length := ⟨_, rfl⟩
      rw [← hn] at C c K ⊢
      subst hx
      clear hr c3 c4 c5 hn ihl ihr el h1 h2
      go_enter Tryz.func112, Tryz.ntmps112
      go_wp2_with fail
      refine (C.out).mono ?_
      rintro e w' ⟨rfl, rfl⟩
      go_wp2_with fail
      refine (K.out).mono ?_
      rintro e w' ⟨⟨b', rfl, g⟩, rfl⟩
      go_wp2_with fail
      go_ret
      exact ⟨⟨b', rfl, g⟩, rfl⟩

def atErr (L : List Int) (x : Int) : Int := if x < 0 ∨ (L.length : Int) ≤ x then 4 else 0
def atVal (L : List Int) (x : Int) : Int := if x < 0 ∨ (L.length : Int) ≤ x then 0 else lf L x.toNat
set_option maxRecDepth 100000 in
set_option maxHeartbeats 800000 in
theorem rat_any (w : World) (a : Option Addr) (L : List Int) (h : Rp w a L) (hl : L.length ≤ 8192) (x : Int) (hx : Fits x) :
    Calls Tryz.prog 48 #[.agg #[.pointer a], .int .i64 x] w fun e w' => e = .returned (.tuple #[.int .i64 (atVal L x), .int .i64 (atErr L x)]) ∧ Below w.heap.size w w' := by
  have B : Hid (Below w.heap.size w (w.alloc (.cells #[.pointer a] 27))) := (Below.refl _ w).alloc (Nat.le_refl _) _
  have C := Lib.hid (rlen_any _ a L (h.below B.out))
  obtain ⟨t, h1, _, rfl⟩ := h
  have HT := Lib.hid (h1.below B.out)
  clear h1
  by_cases c0 : x < 0
  · have e1 : atVal t.l x = 0 := by unfold atVal; rw [if_pos (.inl c0)]
    have e2 : atErr t.l x = 4 := by unfold atErr; rw [if_pos (.inl c0)]
    rw [e1, e2]
    clear e1 e2
    go_enter Tryz.func48, Tryz.ntmps48
    go_wp2_with fail
    go_ret2
    exact ⟨rfl, B.out⟩
  obtain ⟨k, rfl⟩ : ∃ k : Nat, x = (k : Int) := ⟨x.toNat, by omega⟩
  by_cases c1 : t.l.length ≤ k
  · have e1 : atVal t.l k = 0 := by unfold atVal; rw [if_pos (.inr (by omega))]
    have e2 : atErr t.l k = 4 := by unfold atErr; rw [if_pos (.inr (by omega))]
    rw [e1, e2]
    obtain ⟨n, hn⟩ : ∃ n, n = t.l.length := ⟨_, rfl⟩
    rw [← hn] at C c1 hl
    clear e1 e2 HT hn
    go_enter Tryz.func48, Tryz.ntmps48
    go_wp2_with fail
    refine (C.out).mono ?_
    rintro e w1 ⟨rfl, hb⟩
    have H := Lib.hid (B.out.trans (hb.mono B.out.size))
    clear hb
    go_wp2_with fail
    go_ret2
    exact ⟨rfl, H.out⟩
  · have e1 : atVal t.l k = lf t.l k := by unfold atVal; rw [if_neg (by omega), Int.toNat_natCast]
    have e2 : atErr t.l k = 0 := by unfold atErr; rw [if_neg (by omega)]
    rw [e1, e2]
    have K : Hid (∀ W, Tr W a t → Calls Tryz.prog 112 #[.pointer a, .int .i64 k] W (FindPost W (lf t.l k))) := fun W hW => find_tr t W a k hW hl (by omega) k rfl
    obtain ⟨n, hn⟩ : ∃ n, n = t.l.length := ⟨_, rfl⟩
    obtain ⟨v, hv⟩ : ∃ v, v = lf t.l k := ⟨_, rfl⟩
    rw [← hv] at K ⊢
    rw [← hn] at C c1 hl
    clear e1 e2 hn hv
    go_enter Tryz.func48, Tryz.ntmps48
    go_wp2_with fail
    refine (C.out).mono ?_
    rintro e w1 ⟨rfl, hb⟩
    have H := Lib.hid (B.out.trans (hb.mono B.out.size))
    have d1 := (World.rowIs.of_block (Var.mk w 27 (.pointer a)) (hb.block _ (by rw [World.size_alloc]; omega))).cell (i := 0) (by omega)
    have HT1 := Lib.hid (HT.out.below hb)
    clear hb
    go_wp2_with fail
    refine (K.out w1 HT1.out).mono ?_
    rintro e w2 ⟨⟨b, rfl, g⟩, rfl⟩
    go_wp2_with fail
    go_ret2
    exact ⟨rfl, H.out⟩
end Go.Proofs.YtfmfmeiaekknbaaGreat
end

section
/-
  Contracts of package ropes, twelfth: Set.
-/
namespace Go.Proofs.YtfmfmeiaekknbaaGreat
open Go.RowKit
set_option linter.unusedVariables false
set_option linter.unusedSimpArgs false

def rsetErr (L : List Int) (i v : Int) : Int := if i < 0 ∨ (L.length : Int) ≤ i then 4 else if v < 0 ∨ 2305843009213693952 < v then 12 else if 4611686018427387904 - (L.sum - lf L i.toNat) < v then 13 else 0
def rsetL (L : List Int) (k : Nat) (v : Int) : List Int := L.take k ++ v :: L.drop (k + 1)
def rsetTo (L : List Int) (i v : Int) : List Int := if rsetErr L i v = 0 then rsetL L i.toNat v else []
theorem rset_sum {L : List Int} {k : Nat} (h : k < L.length) (v : Int) : (rsetL L k v).sum = L.sum - lf L k + v := by
  have e : L = L.take k ++ (L[k] :: L.drop (k + 1)) := by rw [← List.drop_eq_getElem_cons h, List.take_append_drop]
  have es := congrArg List.sum e
  rw [List.sum_append, List.sum_cons] at es
  rw [lf_get L h]
  unfold rsetL
  rw [List.sum_append, List.sum_cons]
  omega
theorem rset_len {L : List Int} {k : Nat} (h : k < L.length) (v : Int) : (rsetL L k v).length = L.length := by
  unfold rsetL; simp; omega
theorem rset_ok {L : List Int} (ok : LOk L) {k : Nat} (h : k < L.length) {v : Int} (h0 : 0 ≤ v) (h1 : L.sum - lf L k + v ≤ 4611686018427387904) : LOk (rsetL L k v) := by
  refine ⟨fun x hx => ?_, by rw [rset_len h]; exact ok.len, by rw [rset_sum h]; omega⟩
  unfold rsetL at hx
  rcases List.mem_append.1 hx with h | h
  · exact ok.nn x (List.mem_of_mem_take h)
  · rcases List.mem_cons.1 h with h | h
    · omega
    · exact ok.nn x (List.mem_of_mem_drop h)
theorem lf_le_sum {L : List Int} (ok : LOk L) (k : Nat) (h : k < L.length) : 0 ≤ lf L k ∧ lf L k ≤ L.sum := by
  have e : L = L.take k ++ (L[k] :: L.drop (k + 1)) := by rw [← List.drop_eq_getElem_cons h, List.take_append_drop]
  have es := congrArg List.sum e
  rw [List.sum_append, List.sum_cons] at es
  have h1 := sum_nn (fun x (hx : x ∈ L.take k) => ok.nn x (List.mem_of_mem_take hx))
  have h2 := sum_nn (fun x (hx : x ∈ L.drop (k + 1)) => ok.nn x (List.mem_of_mem_drop hx))
  have h3 := ok.nn _ (List.getElem_mem h)
  rw [lf_get L h]
  omega

set_option maxRecDepth 100000 in
set_option maxHeartbeats 3200000 in
theorem rset_any (w : World) (a : Option Addr) (L : List Int) (h : Rp w a L) (ok : LOk L) (i v : Int) (fi : Fits i) (fv : Fits v) :
    Calls Tryz.prog 124 #[.agg #[.pointer a], .int .i64 i, .int .i64 v] w (RPost w (rsetTo L i v) (rsetErr L i v)) := by
  have V1 := Lib.hid (vars2_1 w a)
  have V2 := Lib.hid (vars2_2 w a)
  have VB := Lib.hid (vars2_b w a)
  have HR := Lib.hid (h.below VB.out)
  have OK := Lib.hid ok
  have hl := ok.len
  have hs0 := ok.sum0
  have hs1 := ok.top
  obtain ⟨fv1, fv2⟩ := fv
  have KA := Lib.hid (rat_any _ a L HR.out hl i fi)
  clear h ok
  by_cases c1 : i < 0 ∨ (L.length : Int) ≤ i
  · have hE4 : rsetErr L i v = 4 := by unfold rsetErr; rw [if_pos c1]
    have e1 : atVal L i = 0 := by unfold atVal; rw [if_pos c1]
    have e2 : atErr L i = 4 := by unfold atErr; rw [if_pos c1]
    unfold rsetTo
    rw [hE4, if_neg (by decide)]
    rw [e1, e2] at KA
    clear hE4 c1 e1 e2
    go_enter Tryz.func124, Tryz.ntmps124
    go_wp2_with fail
    obtain ⟨w0, e0⟩ : ∃ w0, w0 = vars2 w a := ⟨_, rfl⟩
    change Calls Tryz.prog _ _ (vars2 w a) _
    rw [← e0] at V1 V2 VB HR KA ⊢
    clear e0
    refine (KA.out).mono ?_
    rintro e w1 ⟨rfl, hb⟩
    have X2 := Lib.hid (V2.out.below hb)
    have d2 := X2.out.c
    have f2 := X2.out.f
    have r2 := (X2.out.set (.pointer none)).c
    have H : Hid (RPost w [] 4 (.returned (.tuple #[.agg #[.pointer none], .int .i64 4])) (w1.setCell ⟨w.heap.size + 1, 0, none⟩ (.pointer none))) := ⟨none, rfl, Rp.nil _, below_set (VB.out.trans (hb.mono VB.out.size)) (by omega) _⟩
    clear hb
    go_wp2_with fail
    exact bodyPost_ret (v := .tuple #[.agg #[.pointer none], .int .i64 4]) (by simp [results, Tryz.results124, go_sem, r2]) rfl H.out
  obtain ⟨k, rfl⟩ : ∃ k : Nat, i = (k : Int) := ⟨i.toNat, by omega⟩
  have hk : k < L.length := by omega
  have e1 : atVal L k = lf L k := by unfold atVal; rw [if_neg c1, Int.toNat_natCast]
  have e2 : atErr L k = 0 := by unfold atErr; rw [if_neg c1]
  rw [e1, e2] at KA
  clear e1 e2
  have hE : rsetErr L k v = if v < 0 ∨ 2305843009213693952 < v then 12 else if 4611686018427387904 - (L.sum - lf L k) < v then 13 else 0 := by unfold rsetErr; rw [if_neg c1, Int.toNat_natCast]
  by_cases c2 : v < 0 ∨ 2305843009213693952 < v
  · unfold rsetTo
    rw [hE, if_pos c2, if_neg (by decide)]
    obtain ⟨y, hy⟩ : ∃ y, y = lf L k := ⟨_, rfl⟩
    rw [← hy] at KA
    clear hE hy
    go_enter Tryz.func124, Tryz.ntmps124
    go_wp2_with fail
    obtain ⟨w0, e0⟩ : ∃ w0, w0 = vars2 w a := ⟨_, rfl⟩
    change Calls Tryz.prog _ _ (vars2 w a) _
    rw [← e0] at V1 V2 VB HR KA ⊢
    clear e0
    refine (KA.out).mono ?_
    rintro e w1 ⟨rfl, hb⟩
    have X2 := Lib.hid (V2.out.below hb)
    have d2 := X2.out.c
    have f2 := X2.out.f
    have r2 := (X2.out.set (.pointer none)).c
    have H : Hid (RPost w [] 12 (.returned (.tuple #[.agg #[.pointer none], .int .i64 12])) (w1.setCell ⟨w.heap.size + 1, 0, none⟩ (.pointer none))) := ⟨none, rfl, Rp.nil _, below_set (VB.out.trans (hb.mono VB.out.size)) (by omega) _⟩
    clear hb
    go_wp2_with fail
    all_goals exact bodyPost_ret (v := .tuple #[.agg #[.pointer none], .int .i64 12]) (by simp [results, Tryz.results124, go_sem, r2]) rfl H.out
  rw [if_neg c2] at hE
  have hy := lf_le_sum OK.out k hk
  have SO := Lib.hid (fun h => rset_ok OK.out hk (v := v) (by omega) h)
  have LX := Lib.hid (fun W (h : Rp W a L) => rtotal_any W a L h)
  have hdrop : (L.drop k).drop 1 = L.drop (k + 1) := by rw [List.drop_drop]
  have hd1 : 1 ≤ (L.drop k).length := by rw [List.length_drop]; omega
  have SA := Lib.hid (fun W (h : Rp W a L) => split_any W a L k k h OK.out (by omega) rfl)
  have SB := Lib.hid (fun W b (h : Rp W b (L.drop k)) => split_any W b (L.drop k) 1 1 h (by have := OK.out; rw [← List.take_append_drop k L] at this; exact this.right) hd1 rfl)
  rw [hdrop] at SB
  clear hdrop hd1
  obtain ⟨y, ey⟩ : ∃ y, y = lf L k := ⟨_, rfl⟩
  obtain ⟨tt, et⟩ : ∃ t, t = L.sum := ⟨_, rfl⟩
  rw [← ey, ← et] at hy hE SO
  rw [← ey] at KA
  rw [← et] at hs0 hs1 LX
  by_cases c3 : 4611686018427387904 - (tt - y) < v
  · rw [if_pos c3] at hE
    unfold rsetTo
    rw [hE, if_neg (by decide)]
    clear hE ey et SA SB SO
    go_enter Tryz.func124, Tryz.ntmps124
    go_wp2_with fail
    obtain ⟨w0, e0⟩ : ∃ w0, w0 = vars2 w a := ⟨_, rfl⟩
    change Calls Tryz.prog _ _ (vars2 w a) _
    rw [← e0] at V1 V2 VB HR KA ⊢
    clear e0
    refine (KA.out).mono ?_
    rintro e w1 ⟨rfl, hb⟩
    have X1 := Lib.hid (V1.out.below hb)
    have X2 := Lib.hid (V2.out.below hb)
    have BX := Lib.hid (VB.out.trans (hb.mono VB.out.size))
    have KT := Lib.hid (LX.out w1 (HR.out.below hb))
    have d1 := X1.out.c
    clear hb
    go_wp2_with fail
    refine (KT.out).mono ?_
    rintro e w2 ⟨rfl, hb⟩
    have Y2 := Lib.hid (X2.out.below hb)
    have BY := Lib.hid (BX.out.trans (hb.mono BX.out.size))
    have d2 := Y2.out.c
    have f2 := Y2.out.f
    have r2 := (Y2.out.set (.pointer none)).c
    have H : Hid (RPost w [] 13 (.returned (.tuple #[.agg #[.pointer none], .int .i64 13])) (w2.setCell ⟨w.heap.size + 1, 0, none⟩ (.pointer none))) := ⟨none, rfl, Rp.nil _, below_set BY.out (by omega) _⟩
    clear hb d1
    go_wp2_with fail
    exact bodyPost_ret (v := .tuple #[.agg #[.pointer none], .int .i64 13]) (by simp [results, Tryz.results124, go_sem, r2]) rfl H.out
  · rw [if_neg c3] at hE
    unfold rsetTo
    rw [hE, if_pos rfl, Int.toNat_natCast]
    have SO2 := Lib.hid (SO.out (by omega))
    clear hE ey et SO
    go_enter Tryz.func124, Tryz.ntmps124
    go_wp2_with fail
    obtain ⟨w0, e0⟩ : ∃ w0, w0 = vars2 w a := ⟨_, rfl⟩
    change Calls Tryz.prog _ _ (vars2 w a) _
    rw [← e0] at V1 V2 VB HR KA ⊢
    clear e0
    refine (KA.out).mono ?_
    rintro e w1 ⟨rfl, hb⟩
    have X1 := Lib.hid (V1.out.below hb)
    have X2 := Lib.hid (V2.out.below hb)
    have BX := Lib.hid (VB.out.trans (hb.mono VB.out.size))
    have RX := Lib.hid (HR.out.below hb)
    have KT := Lib.hid (LX.out w1 RX.out)
    have d1 := X1.out.c
    clear hb
    go_wp2_with fail
    refine (KT.out).mono ?_
    rintro e w2 ⟨rfl, hb⟩
    have Y1 := Lib.hid (X1.out.below hb)
    have Y2 := Lib.hid (X2.out.below hb)
    have BY := Lib.hid (BX.out.trans (hb.mono BX.out.size))
    have KS := Lib.hid (SA.out w2 (RX.out.below hb))
    have d2 := Y1.out.c
    clear hb d1 X1 X2 BX RX
    go_wp2_with fail
    refine (KS.out).mono ?_
    rintro e w3 ⟨a1, a2, rfl, p1, p2, hb⟩
    have X2 := Lib.hid (Y2.out.below hb)
    have BX := Lib.hid (BY.out.trans (hb.mono BY.out.size))
    have P1 := Lib.hid p1
    have KS2 := Lib.hid (SB.out w3 a2 p2)
    clear hb p1 p2 d2 Y1 Y2 BY KS
    go_wp2_with fail
    refine (KS2.out).mono ?_
    rintro e w4 ⟨a3, a4, rfl, p1, p2, hb⟩
    have Y2 := Lib.hid (X2.out.below hb)
    have BY := Lib.hid (BX.out.trans (hb.mono BX.out.size))
    have KJ := Lib.hid (joinRp w4 a1 a4 (L.take k) (L.drop (k + 1)) v (P1.out.below hb) p2 SO2.out)
    clear hb p1 p2 X2 BX KS2
    go_wp2_with fail
    refine (KJ.out).mono ?_
    rintro e w5 ⟨a5, rfl, p1, hb⟩
    have X2 := Lib.hid (Y2.out.below hb)
    have d2 := X2.out.c
    have f2 := X2.out.f
    have r2 := (X2.out.set (.pointer a5)).c
    have H : Hid (RPost w (rsetL L k v) 0 (.returned (.tuple #[.agg #[.pointer a5], .int .i64 0])) (w5.setCell ⟨w.heap.size + 1, 0, none⟩ (.pointer a5))) := ⟨a5, rfl, p1.set X2.out (by decide) rfl _, below_set (BY.out.trans (hb.mono BY.out.size)) (by omega) _⟩
    clear hb p1
    go_wp2_with fail
    exact bodyPost_ret (v := .tuple #[.agg #[.pointer a5], .int .i64 0]) (by simp [results, Tryz.results124, go_sem, r2]) rfl H.out
end Go.Proofs.YtfmfmeiaekknbaaGreat
end

section
/-
  Contracts of package ropes, thirteenth: Sum.
-/
namespace Go.Proofs.YtfmfmeiaekknbaaGreat
open Go.RowKit
set_option linter.unusedVariables false
set_option linter.unusedSimpArgs false

/-- How many sizes a node says that it has. -/
def cntOf (w : World) (v : Value) : Nat := match v with
  | .pointer (some p) => match w.cell? ⟨p.block, 3, none⟩ with
    | some u => (intOf u).toNat
    | none => 0
  | _ => 0
theorem cntOf_tr {w : World} {a : Option Addr} {t : T} (h : Tr w a t) : cntOf w (.pointer a) = t.l.length := by
  cases t with
  | nil =>
    obtain rfl : a = none := h
    rfl
  | node l s r =>
    obtain ⟨b, al, ar, rfl, hr, _, _⟩ := h
    obtain ⟨_, _, _, c3, _, _⟩ := ncells_of hr
    simp only [cntOf, c3]
    simp [intOf]
theorem take_l_le {l r : T} {s : Int} {m : Nat} (h : m ≤ l.l.length) : (T.node l s r).l.take m = l.l.take m := by
  rw [T.l_node, List.take_append_of_le_length h]
theorem take_l_gt {l r : T} {s : Int} {q : Nat} : ((T.node l s r).l.take (l.l.length + 1 + q)).sum = l.l.sum + s + (r.l.take q).sum := by
  rw [T.l_node, show l.l.length + 1 + q = l.l.length + (1 + q) from by omega, List.take_length_add_append, show 1 + q = q + 1 from by omega, List.take_succ_cons, List.sum_append, List.sum_cons]; omega
end Go.Proofs.YtfmfmeiaekknbaaGreat
end

section
/-
  Contracts of package ropes, fourteenth: Find.
-/
namespace Go.Proofs.YtfmfmeiaekknbaaGreat
open Go.RowKit
set_option linter.unusedVariables false
set_option linter.unusedSimpArgs false

/-- The place of an offset in a list. -/
def Place (L : List Int) (y : Int) (j : Nat) (rest : Int) : Prop := j < L.length ∧ (L.take j).sum ≤ y ∧ y < (L.take (j + 1)).sum ∧ y - (L.take j).sum = rest
theorem sum_take_le {L : List Int} (h : ∀ x ∈ L, 0 ≤ x) (k : Nat) : (L.take k).sum ≤ L.sum := by
  have e := congrArg List.sum (List.take_append_drop k L)
  rw [List.sum_append] at e
  have := sum_nn (fun x (hx : x ∈ L.drop k) => h x (List.mem_of_mem_drop hx))
  omega
theorem Place.left {l r : T} {s y rest : Int} {j : Nat} (ok : LOk (T.node l s r).l) (h : Place (T.node l s r).l y j rest) (hy : y < l.l.sum) : Place l.l y j rest := by
  obtain ⟨h1, h2, h3, h4⟩ := h
  have hj : j < l.l.length := by
    rcases Nat.lt_or_ge j l.l.length with c | c
    · exact c
    · exfalso
      have e : (l.l ++ s :: r.l).take j = l.l ++ (s :: r.l).take (j - l.l.length) := by rw [List.take_append]; rw [List.take_of_length_le c]
      rw [T.l_node, e, List.sum_append] at h2
      rw [T.l_node] at ok
      have := (ok.right.take (j - l.l.length)).sum0
      omega
  rw [take_l_le (by omega)] at h2 h4
  rw [take_l_le (by omega)] at h3
  exact ⟨hj, h2, h3, h4⟩
theorem Place.mid {l r : T} {s y rest : Int} {j : Nat} (ok : LOk (T.node l s r).l) (h : Place (T.node l s r).l y j rest) (h0 : l.l.sum ≤ y) (h1 : y < l.l.sum + s) : j = l.l.length ∧ y - l.l.sum = rest := by
  obtain ⟨g1, g2, g3, g4⟩ := h
  rw [T.l_node] at ok
  rcases Nat.lt_trichotomy j l.l.length with c | c | c
  · exfalso
    rw [take_l_le (by omega)] at g3
    have := sum_take_le ok.left.nn (j + 1)
    omega
  · subst c
    rw [take_l_le (Nat.le_refl _), List.take_length] at g4
    exact ⟨rfl, g4⟩
  · exfalso
    obtain ⟨q, rfl⟩ : ∃ q, j = l.l.length + 1 + q := ⟨j - l.l.length - 1, by omega⟩
    rw [take_l_gt] at g2
    have := sum_nn (fun x (hx : x ∈ r.l.take q) => ok.right.nn x (by have := List.mem_of_mem_take hx; simp [this]))
    omega
theorem Place.right {l r : T} {s y rest : Int} {j : Nat} (ok : LOk (T.node l s r).l) (h : Place (T.node l s r).l y j rest) (h1 : l.l.sum + s ≤ y) : ∃ q, j = l.l.length + 1 + q ∧ Place r.l (y - (l.l.sum + s)) q rest := by
  obtain ⟨g1, g2, g3, g4⟩ := h
  have hn := ok.nn
  rw [T.l_node] at ok
  have hs0 : 0 ≤ s := ok.nn s (by simp)
  rcases Nat.lt_or_ge l.l.length j with c | c
  · obtain ⟨q, rfl⟩ : ∃ q, j = l.l.length + 1 + q := ⟨j - l.l.length - 1, by omega⟩
    refine ⟨q, rfl, ?_⟩
    rw [take_l_gt] at g2 g4
    rw [show l.l.length + 1 + q + 1 = l.l.length + 1 + (q + 1) from by omega, take_l_gt] at g3
    rw [T.l_node] at g1
    simp at g1
    exact ⟨by omega, by omega, by omega, by omega⟩
  · exfalso
    have : ((T.node l s r).l.take (j + 1)).sum ≤ ((T.node l s r).l.take (l.l.length + 1 + 0)).sum := by
      have e := sum_take_le (L := (T.node l s r).l.take (l.l.length + 1 + 0)) (fun x hx => hn x (List.mem_of_mem_take hx)) (j + 1)
      rwa [List.take_take, Nat.min_eq_left (by omega)] at e
    rw [take_l_gt] at this
    simp at this
    omega

set_option maxRecDepth 100000 in
set_option maxHeartbeats 1600000 in
theorem rfind_ok (w : World) (a : Option Addr) (L : List Int) (h : Rp w a L) (ok : LOk L) (x : Int) (I : Nat) (rest : Int) (hp : Place L x I rest) (hx0 : 0 ≤ x) (hx1 : x < L.sum) :
    Calls Tryz.prog 18 #[.agg #[.pointer a], .int .i64 x] w fun e w' => e = .returned (.tuple #[.int .i64 I, .int .i64 rest, .int .i64 0]) ∧ Below w.heap.size w w' := by
  have B : Hid (Below w.heap.size w (w.alloc (.cells #[.pointer a] 27))) := (Below.refl _ w).alloc (Nat.le_refl _) _
  have hl := ok.len
  have hs1 := ok.top
  have C := Lib.hid (rtotal_any _ a L (h.below B.out))
  obtain ⟨t, h1, _, rfl⟩ := h
  have HT := Lib.hid (h1.below B.out)
  have hI : I ≤ 8192 := by have := hp.1; omega
  have HP := Lib.hid hp
  have OK := Lib.hid ok
  clear h1 hp ok
  obtain ⟨n, hn⟩ : ∃ n, n = t.l.sum := ⟨_, rfl⟩
  rw [← hn] at C hx1 hs1
  have HN := Lib.hid hn
  clear hn hl
  go_enter Tryz.func18, Tryz.ntmps18
  go_wp2_with fail
  refine (C.out).mono ?_
  rintro e w1 ⟨rfl, hb⟩
  have H := Lib.hid (B.out.trans (hb.mono B.out.size))
  have d1 := (World.rowIs.of_block (Var.mk w 27 (.pointer a)) (hb.block _ (by rw [World.size_alloc]; omega))).cell (i := 0) (by omega)
  have HT1 := Lib.hid (HT.out.below hb)
  clear hb HT C
  go_wp2_with fail
  clear d1
  go_loopw [4, 5, 7] (fun i s p wr => ∃ (c : Nat) (y : Int) (a' : Option Addr) (u : T) (j : Nat), i = .int .i64 c ∧ s = .int .i64 y ∧ p = .pointer a' ∧ c + j = I ∧ 0 ≤ y ∧ y ≤ 4611686018427387904 ∧ Hid (Tr wr a' u ∧ LOk u.l ∧ Place u.l y j rest) ∧ Hid (Below w.heap.size w wr)) (fun _ _ p wr => cntOf wr p)
  case atStart => exact ⟨0, x, a, t, I, rfl, rfl, rfl, by omega, by omega, by omega, ⟨HT1.out, OK.out, HP.out⟩, H.out⟩
  case round =>
    obtain ⟨c, y, a', u, j, rfl, rfl, rfl, hcj, hy0, hy1, hU, hB⟩ := hrel
    clear HT1 H OK HP HN
    obtain ⟨u1, u2, u3⟩ := hU.out
    clear hU
    cases u with
    | nil => exact absurd u3.1 (by simp [T.l])
    | node l s r =>
      have M := Lib.hid (cntOf_tr u1)
      obtain ⟨b, al, ar, rfl, hr, h1, h2⟩ := u1
      obtain ⟨c0', c1', c2', c3', c4', c5'⟩ := ncells_of hr
      have KT := Lib.hid (total_any wr al l h1)
      have KC := Lib.hid (count_any wr al l h1)
      have u2' := u2
      rw [T.l_node] at u2'
      have hlen : l.l.length ≤ 8192 := u2'.left.len
      have hs0 : 0 ≤ s := u2'.nn s (by simp)
      have hl0 := u2'.left.sum0
      have or' : LOk r.l := u2'.right.of (fun x hx => by simp [hx]) (by simp) (by rw [List.sum_cons]; omega)
      have hr0 := or'.sum0
      have ht : l.l.sum + s ≤ 4611686018427387904 := by have := u2'.top; rw [List.sum_append, List.sum_cons] at this; omega
      clear hr c3' c4' c5' u2'
      by_cases q1 : y < l.l.sum
      · have R := Lib.hid (And.intro h1 (And.intro (show LOk l.l from by rw [T.l_node] at u2; exact u2.left) (u3.left u2 q1)))
        have MM := Lib.hid (And.intro (cntOf_tr h1) M.out)
        obtain ⟨tl, etl⟩ : ∃ tl, tl = l.l.sum := ⟨_, rfl⟩
        rw [← etl] at KT hl0 ht q1
        clear u2 u3 h1 h2 etl c1' c2' M or' hr0 KC hlen
        go_wp2_with fail
        refine (KT.out).mono ?_
        rintro e w' ⟨rfl, rfl⟩
        go_wp2_with fail
        go_roundw
        case rel => exact ⟨c, y, al, l, j, rfl, rfl, rfl, hcj, hy0, hy1, R.out, hB.out⟩
        case measure => rw [MM.out.1, MM.out.2, T.l_node]; simp
      by_cases q2 : y < l.l.sum + s
      · obtain ⟨rfl, er⟩ := u3.mid u2 (by omega) q2
        obtain ⟨tl, etl⟩ : ∃ tl, tl = l.l.sum := ⟨_, rfl⟩
        rw [← etl] at KT hl0 ht q1 q2 er
        subst er
        obtain ⟨nl, enl⟩ : ∃ nl, nl = l.l.length := ⟨_, rfl⟩
        rw [← enl] at KC hlen hcj
        subst hcj
        clear u2 u3 h1 h2 etl enl c1' M or' hr0
        go_wp2_with fail
        refine (KT.out).mono ?_
        rintro e w' ⟨rfl, rfl⟩
        go_wp2_with fail
        refine (KC.out).mono ?_
        rintro e w' ⟨rfl, rfl⟩
        go_wp2_with fail
        go_ret3
        exact ⟨rfl, hB.out⟩
      · obtain ⟨q, rfl, hq⟩ := u3.right u2 (by omega)
        have MM := Lib.hid (And.intro (cntOf_tr h2) M.out)
        have R := Lib.hid (And.intro h2 (And.intro or' hq))
        obtain ⟨tl, etl⟩ : ∃ tl, tl = l.l.sum := ⟨_, rfl⟩
        rw [← etl] at KT hl0 ht q1 q2 R
        obtain ⟨nl, enl⟩ : ∃ nl, nl = l.l.length := ⟨_, rfl⟩
        rw [← enl] at KC hlen hcj
        clear u2 u3 h1 h2 etl enl M or' hr0 hq
        go_wp2_with fail
        refine (KT.out).mono ?_
        rintro e w' ⟨rfl, rfl⟩
        go_wp2_with fail
        refine (KC.out).mono ?_
        rintro e w' ⟨rfl, rfl⟩
        go_wp2_with fail
        go_roundw
        case rel => exact ⟨c + (nl + 1), y - (tl + s), ar, r, q, by go_num, rfl, rfl, by omega, by omega, by omega, R.out, hB.out⟩
        case measure => rw [MM.out.1, MM.out.2, T.l_node]; simp; omega
end Go.Proofs.YtfmfmeiaekknbaaGreat
end

section
/-
  Sizes, plainly: rows, and the spans of those that are known.
-/
namespace Go.Proofs.YtfmfmeiaekknbaaGreat
open Go.RowKit
set_option linter.unusedVariables false
set_option linter.unusedSimpArgs false

abbrev Rws := List (Int × Bool)
/-- The sizes of rows. -/
def szs (R : Rws) : List Int := R.map (·.1)
theorem szs_len (R : Rws) : (szs R).length = R.length := List.length_map _
theorem szs_app (A B : Rws) : szs (A ++ B) = szs A ++ szs B := List.map_append
theorem szs_take (R : Rws) (k : Nat) : szs (R.take k) = (szs R).take k := List.map_take
theorem szs_drop (R : Rws) (k : Nat) : szs (R.drop k) = (szs R).drop k := List.map_drop
theorem szs_cons (x : Int × Bool) (R : Rws) : szs (x :: R) = x.1 :: szs R := rfl
/-- Is a row known? -/
def kn (R : Rws) (k : Nat) : Bool := (R.getD k (0, false)).2
theorem kn_out {R : Rws} {k : Nat} (h : R.length ≤ k) : kn R k = false := by
  unfold kn; rw [List.getD_eq_getElem?_getD, List.getElem?_eq_none h]; rfl
theorem kn_get {R : Rws} {k : Nat} (h : k < R.length) : kn R k = R[k].2 := by
  unfold kn; rw [List.getD_eq_getElem?_getD, List.getElem?_eq_getElem h]; rfl
theorem kn_lt {R : Rws} {k : Nat} (h : kn R k = true) : k < R.length := by
  apply Classical.byContradiction; intro c
  rw [kn_out (by omega)] at h; exact absurd h (by decide)
theorem kn_app (A B : Rws) (k : Nat) : kn (A ++ B) k = if k < A.length then kn A k else kn B (k - A.length) := by
  unfold kn
  rw [List.getD_eq_getElem?_getD, List.getD_eq_getElem?_getD, List.getD_eq_getElem?_getD]
  by_cases c : k < A.length
  · rw [if_pos c, List.getElem?_append_left c]
  · rw [if_neg c, List.getElem?_append_right (by omega)]
theorem kn_cons (x : Int × Bool) (B : Rws) (k : Nat) : kn (x :: B) k = if k = 0 then x.2 else kn B (k - 1) := by
  cases k with
  | zero => rfl
  | succ k => rw [if_neg (by omega)]; rfl
theorem kn_take (R : Rws) (n k : Nat) : kn (R.take n) k = if k < n then kn R k else false := by
  unfold kn
  rw [List.getD_eq_getElem?_getD, List.getD_eq_getElem?_getD, List.getElem?_take]
  by_cases c : k < n
  · rw [if_pos c, if_pos c]
  · rw [if_neg c, if_neg c]; rfl
theorem kn_drop (R : Rws) (n k : Nat) : kn (R.drop n) k = kn R (n + k) := by
  unfold kn
  rw [List.getD_eq_getElem?_getD, List.getD_eq_getElem?_getD, List.getElem?_drop]
theorem kn_all (S : List Int) (b : Bool) (k : Nat) : kn (S.map (·, b)) k = if k < S.length then b else false := by
  by_cases c : k < S.length
  · rw [if_pos c, kn_get (by rw [List.length_map]; exact c), List.getElem_map]
  · rw [if_neg c, kn_out (by rw [List.length_map]; omega)]
theorem szs_all (S : List Int) (b : Bool) : szs (S.map (·, b)) = S := by
  unfold szs; rw [List.map_map]; exact List.map_id _
/-- Spans are in order and are those of the known ones. -/
structure KnS (S : Sp) (p : Nat → Bool) : Prop where
  nf : NF S
  me : ∀ j : Nat, memS S j ↔ p j = true
theorem KnS.congr {S : Sp} {p q : Nat → Bool} (h : KnS S p) (e : ∀ j, p j = q j) : KnS S q := ⟨h.nf, fun j => by rw [h.me, e]⟩
theorem KnS.nil : KnS [] (fun _ => false) := ⟨trivial, fun j => ⟨fun h => absurd h (memS_nil _), fun h => by cases h⟩⟩
theorem end_mem : ∀ {S : Sp} {lo : Int}, NFfrom lo S → S ≠ [] → memS S (endS lo S - 1) := by
  intro S
  induction S with
  | nil => intro lo h hn; exact absurd rfl hn
  | cons s r ih =>
    intro lo h _
    obtain ⟨h1, h2, h3, h4⟩ := h
    by_cases c : r = []
    · subst c
      refine (memS_cons _ _ _).2 (.inl ?_)
      show s.1 ≤ s.2 - 1 ∧ s.2 - 1 < s.2
      omega
    · exact (memS_cons _ _ _).2 (.inr (ih h4 c))
theorem KnS.end_le {S : Sp} {p : Nat → Bool} (h : KnS S p) {n : Nat} (hn : ∀ j, p j = true → j < n) : endS (-1) S ≤ n := by
  by_cases c : S = []
  · subst c
    show (-1 : Int) ≤ n
    omega
  · have hm := end_mem h.nf c
    have hg := (NFfrom.mem_gt h.nf hm).1
    obtain ⟨k, hk⟩ : ∃ k : Nat, endS (-1) S - 1 = (k : Int) := ⟨(endS (-1) S - 1).toNat, by omega⟩
    rw [hk] at hm
    have := hn k ((h.me k).1 hm)
    omega
theorem KnS.len {S : Sp} {p : Nat → Bool} (h : KnS S p) {n : Nat} (hn : ∀ j, p j = true → j < n) : 2 * S.length ≤ n + 1 := by
  have h1 := h.end_le hn
  have h2 := NFfrom.le_end h.nf
  omega
theorem KnS.chk {S : Sp} {p : Nat → Bool} (h : KnS S p) {n : Nat} (hn : ∀ j, p j = true → j < n) (h8 : n ≤ 8000) : chkS S = 0 :=
  chkS_zero.2 ⟨h.nf, by have := h.len hn; omega⟩
theorem KnS.has {S : Sp} {p : Nat → Bool} (h : KnS S p) {n : Nat} (hn : ∀ j, p j = true → j < n) (h8 : n ≤ 8000) (j : Nat) : hasS S j = p j := by
  unfold hasS
  rw [h.chk hn h8]
  have e : anyS S j = p j := by
    have h1 := (anyS_iff S j).trans (h.me j)
    cases e1 : anyS S j <;> cases e2 : p j <;> simp_all
  rw [e]; simp
theorem KnS.any {S : Sp} {p : Nat → Bool} (h : KnS S p) (j : Nat) : anyS S j = p j := by
  have h1 := (anyS_iff S j).trans (h.me j)
  cases e1 : anyS S j <;> cases e2 : p j <;> simp_all
/-- One span. -/
def markF (p : Nat → Bool) (f t : Nat) (b : Bool) : Nat → Bool := fun j => if f ≤ j ∧ j < t then b else p j
theorem one_nf {f t : Nat} (h : f < t) (ht : t ≤ 8000) : NF [((f : Int), (t : Int))] := ⟨by show (-1 : Int) < f; omega, by show (f : Int) < t; omega, by show (t : Int) ≤ 1073741824; omega, trivial⟩
theorem one_chk {f t : Nat} (h : f < t) (ht : t ≤ 8000) : chkS [((f : Int), (t : Int))] = 0 := chkS_zero.2 ⟨one_nf h ht, by show 1 ≤ 4096; decide⟩
theorem one_any (f t j : Nat) : anyS [((f : Int), (t : Int))] j = decide (f ≤ j ∧ j < t) := by
  rw [anyS_cons, anyS_nil]
  by_cases c1 : f ≤ j <;> by_cases c2 : j < t <;> simp [c1, c2]
theorem union_kn {S R : Sp} {p : Nat → Bool} (h : KnS S p) {f t : Nat} (m : Merged (fun a b => a || b) S [((f : Int), (t : Int))] R) : KnS R (markF p f t true) :=
  ⟨m.nf, fun j => by
    rw [m.me, h.any, one_any]
    unfold markF
    by_cases c : f ≤ j ∧ j < t <;> simp [c]⟩
theorem without_kn {S R : Sp} {p : Nat → Bool} (h : KnS S p) {f t : Nat} (m : Merged (fun a b => a && !b) S [((f : Int), (t : Int))] R) : KnS R (markF p f t false) :=
  ⟨m.nf, fun j => by
    rw [m.me, h.any, one_any]
    unfold markF
    by_cases c : f ≤ j ∧ j < t <;> simp [c]⟩
def insF (p : Nat → Bool) (a n : Nat) : Nat → Bool := fun j => if j < a then p j else if j < a + n then false else p (j - n)
def remF (p : Nat → Bool) (a n : Nat) : Nat → Bool := fun j => if j < a then p j else p (j + n)
theorem ins_kn {S R : Sp} {p : Nat → Bool} (h : KnS S p) {a n : Nat} (m : InsTo S a n S.length R) : KnS R (insF p a n) :=
  ⟨m.nf, fun j => by
    rw [m.me, List.take_length, h.me]
    unfold insF
    by_cases c1 : j < a
    · rw [if_pos c1]
      constructor
      · rintro (⟨_, h2⟩ | ⟨h1, _⟩)
        · exact h2
        · omega
      · exact fun h2 => .inl ⟨by omega, h2⟩
    · rw [if_neg c1]
      by_cases c2 : j < a + n
      · rw [if_pos c2]
        constructor
        · rintro (⟨h1, _⟩ | ⟨h1, _⟩) <;> omega
        · intro h; cases h
      · rw [if_neg c2]
        have e : (j : Int) - (n : Int) = ((j - n : Nat) : Int) := by omega
        rw [e, h.me]
        constructor
        · rintro (⟨h1, _⟩ | ⟨_, h2⟩)
          · omega
          · exact h2
        · exact fun h2 => .inr ⟨by omega, h2⟩⟩
theorem rem_kn {S R : Sp} {p : Nat → Bool} (h : KnS S p) {a n : Nat} (m : RemTo S a n S.length R) : KnS R (remF p a n) :=
  ⟨m.nf, fun j => by
    rw [m.me, List.take_length, h.me, show (j : Int) + (n : Int) = ((j + n : Nat) : Int) from by omega, h.me]
    unfold remF
    by_cases c1 : j < a
    · rw [if_pos c1]
      constructor
      · rintro (⟨_, h2⟩ | ⟨h1, _⟩)
        · exact h2
        · omega
      · exact fun h2 => .inl ⟨by omega, h2⟩
    · rw [if_neg c1]
      constructor
      · rintro (⟨h1, _⟩ | ⟨_, h2⟩)
        · omega
        · exact h2
      · exact fun h2 => .inr ⟨by omega, h2⟩⟩
theorem rngS_ok {S : Sp} {p : Nat → Bool} (h : KnS S p) {m : Nat} (hm : ∀ j, p j = true → j < m) (h8 : m ≤ 8000) {a n : Nat} (ha : a ≤ 8000) (hn : n ≤ 8000) : rngS S a n = 0 := by
  unfold rngS
  rw [if_neg (by rw [h.chk hm h8]; simp), if_neg (by omega)]
theorem dE_ok {R : Sp} (h : R.length ≤ 4096) : dE R = 0 ∧ dS R = R := ⟨if_neg (by omega), if_neg (by omega)⟩

/-! Rows that were changed. -/
def setR (R : Rws) (k : Nat) (v : Int) (b : Bool) : Rws := R.take k ++ (v, b) :: R.drop (k + 1)
def insR (R : Rws) (k : Nat) (S : List Int) (b : Bool) : Rws := (R.take k ++ S.map (·, b)) ++ R.drop k
def remR (R : Rws) (k m : Nat) : Rws := R.take k ++ R.drop (k + m)
def movR (R : Rws) (k m t : Nat) : Rws := ((remR R k m).take t ++ (R.drop k).take m) ++ (remR R k m).drop t
theorem szs_setR (R : Rws) (k : Nat) (v : Int) (b : Bool) : szs (setR R k v b) = rsetL (szs R) k v := by
  unfold setR rsetL; rw [szs_app, szs_cons, szs_take, szs_drop]
theorem szs_insR (R : Rws) (k : Nat) (S : List Int) (b : Bool) : szs (insR R k S b) = insL (szs R) k S := by
  unfold insR insL; rw [szs_app, szs_app, szs_all, szs_take, szs_drop]
theorem szs_remR (R : Rws) (k m : Nat) : szs (remR R k m) = remL (szs R) k m := by
  unfold remR remL; rw [szs_app, szs_take, szs_drop, List.drop_drop]
theorem szs_movR (R : Rws) (k m t : Nat) : szs (movR R k m t) = movL (szs R) k m t := by
  unfold movR movL; rw [szs_app, szs_app, szs_take, szs_drop, szs_take, szs_drop, szs_remR]
theorem kn_setR (R : Rws) {k : Nat} (h : k < R.length) (v : Int) (b : Bool) (j : Nat) : kn (setR R k v b) j = markF (kn R) k (k + 1) b j := by
  unfold setR markF
  rw [kn_app, kn_cons, List.length_take, Nat.min_eq_left (by omega), kn_take, kn_drop]
  by_cases c1 : j < k
  · rw [if_pos c1, if_pos c1, if_neg (by omega)]
  · rw [if_neg c1]
    by_cases c2 : j = k
    · rw [if_pos (by omega), if_pos (by omega)]
    · rw [if_neg (by omega), if_neg (by omega), show k + 1 + (j - k - 1) = j from by omega]
theorem kn_insR (R : Rws) {k : Nat} (h : k ≤ R.length) (S : List Int) (b : Bool) (j : Nat) : kn (insR R k S b) j = markF (insF (kn R) k S.length) k (k + S.length) b j := by
  unfold insR markF insF
  rw [kn_app, kn_app, kn_all, List.length_append, List.length_take, List.length_map, Nat.min_eq_left (by omega), kn_take, kn_drop]
  by_cases c1 : j < k
  · rw [if_pos (by omega), if_pos c1, if_pos c1, if_neg (by omega), if_pos c1]
  · by_cases c2 : j < k + S.length
    · rw [if_pos c2, if_neg c1, if_pos (by omega), if_pos (by omega)]
    · rw [if_neg c2, if_neg (by omega), if_neg c1, if_neg c2, show k + (j - (k + S.length)) = j - S.length from by omega]
theorem kn_remR (R : Rws) {k m : Nat} (h : k + m ≤ R.length) (j : Nat) : kn (remR R k m) j = remF (kn R) k m j := by
  unfold remR remF
  rw [kn_app, kn_take, kn_drop, List.length_take, Nat.min_eq_left (by omega)]
  by_cases c1 : j < k
  · rw [if_pos c1, if_pos c1, if_pos c1]
  · rw [if_neg c1, if_neg c1, show k + m + (j - k) = j + m from by omega]
theorem len_remR (R : Rws) {k m : Nat} (h : k + m ≤ R.length) : (remR R k m).length = R.length - m := by
  unfold remR; rw [List.length_append, List.length_take, List.length_drop]; omega
theorem kn_movR (R : Rws) {k m t : Nat} (h : k + m ≤ R.length) (ht : t ≤ R.length - m) (j : Nat) :
    kn (movR R k m t) j = (insF (remF (kn R) k m) t m j || (decide (t ≤ j ∧ j < t + m) && kn R (k + (j - t)))) := by
  have hl := len_remR R h
  unfold movR insF
  rw [kn_app, kn_app, List.length_append, List.length_take, List.length_take, List.length_drop, hl, Nat.min_eq_left (by omega), Nat.min_eq_left (by omega), kn_take, kn_take, kn_drop, kn_drop, kn_remR R h, kn_remR R h]
  by_cases c1 : j < t
  · rw [if_pos (by omega), if_pos c1, if_pos c1, if_pos c1]
    rw [decide_eq_false (by omega)]; simp
  · by_cases c2 : j < t + m
    · rw [if_pos (by omega), if_neg c1, if_neg c1, if_pos c2, if_pos (by omega), decide_eq_true (by omega)]; simp
    · rw [if_neg (by omega), if_neg c1, if_neg c2, decide_eq_false (by omega), show t + (j - (t + m)) = j - m from by omega]; simp
end Go.Proofs.YtfmfmeiaekknbaaGreat
end

section
/-
  Contracts of package sizes, first: Len, Top, Size, Known, At, wrong, with.
-/
namespace Go.Proofs.YtfmfmeiaekknbaaGreat
open Go.RowKit
set_option linter.unusedVariables false
set_option linter.unusedSimpArgs false

/-- The value of an index. -/
abbrev ixv (a A : Option Addr) (n : Nat) : Value := .agg #[.pointer a, .slice A n n]
/-- An index in memory. -/
structure Ix (w : World) (a A : Option Addr) (S : Sp) (R : Rws) : Prop where
  rp : Rp w a (szs R)
  sp : SeesP w w.heap.size A S
  ks : KnS S (kn R)
  ok : LOk (szs R)
  le : R.length ≤ 1024
  ps : ∀ x ∈ szs R, 1 ≤ x ∧ x ≤ 2305843009213693952
theorem Ix.below {w w' : World} {a A : Option Addr} {S : Sp} {R : Rws} (h : Ix w a A S R) (hb : Below w.heap.size w w') : Ix w' a A S R :=
  ⟨h.rp.below hb, (h.sp.below hb).more hb.size, h.ks, h.ok, h.le, h.ps⟩
theorem Ix.new (w : World) : Ix w Option.none Option.none [] [] := ⟨Rp.nil w, seesP_nil _ _, KnS.nil.congr (fun j => (kn_out (Nat.zero_le _)).symm), ⟨fun x hx => (nomatch hx), by decide, by decide⟩, by decide, fun x hx => (nomatch hx)⟩
theorem Ix.lt {w : World} {a A : Option Addr} {S : Sp} {R : Rws} (h : Ix w a A S R) : ∀ j, kn R j = true → j < R.length := fun j hj => kn_lt hj
theorem Ix.fits {w : World} {a A : Option Addr} {S : Sp} {R : Rws} (h : Ix w a A S R) : FitsS S := h.ks.nf.fits
theorem Ix.slen {w : World} {a A : Option Addr} {S : Sp} {R : Rws} (h : Ix w a A S R) : S.length ≤ 600 := by
  have := h.ks.len h.lt
  have := h.le
  omega
/-- What returns an index and an error. -/
def IPost (w : World) (R : Rws) (err : Int) (e : Ending) (w' : World) : Prop := ∃ a A S, e = .returned (.tuple #[ixv a A S.length, .int .i64 err]) ∧ Ix w' a A S R ∧ Below w.heap.size w w'
abbrev ixw (w : World) (a A : Option Addr) (n : Nat) : World := w.alloc (.cells #[.pointer a, .slice A n n] 32)
theorem ixw_b (w : World) (a A : Option Addr) (n : Nat) : Below w.heap.size w (ixw w a A n) := (Below.refl _ w).alloc (Nat.le_refl _) _

theorem ilen_any (w : World) (a A : Option Addr) (n : Nat) (R : Rws) (h : Rp w a (szs R)) : Calls Tryz.prog 8 #[ixv a A n] w fun e w' => e = .returned (.int .i64 R.length) ∧ Below w.heap.size w w' := by
  have B := Lib.hid (ixw_b w a A n)
  have C := Lib.hid (rlen_any _ a _ (h.below B.out))
  rw [szs_len] at C
  clear h
  go_enter Tryz.func8, Tryz.ntmps8
  go_wp2_with fail
  refine (C.out).mono ?_
  rintro e w' ⟨rfl, hb⟩
  have H := Lib.hid (B.out.trans (hb.mono B.out.size))
  clear hb
  go_wp2_with fail
  go_ret
  exact ⟨rfl, H.out⟩
theorem isize_any (w : World) (a A : Option Addr) (n : Nat) (R : Rws) (h : Rp w a (szs R)) (hl : R.length ≤ 8192) (x : Int) (fx : Fits x) : Calls Tryz.prog 9 #[ixv a A n, .int .i64 x] w fun e w' => e = .returned (.tuple #[.int .i64 (atVal (szs R) x), .int .i64 (atErr (szs R) x)]) ∧ Below w.heap.size w w' := by
  have B := Lib.hid (ixw_b w a A n)
  have C := Lib.hid (rat_any _ a _ (h.below B.out) (by rw [szs_len]; exact hl) x fx)
  clear h
  go_enter Tryz.func9, Tryz.ntmps9
  go_wp2_with fail
  refine (C.out).mono ?_
  rintro e w' ⟨rfl, hb⟩
  have H := Lib.hid (B.out.trans (hb.mono B.out.size))
  clear hb
  go_wp2_with fail
  go_ret2
  exact ⟨rfl, H.out⟩
/-- Whether a row is known, and the error. -/
def knErr (R : Rws) (x : Int) : Int := if x < 0 ∨ (R.length : Int) ≤ x then 4 else 0
def knVal (R : Rws) (x : Int) : Bool := if x < 0 ∨ (R.length : Int) ≤ x then false else kn R x.toNat
set_option maxRecDepth 100000 in
set_option maxHeartbeats 800000 in
theorem iknown_any (w : World) (a A : Option Addr) (S : Sp) (R : Rws) (h : Ix w a A S R) (x : Int) (fx : Fits x) : Calls Tryz.prog 36 #[ixv a A S.length, .int .i64 x] w fun e w' => e = .returned (.tuple #[.bool (knVal R x), .int .i64 (knErr R x)]) ∧ Below w.heap.size w w' := by
  have B := Lib.hid (ixw_b w a A S.length)
  have C := Lib.hid (ilen_any _ a A S.length R (h.rp.below B.out))
  by_cases c0 : x < 0
  · have e1 : knVal R x = false := if_pos (.inl c0)
    have e2 : knErr R x = 4 := if_pos (.inl c0)
    rw [e1, e2]
    clear e1 e2 h
    go_enter Tryz.func36, Tryz.ntmps36
    go_wp2_with fail
    go_ret2
    exact ⟨rfl, B.out⟩
  by_cases c1 : (R.length : Int) ≤ x
  · have e1 : knVal R x = false := if_pos (.inr c1)
    have e2 : knErr R x = 4 := if_pos (.inr c1)
    rw [e1, e2]
    clear e1 e2 h
    go_enter Tryz.func36, Tryz.ntmps36
    go_wp2_with fail
    refine (C.out).mono ?_
    rintro e w' ⟨rfl, hb⟩
    have H := Lib.hid (B.out.trans (hb.mono B.out.size))
    clear hb
    go_wp2_with fail
    go_ret2
    exact ⟨rfl, H.out⟩
  obtain ⟨k, rfl⟩ : ∃ k : Nat, x = (k : Int) := ⟨x.toNat, by omega⟩
  have e1 : knVal R k = hasS S k := by
    rw [h.ks.has h.lt (by have := h.le; omega)]
    unfold knVal; rw [if_neg (by omega), Int.toNat_natCast]
  have e2 : knErr R k = 0 := if_neg (by omega)
  rw [e1, e2]
  have K : Hid (∀ W, Below (ixw w a A S.length).heap.size (ixw w a A S.length) W → _) := fun W (hW : Below (ixw w a A S.length).heap.size (ixw w a A S.length) W) =>
    has_any W _ A S.length S k ((h.sp.below B.out).below (hW.mono B.out.size)) (by have := hW.size; have := B.out.size; omega) h.fits (by have := h.slen; omega)
  have c3 : (ixw w a A S.length).cell? ⟨w.heap.size, 1, none⟩ = some (.slice A S.length S.length) := (World.rowIs_alloc w #[.pointer a, .slice A S.length S.length] 32 (fun j => if j = 0 then .pointer a else .slice A S.length S.length) (fun j hj => by
    have : j = 0 ∨ j = 1 := by simp at hj; omega
    rcases this with rfl | rfl <;> rfl)).cell (i := 1) (by simp)
  have C3 := Lib.hid c3
  have SZ : Hid ((ixw w a A S.length).heap.size = w.heap.size + 1) := by show _ = _; rw [World.size_alloc]
  clear c3
  obtain ⟨hv, ehv⟩ : ∃ hv, hv = hasS S k := ⟨_, rfl⟩
  rw [← ehv] at K ⊢
  obtain ⟨sn, esn⟩ : ∃ sn, sn = S.length := ⟨_, rfl⟩
  rw [← esn] at B C K C3 SZ ⊢
  clear ehv esn h e1 e2
  go_enter Tryz.func36, Tryz.ntmps36
  go_wp2_with fail
  refine (C.out).mono ?_
  rintro e w1 ⟨rfl, hb⟩
  have d1 := (hb.cell (p := ⟨w.heap.size, 1, none⟩) (by show w.heap.size < _; rw [SZ.out]; omega)).trans C3.out
  have H := Lib.hid (B.out.trans (hb.mono B.out.size))
  have K2 := Lib.hid (K.out w1 hb)
  clear hb
  go_wp2_with fail
  refine (K2.out).mono ?_
  rintro e w2 ⟨rfl, hb⟩
  have H2 := Lib.hid (H.out.trans (hb.mono H.out.size))
  clear hb
  go_wp2_with fail
  go_ret2
  exact ⟨rfl, H2.out⟩
theorem iat_ok (w : World) (a A : Option Addr) (n : Nat) (R : Rws) (h : Rp w a (szs R)) (ok : LOk (szs R)) (x : Int) (I : Nat) (rest : Int) (hp : Place (szs R) x I rest) (hx0 : 0 ≤ x) (hx1 : x < (szs R).sum) : Calls Tryz.prog 17 #[ixv a A n, .int .i64 x] w fun e w' => e = .returned (.tuple #[.int .i64 I, .int .i64 rest, .int .i64 0]) ∧ Below w.heap.size w w' := by
  have B := Lib.hid (ixw_b w a A n)
  have C := Lib.hid (rfind_ok _ a _ (h.below B.out) ok x I rest hp hx0 hx1)
  clear h hp hx1
  go_enter Tryz.func17, Tryz.ntmps17
  go_wp2_with fail
  refine (C.out).mono ?_
  rintro e w' ⟨rfl, hb⟩
  have H := Lib.hid (B.out.trans (hb.mono B.out.size))
  clear hb
  go_wp2_with fail
  exact bodyPost_ret (v := .tuple #[.int .i64 I, .int .i64 rest, .int .i64 0]) (by simp [results, Tryz.results17, go_sem]) rfl ⟨rfl, H.out⟩
theorem new_any (w : World) : Calls Tryz.prog 45 #[] w fun e w' => e = .returned (ixv none none 0) ∧ Below w.heap.size w w' := by
  have B := Lib.hid (ixw_b w none none 0)
  go_enter Tryz.func45, Tryz.ntmps45
  go_wp2_with fail
  exact bodyPost_ret (v := ixv none none 0) (by simp [results, Tryz.results45, go_sem]) rfl ⟨rfl, B.out⟩
theorem wrong_any (w : World) (x : Int) (fx : Fits x) : Calls Tryz.prog 110 #[.int .i64 x] w fun e w' => e = .returned (.bool (decide (x < 1 ∨ 2305843009213693952 < x))) ∧ w = w' := by
  by_cases c1 : x < 1
  · rw [decide_eq_true (.inl c1)]
    go_enter Tryz.func110, Tryz.ntmps110
    go_wp2_with fail
    go_ret
    exact ⟨rfl, rfl⟩
  · by_cases c2 : 2305843009213693952 < x
    · rw [decide_eq_true (.inr c2)]
      go_enter Tryz.func110, Tryz.ntmps110
      go_wp2_with fail
      go_ret
      exact ⟨rfl, rfl⟩
    · rw [decide_eq_false (by omega)]
      go_enter Tryz.func110, Tryz.ntmps110
      go_wp2_with fail
      go_ret
      exact ⟨rfl, rfl⟩
theorem with_ok (w : World) (a A : Option Addr) (S : Sp) (R : Rws) (h : Ix w a A S R) : Calls Tryz.prog 100 #[.agg #[.pointer a], .slice A S.length S.length, .int .i64 0] w (IPost w R 0) := by
  have B : Hid (∀ u, Below w.heap.size w (((w.alloc (.cells #[.pointer a] 27)).alloc (.cells u 32)))) := fun u => ((Below.refl _ w).alloc (Nat.le_refl _) _).alloc (by rw [World.size_alloc]; omega) _
  have H := Lib.hid h
  clear h
  obtain ⟨n, en⟩ : ∃ n, n = S.length := ⟨_, rfl⟩
  have EN := Lib.hid en
  rw [← en]
  clear en
  go_enter Tryz.func100, Tryz.ntmps100
  go_wp2_with fail
  refine bodyPost_ret (v := .tuple #[ixv a A n, .int .i64 0]) (by simp [results, Tryz.results100, go_sem]) rfl ⟨a, A, S, ?_, H.out.below ?_, ?_⟩
  · rw [← EN.out]
  · exact B.out _
  · exact B.out _
end Go.Proofs.YtfmfmeiaekknbaaGreat
end

section
/-
  Contracts of package sizes, second: marked, Set, Remove, Unknown.
-/
namespace Go.Proofs.YtfmfmeiaekknbaaGreat
open Go.RowKit
set_option linter.unusedVariables false
set_option linter.unusedSimpArgs false

/-- Spans of known rows that were returned. -/
def KPost (w : World) (p : Nat → Bool) (e : Ending) (w' : World) : Prop := ∃ A S, e = .returned (.slice A S.length S.length) ∧ SeesP w' w'.heap.size A S ∧ KnS S p ∧ Below w.heap.size w w'
/-- .. with an error. -/
def KEPost (w : World) (p : Nat → Bool) (e : Ending) (w' : World) : Prop := ∃ A S, e = .returned (.tuple #[.slice A S.length S.length, .int .i64 0]) ∧ SeesP w' w'.heap.size A S ∧ KnS S p ∧ Below w.heap.size w w'
theorem lit_one (w : World) (f t : Int) : SeesP (w.alloc (.cells #[.int .i64 f, .int .i64 t] 168)) (w.heap.size + 1) (some ⟨w.heap.size, 0, none⟩) [(f, t)] := by
  have := Sees.lit w #[.int .i64 f, .int .i64 t] 168 (spf [(f, t)]) 2 rfl (fun j hj => by
    have : j = 0 ∨ j = 1 := by omega
    rcases this with rfl | rfl <;> rfl)
  rw [World.size_alloc] at this
  exact this
theorem markF_lt {p : Nat → Bool} {n f t : Nat} {b : Bool} (hn : ∀ j, p j = true → j < n) (ht : t ≤ n) : ∀ j, markF p f t b j = true → j < n := by
  intro j hj
  unfold markF at hj
  by_cases c : f ≤ j ∧ j < t
  · omega
  · rw [if_neg c] at hj; exact hn j hj
theorem union_small (w : World) (A A2 : Option Addr) (B B2 : Nat) (S : Sp) (p : Nat → Bool) (n f t : Nat) (h : SeesP w B A S) (h2 : SeesP w B2 A2 [((f : Int), (t : Int))]) (hB : B ≤ w.heap.size) (hB2 : B2 ≤ w.heap.size) (hk : KnS S p) (hn : ∀ j, p j = true → j < n) (h8 : n ≤ 8000) (hft : f < t) (ht : t ≤ n) :
    Calls Tryz.prog 143 #[.slice A S.length S.length, .slice A2 1 1] w (KEPost w (markF p f t true)) := by
  have hS := hk.len hn
  refine (union_any w A A2 S.length 1 B B2 S [((f : Int), (t : Int))] h h2 hB hB2 hk.nf.fits (one_nf hft (by omega)).fits (by omega) (by show 1 ≤ 1000000000000000; decide)).mono ?_
  rintro e w' (⟨_, _, R, hm, A', h1, h2, h3⟩ | ⟨hx, _⟩)
  · have hkr := union_kn hk hm
    have hl := hkr.len (markF_lt hn ht)
    obtain ⟨e1, e2⟩ := dE_ok (R := R) (by omega)
    rw [e1, e2] at h1
    rw [e2] at h2
    exact ⟨A', R, h1, h2, hkr, h3⟩
  · rw [hk.chk hn h8, one_chk hft (by omega)] at hx
    exact absurd rfl hx
theorem without_small (w : World) (A A2 : Option Addr) (B B2 : Nat) (S : Sp) (p : Nat → Bool) (n f t : Nat) (h : SeesP w B A S) (h2 : SeesP w B2 A2 [((f : Int), (t : Int))]) (hB : B ≤ w.heap.size) (hB2 : B2 ≤ w.heap.size) (hk : KnS S p) (hn : ∀ j, p j = true → j < n) (h8 : n ≤ 8000) (hft : f < t) (ht : t ≤ n) :
    Calls Tryz.prog 142 #[.slice A S.length S.length, .slice A2 1 1] w (KEPost w (markF p f t false)) := by
  have hS := hk.len hn
  refine (without_any w A A2 S.length 1 B B2 S [((f : Int), (t : Int))] h h2 hB hB2 hk.nf.fits (one_nf hft (by omega)).fits (by omega) (by show 1 ≤ 1000000000000000; decide)).mono ?_
  rintro e w' (⟨_, _, R, hm, A', h1, h2, h3⟩ | ⟨hx, _⟩)
  · have hkr := without_kn hk hm
    have hl := hkr.len (markF_lt hn ht)
    obtain ⟨e1, e2⟩ := dE_ok (R := R) (by omega)
    rw [e1, e2] at h1
    rw [e2] at h2
    exact ⟨A', R, h1, h2, hkr, h3⟩
  · rw [hk.chk hn h8, one_chk hft (by omega)] at hx
    exact absurd rfl hx
set_option maxRecDepth 100000 in
set_option maxHeartbeats 800000 in
theorem marked_any (w : World) (A : Option Addr) (B : Nat) (S : Sp) (p : Nat → Bool) (n f t : Nat) (b : Bool) (h : SeesP w B A S) (hB : B ≤ w.heap.size) (hk : KnS S p) (hn : ∀ j, p j = true → j < n) (h8 : n ≤ 8000) (hft : f ≤ t) (ht : t ≤ n) :
    Calls Tryz.prog 99 #[.slice A S.length S.length, .int .i64 f, .int .i64 t, .bool b] w (KPost w (markF p f t b)) := by
  by_cases c : f = t
  · subst c
    have H : Hid (KPost w (markF p f f b) (.returned (.slice A S.length S.length)) w) := ⟨A, S, rfl, h.more hB, hk.congr (fun j => by unfold markF; rw [if_neg (by omega)]), Below.refl _ _⟩
    obtain ⟨sn, esn⟩ : ∃ sn, sn = S.length := ⟨_, rfl⟩
    rw [← esn] at H ⊢
    clear h hB hk hn esn
    go_enter Tryz.func99, Tryz.ntmps99
    go_wp2_with fail
    go_ret
    exact H.out
  · have ne : ((f : Int) == (t : Int)) = false := by rw [beq_eq_false_iff_ne]; omega
    have L0 : Hid (Below w.heap.size w (w.alloc (.cells #[.int .i64 (f : Int), .int .i64 (t : Int)] 168))) := (Below.refl _ w).alloc (Nat.le_refl _) _
    have hl := lit_one w f t
    have L1 : Hid (KEPost w (markF p f t b) = KEPost w (markF p f t b)) := rfl
    cases b with
    | true =>
      have K := Lib.hid (union_small _ A (some ⟨w.heap.size, 0, none⟩) B _ S p n f t (h.below (L0.out.mono hB)) hl (by rw [World.size_alloc]; omega) (by rw [World.size_alloc]; exact Nat.le_refl _) hk hn h8 (by omega) ht)
      obtain ⟨sn, esn⟩ : ∃ sn, sn = S.length := ⟨_, rfl⟩
      rw [← esn] at K ⊢
      clear h hB hk hn esn hl L1
      go_enter Tryz.func99, Tryz.ntmps99
      go_wp2_with fail
      refine (K.out).mono ?_
      rintro e w1 ⟨A', S', rfl, h1, h2, h3⟩
      have H : Hid (KPost w (markF p f t true) (.returned (.slice A' S'.length S'.length)) w1) := ⟨A', S', rfl, h1, h2, L0.out.trans (h3.mono L0.out.size)⟩
      clear h1 h2 h3
      go_wp2_with fail
      go_ret
      exact H.out
    | false =>
      have K := Lib.hid (without_small _ A (some ⟨w.heap.size, 0, none⟩) B _ S p n f t (h.below (L0.out.mono hB)) hl (by rw [World.size_alloc]; omega) (by rw [World.size_alloc]; exact Nat.le_refl _) hk hn h8 (by omega) ht)
      obtain ⟨sn, esn⟩ : ∃ sn, sn = S.length := ⟨_, rfl⟩
      rw [← esn] at K ⊢
      clear h hB hk hn esn hl L1
      go_enter Tryz.func99, Tryz.ntmps99
      go_wp2_with fail
      refine (K.out).mono ?_
      rintro e w1 ⟨A', S', rfl, h1, h2, h3⟩
      have H : Hid (KPost w (markF p f t false) (.returned (.slice A' S'.length S'.length)) w1) := ⟨A', S', rfl, h1, h2, L0.out.trans (h3.mono L0.out.size)⟩
      clear h1 h2 h3
      go_wp2_with fail
      go_ret
      exact H.out
end Go.Proofs.YtfmfmeiaekknbaaGreat
end

section
/-
  Indices in variables; (Index).Set.
-/
namespace Go.Proofs.YtfmfmeiaekknbaaGreat
open Go.RowKit
set_option linter.unusedVariables false
set_option linter.unusedSimpArgs false

def xrow (a A : Option Addr) (n : Nat) : Nat → Value := fun j => if j = 0 then .pointer a else .slice A n n
abbrev XVar (w : World) (q : Nat) (a A : Option Addr) (n : Nat) : Prop := w.rowIs q 32 2 (xrow a A n)
theorem XVar.mk (w : World) (a A : Option Addr) (n : Nat) : XVar (ixw w a A n) w.heap.size a A n := World.rowIs_alloc w #[.pointer a, .slice A n n] 32 _ (fun j hj => by
    have : j = 0 ∨ j = 1 := by simp at hj; omega
    rcases this with rfl | rfl <;> rfl)
theorem XVar.set {w : World} {q : Nat} {a A : Option Addr} {n : Nat} (h : XVar w q a A n) (a' A' : Option Addr) (n' : Nat) : XVar ((w.setCell ⟨q, 0, none⟩ (.pointer a')).setCell ⟨q, 1, none⟩ (.slice A' n' n')) q a' A' n' :=
  (World.rowIs.set (World.rowIs.set h 0 _) 1 _).congr fun j hj => by
    have h0 : j = 0 ∨ j = 1 := by omega
    rcases h0 with rfl | rfl <;> rfl
theorem Sees.set_other {w : World} {B n : Nat} {A : Option Addr} {f : Nat → Value} (h : Sees w B A n f) {p : Addr} {u : Value} (hp : w.cell? p = some u) (hu : ∀ j, j < n → f j ≠ u) (v : Value) : Sees (w.setCell p v) B A n f := by
  intro hn
  obtain ⟨b, o, h1, h2, h3⟩ := h hn
  refine ⟨b, o, h1, h2, fun j hj => ?_⟩
  rw [World.cell?_setCell_other _ _ _ _ (fun e => ?_)]
  · exact h3 j hj
  · have := h3 j hj
    rw [← e, hp] at this
    exact hu j hj (Option.some.inj this).symm
theorem Sees.set_var {w : World} {B n : Nat} {A : Option Addr} {f : Nat → Value} (h : Sees w B A n f) {q : Nat} {a C : Option Addr} {m : Nat} (hq : XVar w q a C m) (hu : ∀ j, j < n → (∃ k x, f j = .int k x) ∨ ∃ b, f j = .bool b) (a' A' : Option Addr) (n' : Nat) :
    Sees ((w.setCell ⟨q, 0, none⟩ (.pointer a')).setCell ⟨q, 1, none⟩ (.slice A' n' n')) B A n f := by
  have e1 := World.rowIs.cell hq (i := 0) (by omega)
  have e2 := World.rowIs.cell (World.rowIs.set hq 0 (.pointer a')) (i := 1) (by omega)
  refine (h.set_other e1 (fun j hj e => ?_) _).set_other e2 (fun j hj e => ?_) _
  · rcases hu j hj with ⟨k, x, h⟩ | ⟨b, h⟩ <;> (rw [h] at e; cases e)
  · rcases hu j hj with ⟨k, x, h⟩ | ⟨b, h⟩ <;> (rw [h] at e; cases e)
theorem spf_int (L : Sp) (j : Nat) : (∃ k x, spf L j = .int k x) ∨ ∃ b, spf L j = .bool b := .inl ⟨_, _, rfl⟩
theorem Ix.set_var {w : World} {a A : Option Addr} {S : Sp} {R : Rws} (h : Ix w a A S R) {q : Nat} {b C : Option Addr} {m : Nat} (hq : XVar w q b C m) (a' A' : Option Addr) (n' : Nat) :
    Ix ((w.setCell ⟨q, 0, none⟩ (.pointer a')).setCell ⟨q, 1, none⟩ (.slice A' n' n')) a A S R :=
  ⟨(h.rp.set hq (by decide) rfl _).set (World.rowIs.set hq 0 (.pointer a')) (by decide) rfl _, (h.sp.set_var hq (fun j _ => spf_int S j) a' A' n').more (by simp [World.setCell]), h.ks, h.ok, h.le, h.ps⟩

/-- An entry: a variable of type Index. -/
abbrev XE := Nat × Option Addr × Option Addr × Sp × Rws
/-- The cells of rows as the reference has them. -/
def rg (R : Rws) (k : Nat) : Int × Bool := R.getD k (0, false)
def rwf (R : Rws) : Nat → Value := fun j => if j % 2 = 0 then .int .i64 (rg R (j / 2)).1 else .bool (rg R (j / 2)).2
theorem rwf_0 (L : Rws) (k : Nat) : rwf L (k * 2) = .int .i64 (rg L k).1 := by
  unfold rwf
  rw [if_pos (by omega), show k * 2 / 2 = k from by omega]
theorem rwf_1 (L : Rws) (k : Nat) : rwf L (k * 2 + 1) = .bool (rg L k).2 := by
  unfold rwf
  rw [if_neg (by omega), show (k * 2 + 1) / 2 = k from by omega]
theorem rwf_ib (L : Rws) (j : Nat) : (∃ k x, rwf L j = .int k x) ∨ ∃ b, rwf L j = .bool b := by
  unfold rwf
  split
  · exact .inl ⟨_, _, rfl⟩
  · exact .inr ⟨_, rfl⟩
abbrev SeesR (w : World) (B : Nat) (A : Option Addr) (R : Rws) : Prop := Sees w B A (R.length * 2) (rwf R)
/-- The variables of type Index, and the slices of rows, that a function holds; the world since it was called. -/
structure LX (w0 w : World) (ps : List XE) (qs : List (Option Addr × Rws)) : Prop where
  vs : ∀ x ∈ ps, w0.heap.size ≤ x.1 ∧ XVar w x.1 x.2.1 x.2.2.1 x.2.2.2.1.length ∧ Ix w x.2.1 x.2.2.1 x.2.2.2.1 x.2.2.2.2
  s : ∀ q ∈ qs, SeesR w w.heap.size q.1 q.2
  bl : Below w0.heap.size w0 w
theorem LX.start {w0 w : World} (hb : Below w0.heap.size w0 w) : LX w0 w [] [] := ⟨fun x hx => (nomatch hx), fun x hx => (nomatch hx), hb⟩
theorem LX.below {w0 w w' : World} {ps : List XE} {qs : List (Option Addr × Rws)} (h : LX w0 w ps qs) (hb : Below w.heap.size w w') : LX w0 w' ps qs :=
  ⟨fun x hx => ⟨(h.vs x hx).1, World.rowIs.of_block (h.vs x hx).2.1 (hb.block x.1 (World.rowIs.lt (h.vs x hx).2.1)), (h.vs x hx).2.2.below hb⟩, fun q hq => ((h.s q hq).below hb).more hb.size, h.bl.trans (hb.mono h.bl.size)⟩
theorem LX.alloc {w0 w : World} {ps : List XE} {qs : List (Option Addr × Rws)} (h : LX w0 w ps qs) (o : Obj) : LX w0 (w.alloc o) ps qs := h.below ((Below.refl _ w).alloc (Nat.le_refl _) o)
theorem LX.drawn {w0 w w' : World} {ps : List XE} {qs : List (Option Addr × Rws)} (h : LX w0 w ps qs) (hd : Drawn w w') : LX w0 w' ps qs := h.below (hd.below _)
theorem LX.cons {w0 w : World} {ps : List XE} {qs : List (Option Addr × Rws)} (h : LX w0 w ps qs) {a A : Option Addr} {S : Sp} {R : Rws} (hx : Ix w a A S R) : LX w0 (ixw w a A S.length) ((w.heap.size, a, A, S, R) :: ps) qs := by
  have h' := h.alloc (.cells #[.pointer a, .slice A S.length S.length] 32)
  refine ⟨fun x hx' => ?_, h'.s, h'.bl⟩
  rcases List.mem_cons.1 hx' with rfl | hx'
  · exact ⟨h.bl.size, XVar.mk _ _ _ _, hx.below (ixw_b _ _ _ _)⟩
  · exact h'.vs x hx'
structure LX1 (w : World) (q : Nat) (a A : Option Addr) (S : Sp) (R : Rws) : Prop where
  c0 : w.cell? ⟨q, 0, none⟩ = some (.pointer a)
  c1 : w.cell? ⟨q, 1, none⟩ = some (.slice A S.length S.length)
  f0 : w.frozen? ⟨q, 0, none⟩ = false
  f1 : w.frozen? ⟨q, 1, none⟩ = false
  ix : Ix w a A S R
  lt : q < w.heap.size
theorem LX.get {w0 w : World} {ps : List XE} {qs : List (Option Addr × Rws)} (h : LX w0 w ps qs) {q : Nat} {a A : Option Addr} {S : Sp} {R : Rws} (hx : (q, a, A, S, R) ∈ ps) : LX1 w q a A S R := by
  obtain ⟨h1, h2, h3⟩ := h.vs _ hx
  exact ⟨World.rowIs.cell h2 (i := 0) (by omega), World.rowIs.cell h2 (i := 1) (by omega), World.rowIs.frozen h2 0, World.rowIs.frozen h2 1, h3, World.rowIs.lt h2⟩
theorem LX.see {w0 w : World} {ps : List XE} {qs : List (Option Addr × Rws)} (h : LX w0 w ps qs) {A : Option Addr} {R : Rws} (hx : (A, R) ∈ qs) : SeesR w w.heap.size A R := h.s _ hx
theorem LX.add {w0 w : World} {ps : List XE} {qs : List (Option Addr × Rws)} (h : LX w0 w ps qs) {A : Option Addr} {R : Rws} (hs : SeesR w w.heap.size A R) : LX w0 w ps ((A, R) :: qs) :=
  ⟨h.vs, fun q hq => by
    rcases List.mem_cons.1 hq with rfl | hq
    · exact hs
    · exact h.s q hq, h.bl⟩
theorem LX.sub {w0 w : World} {ps ps' : List XE} {qs qs' : List (Option Addr × Rws)} (h : LX w0 w ps qs) (hp : ∀ x ∈ ps', x ∈ ps) (hq : ∀ x ∈ qs', x ∈ qs) : LX w0 w ps' qs' :=
  ⟨fun x hx => h.vs x (hp x hx), fun x hx => h.s x (hq x hx), h.bl⟩
/-- A store into one of the variables; the others named. -/
theorem LX.put {w0 w : World} {ps : List XE} {qs : List (Option Addr × Rws)} (h : LX w0 w ps qs) {q : Nat} {a A : Option Addr} {S : Sp} {R : Rws} (hx : (q, a, A, S, R) ∈ ps) {a' A' : Option Addr} {S' : Sp} {R' : Rws} (hr : Ix w a' A' S' R')
    (ps' : List XE) (hq : ∀ x ∈ ps', x ∈ ps ∧ x.1 ≠ q) : LX w0 ((w.setCell ⟨q, 0, none⟩ (.pointer a')).setCell ⟨q, 1, none⟩ (.slice A' S'.length S'.length)) ((q, a', A', S', R') :: ps') qs := by
  obtain ⟨h1, h2, h3⟩ := h.vs _ hx
  refine ⟨fun x hx' => ?_, fun x hx' => ((h.s x hx').set_var h2 (fun j _ => rwf_ib _ j) _ _ _).more (by simp [World.setCell]), (h.bl.setCell (p := ⟨q, 0, none⟩) h1 _).setCell (p := ⟨q, 1, none⟩) h1 _⟩
  rcases List.mem_cons.1 hx' with rfl | hx'
  · exact ⟨h1, XVar.set h2 _ _ _, hr.set_var h2 _ _ _⟩
  · obtain ⟨g1, g2⟩ := hq x hx'
    obtain ⟨k1, k2, k3⟩ := h.vs x g1
    exact ⟨k1, World.rowIs.setOther (World.rowIs.setOther k2 g2 _) g2 _, k3.set_var h2 _ _ _⟩
/-- .. the same, and no other is kept. -/
theorem LX.put1 {w0 w : World} {ps : List XE} {qs : List (Option Addr × Rws)} (h : LX w0 w ps qs) {q : Nat} {a A : Option Addr} {S : Sp} {R : Rws} (hx : (q, a, A, S, R) ∈ ps) {a' A' : Option Addr} {S' : Sp} {R' : Rws} (hr : Ix w a' A' S' R') :
    LX w0 ((w.setCell ⟨q, 0, none⟩ (.pointer a')).setCell ⟨q, 1, none⟩ (.slice A' S'.length S'.length)) [(q, a', A', S', R')] qs := h.put hx hr [] (fun x hx => (nomatch hx))
theorem LX.zero {w0 w : World} {ps : List XE} {qs : List (Option Addr × Rws)} (h : LX w0 w ps qs) {q : Nat} {a A : Option Addr} {S : Sp} {R : Rws} (hx : (q, a, A, S, R) ∈ ps) :
    LX w0 ((w.setCell ⟨q, 0, none⟩ (.pointer none)).setCell ⟨q, 1, none⟩ (.slice none 0 0)) [(q, none, none, [], [])] qs := h.put1 hx (Ix.new _)
theorem LX.get0 {w0 w : World} {ps : List XE} {qs : List (Option Addr × Rws)} (h : LX w0 w ps qs) {q : Nat} (hx : (q, none, none, [], []) ∈ ps) : w.cell? ⟨q, 0, none⟩ = some (.pointer none) ∧ w.cell? ⟨q, 1, none⟩ = some (.slice none 0 0) ∧ w.frozen? ⟨q, 0, none⟩ = false ∧ w.frozen? ⟨q, 1, none⟩ = false ∧ q < w.heap.size := by
  obtain ⟨h1, h2, h3, h4, _, h5⟩ := h.get hx
  exact ⟨h1, h2, h3, h4, h5⟩
/-- The end: no index and an error. -/
theorem LX.bad {w0 w : World} {q : Nat} {qs : List (Option Addr × Rws)} (h : LX w0 w [(q, none, none, [], [])] qs) (x : Int) : IPost w0 [] x (.returned (.tuple #[ixv none none 0, .int .i64 x])) w := ⟨none, none, [], rfl, (h.get (.head _)).ix, h.bl⟩

/-- The world in which a method has put its index and its result. -/
abbrev vI (w : World) (a A : Option Addr) (n : Nat) : World := ixw (ixw w a A n) none none 0
theorem vI_x {w : World} {a A : Option Addr} {S : Sp} {R : Rws} (h : Ix w a A S R) : LX w (vI w a A S.length) [(w.heap.size + 1, none, none, [], []), (w.heap.size, a, A, S, R)] [] := by
  have := ((LX.start (Below.refl _ w)).cons h).cons (Ix.new _)
  rwa [World.size_alloc] at this

def isetErr (R : Rws) (i v : Int) : Int := if i < 0 ∨ (R.length : Int) ≤ i then 4 else if v < 1 ∨ 2305843009213693952 < v then 12 else if 4611686018427387904 - ((szs R).sum - lf (szs R) i.toNat) < v then 13 else 0
def isetTo (R : Rws) (i v : Int) (b : Bool) : Rws := if isetErr R i v = 0 then setR R i.toNat v b else []
theorem mem_take_drop {L : List Int} {k : Nat} {v x : Int} (h : x ∈ rsetL L k v) : x = v ∨ x ∈ L := by
  unfold rsetL at h
  rcases List.mem_append.1 h with h | h
  · exact .inr (List.mem_of_mem_take h)
  · rcases List.mem_cons.1 h with h | h
    · exact .inl h
    · exact .inr (List.mem_of_mem_drop h)
set_option maxRecDepth 100000 in
set_option maxHeartbeats 1600000 in
theorem iset_bad (w : World) (a A : Option Addr) (S : Sp) (R : Rws) (h : Ix w a A S R) (i v : Int) (b : Bool) (fi : Fits i) (fv : Fits v) (c : i < 0 ∨ (R.length : Int) ≤ i) :
    Calls Tryz.prog 64 #[ixv a A S.length, .int .i64 i, .int .i64 v, .bool b] w (IPost w [] 4) := by
  have V := Lib.hid (vI_x h)
  have g1 := V.out.get (.tail _ (.head _))
  have g2 := V.out.get (.head _)
  have KL := Lib.hid (fun W (hW : Below (vI w a A S.length).heap.size (vI w a A S.length) W) => ilen_any W a A S.length R (g1.ix.rp.below hW))
  have KS := Lib.hid (fun W (hW : Below (vI w a A S.length).heap.size (vI w a A S.length) W) => rset_any W a (szs R) (g1.ix.rp.below hW) h.ok i v fi fv)
  have e1 : rsetErr (szs R) i v = 4 := by unfold rsetErr; rw [szs_len, if_pos c]
  have e2 : rsetTo (szs R) i v = [] := by unfold rsetTo; rw [e1]; rfl
  rw [e1, e2] at KS
  obtain ⟨c1, c2, f1, f2, _, l1⟩ := g1
  obtain ⟨d1, d2, k1, k2, _, l2⟩ := g2
  obtain ⟨w0, e0⟩ : ∃ w0, w0 = vI w a A S.length := ⟨_, rfl⟩
  rw [← e0] at V KL KS c1 c2 f1 f2 l1 d1 d2 k1 k2 l2
  clear h e1 e2
  by_cases c0 : i < 0
  · go_enter Tryz.func64, Tryz.ntmps64
    go_wp2_with fail
    change Calls Tryz.prog _ _ (vI w a A S.length) _
    rw [← e0]
    have HB : Hid (Below w0.heap.size w0 w0) := Below.refl _ _
    -- 4 the error
    refine (KS.out _ (HB.out)).mono ?_
    rintro e w2 ⟨r, rfl, hr, hb⟩
    have V2 := Lib.hid (V.out.below ((HB.out).trans (hb.mono (HB.out).size)))
    obtain ⟨d1', d2', k1', k2', l2'⟩ := V2.out.get0 (.head _)
    have V3 := Lib.hid ((V2.out.zero (.head _)).alloc (.cells #[.pointer r] 27))
    obtain ⟨y1, y2, _, _, _⟩ := V3.out.get0 (.head _)
    clear hb hr
    go_wp2_with fail
    exact bodyPost_ret (v := .tuple #[ixv none none 0, .int .i64 4]) (by simp [results, Tryz.results64, go_sem, y1, y2]) rfl (V3.out.bad 4)
  · have c0' : (R.length : Int) ≤ i := by omega
    go_enter Tryz.func64, Tryz.ntmps64
    go_wp2_with fail
    change Calls Tryz.prog _ _ (vI w a A S.length) _
    rw [← e0]
    refine (KL.out _ (Below.refl _ _)).mono ?_
    rintro e w1 ⟨rfl, hb⟩
    have V1 := Lib.hid (V.out.below hb)
    have HB := Lib.hid hb
    obtain ⟨x1, x2, _, _, _, m1⟩ := V1.out.get (.tail _ (.head _))
    clear hb
    go_wp2_with fail
    -- 4 the error
    refine (KS.out _ (HB.out)).mono ?_
    rintro e w2 ⟨r, rfl, hr, hb⟩
    have V2 := Lib.hid (V.out.below ((HB.out).trans (hb.mono (HB.out).size)))
    obtain ⟨d1', d2', k1', k2', l2'⟩ := V2.out.get0 (.head _)
    have V3 := Lib.hid ((V2.out.zero (.head _)).alloc (.cells #[.pointer r] 27))
    obtain ⟨y1, y2, _, _, _⟩ := V3.out.get0 (.head _)
    clear hb hr
    go_wp2_with fail
    exact bodyPost_ret (v := .tuple #[ixv none none 0, .int .i64 4]) (by simp [results, Tryz.results64, go_sem, y1, y2]) rfl (V3.out.bad 4)
set_option maxRecDepth 100000 in
set_option maxHeartbeats 1600000 in
theorem iset_wrong (w : World) (a A : Option Addr) (S : Sp) (R : Rws) (h : Ix w a A S R) (i v : Int) (b : Bool) (fi : Fits i) (fv : Fits v) (c1 : 0 ≤ i) (c2 : i < R.length) (c3 : v < 1 ∨ 2305843009213693952 < v) :
    Calls Tryz.prog 64 #[ixv a A S.length, .int .i64 i, .int .i64 v, .bool b] w (IPost w [] 12) := by
  have V := Lib.hid (vI_x h)
  have g1 := V.out.get (.tail _ (.head _))
  have KL := Lib.hid (fun W (hW : Below (vI w a A S.length).heap.size (vI w a A S.length) W) => ilen_any W a A S.length R (g1.ix.rp.below hW))
  have KW := Lib.hid (fun W => wrong_any W v fv)
  rw [decide_eq_true c3] at KW
  obtain ⟨x1, x2, _, _, _, l1⟩ := g1
  obtain ⟨w0, e0⟩ : ∃ w0, w0 = vI w a A S.length := ⟨_, rfl⟩
  rw [← e0] at V KL x1 x2 l1
  clear h c3
  go_enter Tryz.func64, Tryz.ntmps64
  go_wp2_with fail
  change Calls Tryz.prog _ _ (vI w a A S.length) _
  rw [← e0]
  refine (KL.out _ (Below.refl _ _)).mono ?_
  rintro e w1 ⟨rfl, hb⟩
  have V1 := Lib.hid (V.out.below hb)
  clear hb
  go_wp2_with fail
  refine (KW.out w1).mono ?_
  rintro e w2 ⟨rfl, rfl⟩
  obtain ⟨d1', d2', k1', k2', l2'⟩ := V1.out.get0 (.head _)
  have V3 := Lib.hid (V1.out.zero (.head _))
  obtain ⟨y1, y2, _, _, _⟩ := V3.out.get0 (.head _)
  go_wp2_with fail
  exact bodyPost_ret (v := .tuple #[ixv none none 0, .int .i64 12]) (by simp [results, Tryz.results64, go_sem, y1, y2]) rfl (V3.out.bad 12)
set_option maxRecDepth 100000 in
set_option maxHeartbeats 1600000 in
theorem iset_over (w : World) (a A : Option Addr) (S : Sp) (R : Rws) (h : Ix w a A S R) (i v : Int) (b : Bool) (fi : Fits i) (fv : Fits v) (c1 : 0 ≤ i) (c2 : i < R.length) (c3 : ¬ (v < 1 ∨ 2305843009213693952 < v)) (c4 : 4611686018427387904 - ((szs R).sum - lf (szs R) i.toNat) < v) :
    Calls Tryz.prog 64 #[ixv a A S.length, .int .i64 i, .int .i64 v, .bool b] w (IPost w [] 13) := by
  have V := Lib.hid (vI_x h)
  have g1 := V.out.get (.tail _ (.head _))
  have KL := Lib.hid (fun W (hW : Below (vI w a A S.length).heap.size (vI w a A S.length) W) => ilen_any W a A S.length R (g1.ix.rp.below hW))
  have KW := Lib.hid (fun W => wrong_any W v fv)
  have KS := Lib.hid (fun W (hW : Below (vI w a A S.length).heap.size (vI w a A S.length) W) => rset_any W a (szs R) (g1.ix.rp.below hW) h.ok i v fi fv)
  have e1 : rsetErr (szs R) i v = 13 := by unfold rsetErr; rw [szs_len, if_neg (by omega), if_neg (by omega), if_pos c4]
  have e2 : rsetTo (szs R) i v = [] := by unfold rsetTo; rw [e1]; rfl
  rw [e1, e2] at KS
  rw [decide_eq_false c3] at KW
  obtain ⟨x1, x2, _, _, _, l1⟩ := g1
  obtain ⟨w0, e0⟩ : ∃ w0, w0 = vI w a A S.length := ⟨_, rfl⟩
  rw [← e0] at V KL KS x1 x2 l1
  clear h c3 c4 e1 e2
  go_enter Tryz.func64, Tryz.ntmps64
  go_wp2_with fail
  change Calls Tryz.prog _ _ (vI w a A S.length) _
  rw [← e0]
  refine (KL.out _ (Below.refl _ _)).mono ?_
  rintro e w1 ⟨rfl, hb⟩
  have V1 := Lib.hid (V.out.below hb)
  obtain ⟨x1', x2', _, _, _, l1'⟩ := V1.out.get (.tail _ (.head _))
  have HB := Lib.hid hb
  clear hb
  go_wp2_with fail
  refine (KW.out w1).mono ?_
  rintro e w2 ⟨rfl, rfl⟩
  go_wp2_with fail
  -- 13 the error
  refine (KS.out _ (HB.out)).mono ?_
  rintro e w2 ⟨r, rfl, hr, hb⟩
  have V2 := Lib.hid (V.out.below ((HB.out).trans (hb.mono (HB.out).size)))
  obtain ⟨d1', d2', k1', k2', l2'⟩ := V2.out.get0 (.head _)
  have V3 := Lib.hid ((V2.out.zero (.head _)).alloc (.cells #[.pointer r] 27))
  obtain ⟨y1, y2, _, _, _⟩ := V3.out.get0 (.head _)
  clear hb hr
  go_wp2_with fail
  exact bodyPost_ret (v := .tuple #[ixv none none 0, .int .i64 13]) (by simp [results, Tryz.results64, go_sem, y1, y2]) rfl (V3.out.bad 13)
set_option maxRecDepth 100000 in
set_option maxHeartbeats 3200000 in
theorem iset_ok (w : World) (a A : Option Addr) (S : Sp) (R : Rws) (h : Ix w a A S R) (k : Nat) (v : Int) (b : Bool) (fv : Fits v) (c2 : k < R.length) (c3 : ¬ (v < 1 ∨ 2305843009213693952 < v)) (c4 : ¬ 4611686018427387904 - ((szs R).sum - lf (szs R) k) < v) :
    Calls Tryz.prog 64 #[ixv a A S.length, .int .i64 k, .int .i64 v, .bool b] w (IPost w (setR R k v b) 0) := by
  have V := Lib.hid (vI_x h)
  have g1 := V.out.get (.tail _ (.head _))
  have hle := h.le
  have fi : Fits (k : Int) := ⟨by omega, by omega⟩
  have KL := Lib.hid (fun W (hW : Below (vI w a A S.length).heap.size (vI w a A S.length) W) => ilen_any W a A S.length R (g1.ix.rp.below hW))
  have KW := Lib.hid (fun W => wrong_any W v fv)
  have KS := Lib.hid (fun W (hW : Below (vI w a A S.length).heap.size (vI w a A S.length) W) => rset_any W a (szs R) (g1.ix.rp.below hW) h.ok k v fi fv)
  have e1 : rsetErr (szs R) k v = 0 := by unfold rsetErr; rw [szs_len, if_neg (by omega), if_neg (by omega), Int.toNat_natCast, if_neg c4]
  have e2 : rsetTo (szs R) k v = szs (setR R k v b) := by unfold rsetTo; rw [e1, szs_setR]; rfl
  rw [e1, e2] at KS
  rw [decide_eq_false c3] at KW
  have eL : (setR R k v b).length = R.length := by unfold setR; rw [List.length_append, List.length_cons, List.length_take, List.length_drop]; omega
  have OK : Hid (LOk (szs (setR R k v b))) := by rw [szs_setR]; exact rset_ok h.ok (by rw [szs_len]; exact c2) (by omega) (by omega)
  have PS : Hid (∀ x ∈ szs (setR R k v b), 1 ≤ x ∧ x ≤ 2305843009213693952) := fun x hx => by
    rw [szs_setR] at hx
    rcases mem_take_drop hx with rfl | hx
    · omega
    · exact h.ps x hx
  have LE : Hid ((setR R k v b).length ≤ 1024) := by show _ ≤ _; omega
  have KN : Hid (∀ T, KnS T (markF (kn R) k (k + 1) b) → KnS T (kn (setR R k v b))) := fun T hT => hT.congr (fun j => (kn_setR R c2 v b j).symm)
  have KM := Lib.hid (fun W (hW : Below (vI w a A S.length).heap.size (vI w a A S.length) W) => marked_any W A _ S (kn R) R.length k (k + 1) b (g1.ix.sp.below hW) hW.size h.ks h.lt (by omega) (by omega) (by omega))
  obtain ⟨x1, x2, _, _, _, l1⟩ := g1
  obtain ⟨R', eR⟩ : ∃ R', R' = setR R k v b := ⟨_, rfl⟩
  rw [← eR] at OK PS LE KN KS ⊢
  obtain ⟨w0, e0⟩ : ∃ w0, w0 = vI w a A S.length := ⟨_, rfl⟩
  rw [← e0] at V KL KS KM x1 x2 l1
  clear h c3 c4 e1 e2 eL eR
  go_enter Tryz.func64, Tryz.ntmps64
  go_wp2_with fail
  change Calls Tryz.prog _ _ (vI w a A S.length) _
  rw [← e0]
  refine (KL.out _ (Below.refl _ _)).mono ?_
  rintro e w1 ⟨rfl, hb⟩
  have V1 := Lib.hid (V.out.below hb)
  obtain ⟨x1', x2', _, _, _, l1'⟩ := V1.out.get (.tail _ (.head _))
  have HB := Lib.hid hb
  clear hb
  go_wp2_with fail
  refine (KW.out w1).mono ?_
  rintro e w2 ⟨rfl, rfl⟩
  go_wp2_with fail
  refine (KS.out _ HB.out).mono ?_
  rintro e w3 ⟨r, rfl, hr, hb⟩
  have HB3 := Lib.hid (HB.out.trans (hb.mono HB.out.size))
  have HR := Lib.hid hr
  have V3 := Lib.hid (V.out.below HB3.out)
  obtain ⟨x1, x2, _, _, _, l1⟩ := V3.out.get (.tail _ (.head _))
  obtain ⟨y1, y2, y3, y4, l2⟩ := V3.out.get0 (.head _)
  clear hb hr x1' x2' l1'
  go_wp2_with fail
  -- w3: the world in which the rope r has come (HR, V3, HB3); now it has its variable
  have V4 := Lib.hid (V3.out.alloc (.cells #[.pointer r] 27))
  have VR := Lib.hid (Var.mk w3 27 (.pointer r))
  have HR4 := Lib.hid (HR.out.below ((Below.refl _ w3).alloc (Nat.le_refl _) (.cells #[.pointer r] 27)))
  have HB4 := Lib.hid (HB3.out.alloc HB3.out.size (.cells #[.pointer r] 27))
  obtain ⟨w4, e4⟩ : ∃ w4, w4 = w3.alloc (.cells #[.pointer r] 27) := ⟨_, rfl⟩
  rw [← e4] at V4 VR HR4 HB4
  have E4 := Lib.hid e4
  clear e4 x1 x2 y1 y2 y3 y4
  change Code.wp _ _ _ _ (w3.alloc _)
  rw [← E4.out]
  obtain ⟨x1, x2, _, _, _, l3⟩ := V4.out.get (.tail _ (.head _))
  obtain ⟨y1, y2, y3, y4, l4⟩ := V4.out.get0 (.head _)
  have v1 := VR.out.c
  have l5 := World.rowIs.lt VR.out
  have n1 : ¬ w3.heap.size = w.heap.size + 1 := by omega
  have n2 : ¬ w.heap.size = w.heap.size + 1 := by omega
  have S0 : Hid (Fr (fun b => b = w.heap.size + 1) w4 w4.drew) := (Fr.refl _ _).drawn ⟨1, rfl⟩
  refine wp_region_plan [(false, 0), (false, 1), (false, 2), (false, 3), (false, 4), (false, 5), (false, 6), (true, 7), (true, 8), (false, 9), (false, 10), (true, 11), (false, 12)] (Fr (fun b => b = w.heap.size + 1) w4) (by kernel_rfl) (by kernel_rfl) (S0.out) _ (by simp only [pickH, List.getElem?_toArray, List.getElem?_cons_succ, List.getElem?_cons_zero]; rfl) ?_
  repeat (refine HWalk.step (fun K hK => ?_); first | (apply held_yes; (focus rfl); (focus (intro w' hw; have hc' := fr_cells hw; go_simp; rfl)); (go_simp; refine hK _ ?_; clear hK K)) | (refine ite_no (by decide) ?_; go_simp; refine hK _ ?_; clear hK K))
  clear x1 x2 y1 y2 y3 y4 v1 l3 l4 l5
  refine HWalk.mark ?_
  go_wp2_with fail
  refine (KM.out w4.drew HB4.out.drew).mono ?_
  rintro e w5 ⟨A5, S5, rfl, p1, p2, p3⟩
  have B5 : Hid (Below w4.heap.size w4 w5) := ((Below.refl _ w4).drew).trans p3
  have KP := Lib.hid (with_ok w5 r A5 S5 R' ⟨HR4.out.below B5.out, p1, KN.out _ p2, OK.out, LE.out, PS.out⟩)
  have S1 := Lib.hid (Fr.of_below (S := fun b => b = w.heap.size + 1) B5.out)
  clear p1 p2 p3
  go_wp2_with fail
  refine ⟨S1.out, ?_⟩
  repeat (refine HWalk.step (fun K hK => ?_); first | (apply held_yes; (focus rfl); (focus (intro w' hw; have hc' := fr_cells hw; go_simp; rfl)); (go_simp; refine hK _ ?_; clear hK K)) | (refine ite_no (by decide) ?_; go_simp; refine hK _ ?_; clear hK K))
  refine HWalk.mark ?_
  go_wp2_with fail
  refine (KP.out).mono ?_
  rintro e w6 ⟨a6, A6, S6, rfl, q1, q2⟩
  have B6 : Hid (Below w4.heap.size w4 w6) := B5.out.trans (q2.mono B5.out.size)
  have V6 := Lib.hid (V4.out.below B6.out)
  obtain ⟨y1, y2, y3, y4, l4⟩ := V6.out.get0 (.head _)
  have V7 := Lib.hid (V6.out.put1 (.head _) q1)
  obtain ⟨z1, z2, _, _, _, _⟩ := V7.out.get (.head _)
  have S2 := Lib.hid (Fr.of_below (S := fun b => b = w.heap.size + 1) B6.out)
  have S3 := Lib.hid ((S2.out.setCell (p := ⟨w.heap.size + 1, 0, none⟩) rfl (.pointer a6)).setCell (p := ⟨w.heap.size + 1, 1, none⟩) rfl (.slice A6 S6.length S6.length))
  clear q1 q2 KP
  go_wp2_with fail
  refine ⟨S2.out, ?_⟩
  repeat (refine HWalk.step (fun K hK => ?_); first | (apply held_yes; (focus rfl); (focus (intro w' hw; have hc' := fr_cells hw; go_simp; rfl)); (go_simp; refine hK _ ?_; clear hK K)) | (refine ite_no (by decide) ?_; go_simp; refine hK _ ?_; clear hK K))
  refine HWalk.mark ?_
  go_wp2_with fail
  refine ⟨S3.out, ?_⟩
  repeat (refine HWalk.step (fun K hK => ?_); first | (apply held_yes; (focus rfl); (focus (intro w' hw; have hc' := fr_cells hw; go_simp; rfl)); (go_simp; refine hK _ ?_; clear hK K)) | (refine ite_no (by decide) ?_; go_simp; refine hK _ ?_; clear hK K))
  refine HWalk.done ?_
  go_wp2_with fail
  go_wp2_with fail
  exact bodyPost_ret (v := .tuple #[ixv a6 A6 S6.length, .int .i64 0]) (by simp [results, Tryz.results64, go_sem, z1, z2]) rfl ⟨a6, A6, S6, rfl, (V7.out.get (.head _)).ix, V7.out.bl⟩
end Go.Proofs.YtfmfmeiaekknbaaGreat
end

section
/-
  Contracts of package sizes: Set as a whole; Remove; Unknown.
-/
namespace Go.Proofs.YtfmfmeiaekknbaaGreat
open Go.RowKit
set_option linter.unusedVariables false
set_option linter.unusedSimpArgs false

theorem IPost.cast {w : World} {R R' : Rws} {x x' : Int} {e : Ending} {w' : World} (h : IPost w R x e w') (e1 : R = R') (e2 : x = x') : IPost w R' x' e w' := by subst e1; subst e2; exact h
theorem iset_any (w : World) (a A : Option Addr) (S : Sp) (R : Rws) (h : Ix w a A S R) (i v : Int) (b : Bool) (fi : Fits i) (fv : Fits v) :
    Calls Tryz.prog 64 #[ixv a A S.length, .int .i64 i, .int .i64 v, .bool b] w (IPost w (isetTo R i v b) (isetErr R i v)) := by
  unfold isetTo isetErr
  by_cases c1 : i < 0 ∨ (R.length : Int) ≤ i
  · rw [if_pos c1, if_neg (by decide)]
    exact iset_bad w a A S R h i v b fi fv c1
  rw [if_neg c1]
  by_cases c2 : v < 1 ∨ 2305843009213693952 < v
  · rw [if_pos c2, if_neg (by decide)]
    exact iset_wrong w a A S R h i v b fi fv (by omega) (by omega) c2
  rw [if_neg c2]
  by_cases c3 : 4611686018427387904 - ((szs R).sum - lf (szs R) i.toNat) < v
  · rw [if_pos c3, if_neg (by decide)]
    exact iset_over w a A S R h i v b fi fv (by omega) (by omega) c2 c3
  rw [if_neg c3, if_pos rfl]
  obtain ⟨k, rfl⟩ : ∃ k : Nat, i = (k : Int) := ⟨i.toNat, by omega⟩
  rw [Int.toNat_natCast] at c3 ⊢
  exact iset_ok w a A S R h k v b fv (by omega) c2 c3

theorem insF_lt {p : Nat → Bool} {m a n : Nat} (hm : ∀ j, p j = true → j < m) : ∀ j, insF p a n j = true → j < m + n := by
  intro j hj
  unfold insF at hj
  by_cases c1 : j < a
  · rw [if_pos c1] at hj; have := hm j hj; omega
  · rw [if_neg c1] at hj
    by_cases c2 : j < a + n
    · rw [if_pos c2] at hj; cases hj
    · rw [if_neg c2] at hj; have := hm _ hj; omega
theorem remF_lt {p : Nat → Bool} {m a n : Nat} (hm : ∀ j, p j = true → j < m) : ∀ j, remF p a n j = true → j < m := by
  intro j hj
  unfold remF at hj
  by_cases c1 : j < a
  · rw [if_pos c1] at hj; exact hm j hj
  · rw [if_neg c1] at hj; have := hm _ hj; omega
theorem remF_lt2 {p : Nat → Bool} {m a n : Nat} (hm : ∀ j, p j = true → j < m) (ha : a + n ≤ m) : ∀ j, remF p a n j = true → j < m - n := by
  intro j hj
  unfold remF at hj
  by_cases c1 : j < a
  · omega
  · rw [if_neg c1] at hj; have := hm _ hj; omega
theorem sins_small (w : World) (A : Option Addr) (B : Nat) (S : Sp) (p : Nat → Bool) (m a n : Nat) (h : SeesP w B A S) (hB : B ≤ w.heap.size) (hk : KnS S p) (hm : ∀ j, p j = true → j < m) (h8 : m + n ≤ 8000) (ha : a ≤ 8000) :
    Calls Tryz.prog 97 #[.slice A S.length S.length, .int .i64 a, .int .i64 n] w (KEPost w (insF p a n)) := by
  have hS := hk.len hm
  have hE := hk.end_le hm
  refine (insert_any w B A S.length S a n h hB hk.nf.fits (by omega) ⟨by omega, by omega⟩ ⟨by omega, by omega⟩).mono ?_
  have hr := rngS_ok hk hm (by omega) (a := a) (n := n) (by omega) (by omega)
  rintro e w' (⟨hx, _⟩ | ⟨_, hx, _⟩ | ⟨_, _, R, hi, A', h1, h2, h3⟩)
  · exact absurd hr hx
  · omega
  · have hkr := ins_kn hk hi
    have hl := hkr.len (insF_lt hm)
    obtain ⟨e1, e2⟩ := dE_ok (R := R) (by omega)
    rw [e1, e2] at h1
    rw [e2] at h2
    exact ⟨A', R, h1, h2, hkr, h3⟩
theorem srem_small (w : World) (A : Option Addr) (B : Nat) (S : Sp) (p : Nat → Bool) (m a n : Nat) (h : SeesP w B A S) (hB : B ≤ w.heap.size) (hk : KnS S p) (hm : ∀ j, p j = true → j < m) (h8 : m ≤ 8000) (ha : a ≤ 8000) (hn : n ≤ 8000) :
    Calls Tryz.prog 96 #[.slice A S.length S.length, .int .i64 a, .int .i64 n] w (KEPost w (remF p a n)) := by
  have hS := hk.len hm
  refine (remove_any w B A S.length S a n h hB hk.nf.fits (by omega) ⟨by omega, by omega⟩ ⟨by omega, by omega⟩).mono ?_
  have hr := rngS_ok hk hm (by omega) (a := a) (n := n) (by omega) (by omega)
  rintro e w' (⟨hx, _⟩ | ⟨_, R, hi, A', h1, h2, h3⟩)
  · exact absurd hr hx
  · have hkr := rem_kn hk hi
    have hl := hkr.len (remF_lt hm)
    obtain ⟨e1, e2⟩ := dE_ok (R := R) (by omega)
    rw [e1, e2] at h1
    rw [e2] at h2
    exact ⟨A', R, h1, h2, hkr, h3⟩

end Go.Proofs.YtfmfmeiaekknbaaGreat
end

section
/-
  Contracts of package sizes: Unknown.
-/
namespace Go.Proofs.YtfmfmeiaekknbaaGreat
open Go.RowKit
set_option linter.unusedVariables false
set_option linter.unusedSimpArgs false

/-- How far the spans have been looked at. -/
structure UnkTo (S : Sp) (x : Int) (k : Nat) (f : Int) : Prop where
  le : x ≤ f
  me : ∀ j, x ≤ j → j < f → memS S j
  no : ∀ s ∈ S.take k, ¬ (s.1 ≤ f ∧ f < s.2)
  hi : f ≤ 1073741824 ∨ f = x
theorem UnkTo.skip {S : Sp} {x : Int} {k : Nat} {f : Int} (h : UnkTo S x k f) (hk : k < S.length) (hn : ¬ ((sg S k).1 ≤ f ∧ f < (sg S k).2)) : UnkTo S x (k + 1) f :=
  ⟨h.le, h.me, fun s hs => by
    rw [List.take_succ_eq_append_getElem hk, ← sg_get S hk] at hs
    rcases List.mem_append.1 hs with hs | hs
    · exact h.no s hs
    · rw [List.mem_singleton.1 hs]; exact hn, h.hi⟩
theorem UnkTo.take {S : Sp} (hN : NF S) {x : Int} {k : Nat} {f : Int} (h : UnkTo S x k f) (hk : k < S.length) (h1 : (sg S k).1 ≤ f) (h2 : f < (sg S k).2) : UnkTo S x (k + 1) (sg S k).2 := by
  obtain ⟨q1, q2, q3, q4, q5⟩ := take_end hN hk
  have e : S = S.take k ++ S.drop k := (List.take_append_drop k S).symm
  have hT : NFfrom (-1) (S.take k) := by have hN' := hN; unfold NF at hN'; rw [e] at hN'; exact (NFfrom.append.1 hN').1
  refine ⟨by have := h.le; omega, fun j j1 j2 => ?_, fun s hs => ?_, .inl q3⟩
  · by_cases c : j < f
    · exact h.me j j1 c
    · exact ⟨sg S k, sg_mem S hk, by omega, j2⟩
  · rw [List.take_succ_eq_append_getElem hk, ← sg_get S hk] at hs
    rcases List.mem_append.1 hs with hs | hs
    · have := (NFfrom.mem hT s hs).2.2.1
      omega
    · rw [List.mem_singleton.1 hs]; omega
end Go.Proofs.YtfmfmeiaekknbaaGreat
end

section
/-
  Contracts of package sizes: Insert.
-/
namespace Go.Proofs.YtfmfmeiaekknbaaGreat
open Go.RowKit
set_option linter.unusedVariables false
set_option linter.unusedSimpArgs false

/-- The error of sizes that come in: as chkTo, but each one is at least 1. -/
def ckZ (l : Nat → Int) : Nat → Int
  | 0 => 0
  | k + 1 => if ckZ l k = 0 then (if l k < 1 ∨ 2305843009213693952 < l k then 12 else if 4611686018427387904 - psum l k < l k then 13 else 0) else ckZ l k
theorem ckZ_stays (l : Nat → Int) {k : Nat} (h : ckZ l k ≠ 0) : ∀ {m}, k ≤ m → ckZ l m = ckZ l k := by
  intro m hm
  induction m with
  | zero => rw [show k = 0 from by omega]
  | succ m ih =>
    by_cases e : k = m + 1
    · rw [e]
    · have := ih (by omega)
      rw [← this] at h ⊢
      show (if ckZ l m = 0 then _ else ckZ l m) = _
      rw [if_neg h]
theorem ckZ_12 (l : Nat → Int) {k : Nat} (h : ckZ l k = 0) (hb : l k < 1 ∨ 2305843009213693952 < l k) : ckZ l (k + 1) = 12 := by
  unfold ckZ; rw [if_pos h, if_pos hb]
theorem ckZ_zero (l : Nat → Int) : ∀ {k : Nat}, ckZ l k = 0 → chkTo l k = 0 ∧ ∀ j, j < k → 1 ≤ l j ∧ l j ≤ 2305843009213693952 := by
  intro k
  induction k with
  | zero => intro _; exact ⟨rfl, fun j hj => by omega⟩
  | succ k ih =>
    intro h
    have h0 : ckZ l k = 0 := by
      apply Classical.byContradiction; intro c
      rw [ckZ_stays l c (Nat.le_succ k)] at h; exact c h
    obtain ⟨i1, i2⟩ := ih h0
    unfold ckZ at h
    rw [if_pos h0] at h
    by_cases a : l k < 1 ∨ 2305843009213693952 < l k
    · rw [if_pos a] at h; exact absurd h (by decide)
    rw [if_neg a] at h
    by_cases b : 4611686018427387904 - psum l k < l k
    · rw [if_pos b] at h; exact absurd h (by decide)
    refine ⟨chkTo_0 l i1 (by omega) (by omega) (by omega), fun j hj => ?_⟩
    by_cases e : j = k
    · subst e; omega
    · exact i2 j (by omega)
theorem ckZ_next (l : Nat → Int) {k : Nat} (h : ckZ l k = 0) (hb : ¬ (l k < 1 ∨ 2305843009213693952 < l k)) : ckZ l (k + 1) = chkTo l (k + 1) := by
  obtain ⟨h1, _⟩ := ckZ_zero l h
  unfold ckZ chkTo
  rw [if_pos h, if_pos h1, if_neg hb, if_neg (show ¬ (l k < 0 ∨ 2305843009213693952 < l k) from by omega)]
def iinsErr (R : Rws) (i : Int) (Z : List Int) : Int := if i < 0 ∨ (R.length : Int) < i then 4 else if 1024 < R.length + Z.length then 3 else if ckZ (lf Z) Z.length ≠ 0 then ckZ (lf Z) Z.length else if 4611686018427387904 - Z.sum < (szs R).sum then 13 else 0
def iinsTo (R : Rws) (i : Int) (Z : List Int) (b : Bool) : Rws := if iinsErr R i Z = 0 then insR R i.toNat Z b else []
theorem infoI64_1 : (Tryz.prog.info? 2).map (·.size) = some 1 := by kernel_rfl
theorem slL_h (A : Option Addr) (n c hi : Nat) (h2 : hi ≤ c) : ∀ wx, (Instr.sliceAt 34 (.slice A n c) none (some (.int .i64 hi)) none).run Tryz.prog wx = .ok (.slice A hi c) wx :=
  fun wx => slice_h Tryz.underlying34 infoI64_1 A n c hi h2 wx
theorem len_insR (R : Rws) {k : Nat} (h : k ≤ R.length) (Z : List Int) (b : Bool) : (insR R k Z b).length = R.length + Z.length := by
  unfold insR; rw [List.length_append, List.length_append, List.length_take, List.length_drop, List.length_map]; omega
theorem mem_insR {R : Rws} {k : Nat} {Z : List Int} {b : Bool} {x : Int} (h : x ∈ szs (insR R k Z b)) : x ∈ szs R ∨ x ∈ Z := by
  rw [szs_insR] at h
  unfold insL at h
  rcases List.mem_append.1 h with h | h
  · rcases List.mem_append.1 h with h | h
    · exact .inl (List.mem_of_mem_take h)
    · exact .inr h
  · exact .inl (List.mem_of_mem_drop h)
theorem insErr_13 {L Z : List Int} {k : Nat} (hk : k ≤ L.length) (hc : chkL Z = 0) (hl : L.length + Z.length ≤ 1024) : insErr L k Z = if 4611686018427387904 - Z.sum < L.sum then 13 else 0 := by
  unfold insErr joinErr
  rw [if_neg (by omega), hc, if_neg (by simp), if_neg (by omega)]

set_option maxRecDepth 100000 in
set_option maxHeartbeats 3200000 in
theorem iinsert_any (w : World) (a A : Option Addr) (S : Sp) (R : Rws) (h : Ix w a A S R) (i : Int) (A2 : Option Addr) (c B2 : Nat) (Z : List Int) (b : Bool) (fi : Fits i) (hs : SeesL w B2 A2 Z) (hB : B2 ≤ w.heap.size) (hc : Z.length ≤ c) (hm : c ≤ maxLen) (hn : Z.length ≤ 1000000000000000) (hf : ∀ x ∈ Z, Fits x) :
    Calls Tryz.prog 46 #[ixv a A S.length, .int .i64 i, .slice A2 Z.length c, .bool b] w (IPost w (iinsTo R i Z b) (iinsErr R i Z)) := by
  have V := Lib.hid (vI_x h)
  have g1 := V.out.get (.tail _ (.head _))
  have hle := h.le
  have b0 : Below w.heap.size w (vI w a A S.length) := V.out.bl
  have KL := Lib.hid (fun W (hW : Below (vI w a A S.length).heap.size (vI w a A S.length) W) => ilen_any W a A S.length R (g1.ix.rp.below hW))
  unfold iinsTo
  by_cases c1 : i < 0
  · have e1 : iinsErr R i Z = 4 := if_pos (.inl c1)
    rw [e1, if_neg (by decide)]
    clear h g1 KL e1 hs hf
    go_enter Tryz.func46, Tryz.ntmps46
    go_wp2_with fail
    exact bodyPost_ret (v := .tuple #[ixv none none 0, .int .i64 4]) (by simp [results, Tryz.results46, go_sem]) rfl ⟨none, none, [], rfl, Ix.new _, b0⟩
  by_cases c1' : (R.length : Int) < i
  · have e1 : iinsErr R i Z = 4 := if_pos (.inr c1')
    rw [e1, if_neg (by decide)]
    obtain ⟨x1, x2, _, _, _, l1⟩ := g1
    obtain ⟨w0, e0⟩ : ∃ w0, w0 = vI w a A S.length := ⟨_, rfl⟩
    rw [← e0] at V KL x1 x2 l1
    clear h e1 b0 hs hf
    go_enter Tryz.func46, Tryz.ntmps46
    go_wp2_with fail
    change Calls Tryz.prog _ _ (vI w a A S.length) _
    rw [← e0]
    refine (KL.out _ (Below.refl _ _)).mono ?_
    rintro e w1 ⟨rfl, hb⟩
    have V1 := Lib.hid (V.out.below hb)
    clear hb x1 x2 l1
    obtain ⟨d1', d2', k1', k2', l2'⟩ := V1.out.get0 (.head _)
    have VZ := Lib.hid (V1.out.zero (.head _))
    obtain ⟨z1, z2, _, _, _⟩ := VZ.out.get0 (.head _)
    go_wp2_with fail
    exact bodyPost_ret (v := .tuple #[ixv none none 0, .int .i64 4]) (by simp [results, Tryz.results46, go_sem, z1, z2]) rfl (VZ.out.bad 4)
  obtain ⟨k, rfl⟩ : ∃ k : Nat, i = (k : Int) := ⟨i.toNat, by omega⟩
  by_cases c2 : 1024 < R.length + Z.length
  · have e1 : iinsErr R k Z = 3 := by unfold iinsErr; rw [if_neg (by omega), if_pos c2]
    rw [e1, if_neg (by decide)]
    obtain ⟨x1, x2, _, _, _, l1⟩ := g1
    obtain ⟨w0, e0⟩ : ∃ w0, w0 = vI w a A S.length := ⟨_, rfl⟩
    rw [← e0] at V KL x1 x2 l1
    obtain ⟨n, en⟩ : ∃ n, n = Z.length := ⟨_, rfl⟩
    rw [← en] at c2 hc hn ⊢
    clear h e1 b0 hs hf en
    go_enter Tryz.func46, Tryz.ntmps46
    go_wp2_with fail
    change Calls Tryz.prog _ _ (vI w a A S.length) _
    rw [← e0]
    refine (KL.out _ (Below.refl _ _)).mono ?_
    rintro e w1 ⟨rfl, hb⟩
    have V1 := Lib.hid (V.out.below hb)
    have B1 := Lib.hid hb
    obtain ⟨x1', x2', _, _, _, l1'⟩ := V1.out.get (.tail _ (.head _))
    clear hb x1 x2 l1
    go_wp2_with fail
    refine (KL.out _ B1.out).mono ?_
    rintro e w2 ⟨rfl, hb⟩
    have V2 := Lib.hid (V1.out.below hb)
    clear hb x1' x2' l1'
    obtain ⟨d1', d2', k1', k2', l2'⟩ := V2.out.get0 (.head _)
    have VZ := Lib.hid (V2.out.zero (.head _))
    obtain ⟨z1, z2, _, _, _⟩ := VZ.out.get0 (.head _)
    go_wp2_with fail
    exact bodyPost_ret (v := .tuple #[ixv none none 0, .int .i64 3]) (by simp [results, Tryz.results46, go_sem, z1, z2]) rfl (VZ.out.bad 3)
  have e1 : iinsErr R k Z = if ckZ (lf Z) Z.length ≠ 0 then ckZ (lf Z) Z.length else if 4611686018427387904 - Z.sum < (szs R).sum then 13 else 0 := by unfold iinsErr; rw [if_neg (by omega), if_neg c2]
  rw [e1, Int.toNat_natCast]
  have KI := Lib.hid (fun W (hW : Below (vI w a A S.length).heap.size (vI w a A S.length) W) => rinsert_any W a (szs R) (g1.ix.rp.below hW) h.ok k A2 c B2 Z ((hs.below (b0.mono hB)).below (hW.mono (by have := b0.size; omega))) (by have := hW.size; have := b0.size; omega) hc hm hn hf)
  have KW := Lib.hid (fun W x (fx : Fits x) => wrong_any W x fx)
  have HS := Lib.hid (fun W (hW : Below (vI w a A S.length).heap.size (vI w a A S.length) W) => (hs.below (b0.mono hB)).below (hW.mono (show B2 ≤ (vI w a A S.length).heap.size from by have := b0.size; omega)))
  have KC := Lib.hid (fun W j (hj : j ≤ Z.length) (hW : Below (vI w a A S.length).heap.size (vI w a A S.length) W) => fcheck_any A2 j c (lf Z) W B2 (fun h0 => by
    obtain ⟨b', o', q1, q2, q3⟩ := HS.out W hW (by omega)
    exact ⟨b', o', q1, q2, fun t ht => q3 t (by omega)⟩) (lf_fits hf) (by omega))
  have KSI := Lib.hid (fun W (hW : Below (vI w a A S.length).heap.size (vI w a A S.length) W) => sins_small W A _ S (kn R) R.length k Z.length (g1.ix.sp.below hW) hW.size h.ks h.lt (by omega) (by omega))
  have FZ := Lib.hid (lf_fits hf)
  have SL : Hid (∀ j, j ≤ c → ∀ wx, (Instr.sliceAt 34 (.slice A2 Z.length c) none (some (.int .i64 (j : Nat))) none).run Tryz.prog wx = .ok (.slice A2 j c) wx) := fun j hj => slL_h A2 Z.length c j hj
  have HIX := Lib.hid h
  obtain ⟨x1, x2, _, _, _, l1⟩ := g1
  obtain ⟨w0, e0⟩ : ∃ w0, w0 = vI w a A S.length := ⟨_, rfl⟩
  rw [← e0] at V KL KI HS KC KSI x1 x2 l1
  obtain ⟨n, en⟩ : ∃ n, n = Z.length := ⟨_, rfl⟩
  have EN := Lib.hid en
  rw [← en] at c2 hc hn KI HS KC KSI SL ⊢
  obtain ⟨err, eerr⟩ : ∃ err, err = (if ckZ (lf Z) n ≠ 0 then ckZ (lf Z) n else if 4611686018427387904 - Z.sum < (szs R).sum then 13 else 0) := ⟨_, rfl⟩
  rw [← eerr]
  obtain ⟨RR, eRR⟩ : ∃ RR, RR = (if err = 0 then insR R k Z b else []) := ⟨_, rfl⟩
  rw [← eRR]
  have XX : Hid (∀ j, j ≤ n → ckZ (lf Z) j ≠ 0 → ckZ (lf Z) j = err ∧ RR = []) := fun j hj h0 => by
    have h1 := ckZ_stays (lf Z) h0 hj
    have h2 : err = ckZ (lf Z) j := by rw [eerr, h1, if_pos h0]
    exact ⟨h2.symm, by rw [eRR, if_neg (by rw [h2]; exact h0)]⟩
  have EE := Lib.hid eerr
  have ER := Lib.hid eRR
  clear h e1 b0 hs hf en eerr eRR
  go_enter Tryz.func46, Tryz.ntmps46
  go_wp2_with fail
  change Calls Tryz.prog _ _ (vI w a A S.length) _
  rw [← e0]
  refine (KL.out _ (Below.refl _ _)).mono ?_
  rintro e w1 ⟨rfl, hb⟩
  have V1 := Lib.hid (V.out.below hb)
  have B1 := Lib.hid hb
  obtain ⟨x1', x2', _, _, _, l1'⟩ := V1.out.get (.tail _ (.head _))
  clear hb x1 x2 l1
  go_wp2_with fail
  refine (KL.out _ B1.out).mono ?_
  rintro e w2 ⟨rfl, hb⟩
  have V2 := Lib.hid (V1.out.below hb)
  have B2' := Lib.hid (B1.out.trans (hb.mono B1.out.size))
  clear hb x1' x2' l1'
  go_wp2_with fail
  go_loopw [36] (fun i wr => ∃ j : Nat, j ≤ n ∧ i = .int .i64 j ∧ Hid (ckZ (lf Z) j = 0) ∧ Hid (LX w wr [(w.heap.size + 1, none, none, [], []), (w.heap.size, a, A, S, R)] []) ∧ Hid (Below w0.heap.size w0 wr)) (fun i _ => n - (intOf i).toNat)
  case atStart => exact ⟨0, Nat.zero_le _, rfl, rfl, V2, B2'⟩
  case round =>
    obtain ⟨j, hj, rfl, h0, V3, B3⟩ := hrel
    clear V V1 V2 B1 B2'
    by_cases hlt : j < n
    · obtain ⟨b', o', hA', hb0, hcell⟩ := (HS.out wr B3.out).at_ (k := j) hlt
      subst hA'
      rw [i64s_at] at hcell
      have fz := FZ.out j
      have K1 := Lib.hid (KW.out wr (lf Z j) fz)
      by_cases g : lf Z j < 1 ∨ 2305843009213693952 < lf Z j
      · rw [decide_eq_true g] at K1
        obtain ⟨q1, q2⟩ := XX.out (j + 1) hlt (by rw [ckZ_12 _ h0.out g]; decide)
        rw [ckZ_12 _ h0.out g] at q1
        subst q2
        subst q1
        clear g XX EE ER
        go_wp2_with fail
        refine (K1.out).mono ?_
        rintro e w3 ⟨rfl, rfl⟩
        obtain ⟨d1', d2', k1', k2', l2'⟩ := V3.out.get0 (.head _)
        have VZ := Lib.hid (V3.out.zero (.head _))
        obtain ⟨z1, z2, _, _, _⟩ := VZ.out.get0 (.head _)
        go_wp2_with fail
        exact bodyPost_ret (v := .tuple #[ixv none none 0, .int .i64 12]) (by simp [results, Tryz.results46, go_sem, z1, z2]) rfl (VZ.out.bad 12)
      · rw [decide_eq_false g] at K1
        have SJ : ∀ wx, (Instr.sliceAt 34 (.slice (some ⟨b', o', none⟩) n c) none (some (.int .i64 ((j : Int) + 1))) none).run Tryz.prog wx = .ok (.slice (some ⟨b', o', none⟩) (j + 1) c) wx := fun wx => by
          have := SL.out (j + 1) (by omega) wx
          rwa [show ((j + 1 : Nat) : Int) = (j : Int) + 1 from by omega] at this
        have K2 := Lib.hid (KC.out wr (j + 1) hlt B3.out)
        have e3 : chk (lf Z) (j + 1) = ckZ (lf Z) (j + 1) := by unfold chk; rw [if_neg (by omega), ckZ_next _ h0.out g]
        rw [e3] at K2
        obtain ⟨x, hx⟩ : ∃ x, x = ckZ (lf Z) (j + 1) := ⟨_, rfl⟩
        have hxH := Lib.hid hx
        rw [← hx] at K2
        have XJ : Hid (x ≠ 0 → x = err ∧ RR = []) := by rw [hx]; exact XX.out (j + 1) hlt
        clear g e3 hx fz
        go_wp2_with fail
        refine (K1.out).mono ?_
        rintro e w3 ⟨rfl, rfl⟩
        go_wp2_with fail
        refine (K2.out).mono ?_
        rintro e w4 ⟨rfl, rfl⟩
        clear SJ
        by_cases hx0 : x = 0
        · have hck : Hid (ckZ (lf Z) (j + 1) = 0) := by show _ = _; rw [← hxH.out]; exact hx0
          subst hx0
          clear hxH XJ
          go_wp2_with fail
          go_roundw
          case rel => exact ⟨j + 1, by omega, by go_num, hck, V3, B3⟩
          case measure => simp [intOf]; omega
        · obtain ⟨q1, q2⟩ := XJ.out hx0
          subst q2
          subst q1
          have xb : (x != 0) = true := by rw [bne_iff_ne]; exact hx0
          clear hxH XJ XX EE ER
          obtain ⟨d1', d2', k1', k2', l2'⟩ := V3.out.get0 (.head _)
          have VZ := Lib.hid (V3.out.zero (.head _))
          obtain ⟨z1, z2, _, _, _⟩ := VZ.out.get0 (.head _)
          go_wp2_with fail
          exact bodyPost_ret (v := .tuple #[ixv none none 0, .int .i64 x]) (by simp [results, Tryz.results46, go_sem, z1, z2]) rfl (VZ.out.bad x)
    · obtain rfl : j = n := by omega
      have hz := h0.out
      obtain ⟨z1, z2⟩ := ckZ_zero _ hz
      have hcz : chkL Z = 0 := by unfold chkL chk; rw [← EN.out, if_neg (by omega)]; exact z1
      have hER : err = if 4611686018427387904 - Z.sum < (szs R).sum then 13 else 0 := by rw [EE.out, if_neg (by rw [hz]; simp)]
      have hIE := insErr_13 (L := szs R) (Z := Z) (k := k) (by rw [szs_len]; omega) hcz (by rw [szs_len, ← EN.out]; omega)
      rw [← hER] at hIE
      have K5 := Lib.hid (KI.out wr B3.out)
      have hIT : insTo (szs R) k Z = if err = 0 then insL (szs R) k Z else [] := by unfold insTo; rw [hIE, Int.toNat_natCast]
      rw [hIE, hIT] at K5
      obtain ⟨x1, x2, _, _, _, l1⟩ := V3.out.get (.tail _ (.head _))
      by_cases g : 4611686018427387904 - Z.sum < (szs R).sum
      · rw [if_pos g] at hER
        have hRR : RR = [] := by rw [ER.out, hER]; rfl
        rw [hER] at K5
        clear XX EE ER
        subst hER
        subst hRR
        clear hIE hIT g z1 z2 hz hcz KSI
        go_wp2_with fail
        refine (K5.out).mono ?_
        rintro e w3 ⟨r, rfl, hr, hb⟩
        have V4 := Lib.hid (V3.out.below hb)
        obtain ⟨d1', d2', k1', k2', l2'⟩ := V4.out.get0 (.head _)
        have VZ := Lib.hid ((V4.out.zero (.head _)).alloc (.cells #[.pointer r] 27))
        obtain ⟨z1, z2, _, _, _⟩ := VZ.out.get0 (.head _)
        clear hb hr x1 x2 l1
        go_wp2_with fail
        exact bodyPost_ret (v := .tuple #[ixv none none 0, .int .i64 13]) (by simp [results, Tryz.results46, go_sem, z1, z2]) rfl (VZ.out.bad 13)
      · rw [if_neg g] at hER
        have hRR : RR = insR R k Z b := by rw [ER.out, hER]; rfl
        rw [hER, if_pos rfl, ← szs_insR R k Z b, ← hRR] at K5
        have OK : Hid (LOk (szs RR)) := by
          rw [hRR, szs_insR]
          exact insL_ok (joinErr_ok HIX.out.ok (chkL_ok hcz).1 (by unfold joinErr; rw [if_neg (by rw [szs_len, ← EN.out]; omega), if_neg g])).1 k
        have PS : Hid (∀ x ∈ szs RR, 1 ≤ x ∧ x ≤ 2305843009213693952) := fun x hx => by
          rw [hRR] at hx
          rcases mem_insR hx with hx | hx
          · exact HIX.out.ps x hx
          · obtain ⟨t, ht, rfl⟩ := List.mem_iff_getElem.1 hx
            have := z2 t (by rw [EN.out]; exact ht)
            rwa [lf_get Z ht] at this
        have LE : Hid (RR.length ≤ 1024) := by show _ ≤ _; rw [hRR, len_insR R (by omega), ← EN.out]; omega
        have KN : Hid (∀ T, KnS T (markF (insF (kn R) k j) k (k + j) b) → KnS T (kn RR)) := fun T hT => hT.congr (fun t => by rw [hRR, kn_insR R (by omega), ← EN.out])
        clear hIE hIT g z1 z2 hz hcz XX EE ER hRR
        subst hER
        obtain ⟨R', eR⟩ : ∃ R', R' = RR := ⟨_, rfl⟩
        subst eR
        go_wp2_with fail
        refine (K5.out).mono ?_
        rintro e w3 ⟨r, rfl, hr, hb⟩
        have HB3 := Lib.hid (B3.out.trans (hb.mono B3.out.size))
        have VA := Lib.hid (V3.out.below hb)
        have VB := Lib.hid (VA.out.alloc (.cells #[.pointer r] 27))
        have VR0 := Lib.hid (Var.mk w3 27 (.pointer r))
        have HR0 := Lib.hid (hr.below ((Below.refl _ w3).alloc (Nat.le_refl _) (.cells #[.pointer r] 27)))
        have HB0 := Lib.hid (HB3.out.alloc HB3.out.size (.cells #[.pointer r] 27))
        clear hb hr x1 x2 l1
        obtain ⟨x1, x2, _, _, _, l1⟩ := VA.out.get (.tail _ (.head _))
        go_wp2_with fail
        refine (KSI.out _ HB0.out).mono ?_
        rintro e w4 ⟨A4, S4, rfl, p1, p2, p3⟩
        have V4 := Lib.hid (VB.out.below p3)
        have VR := Lib.hid (VR0.out.below p3)
        have HR4 := Lib.hid (HR0.out.below p3)
        have KM := Lib.hid (fun W (hW : Below w4.heap.size w4 W) => marked_any W A4 _ S4 (insF (kn R) k j) (R.length + j) k (k + j) b (p1.below hW) hW.size p2 (insF_lt HIX.out.lt) (by omega) (by omega) (by omega))
        clear p1 p2 p3 x1 x2 l1
        go_wp2_with fail
        obtain ⟨x1, x2, _, _, _, l3⟩ := V4.out.get (.tail _ (.head _))
        obtain ⟨y1, y2, y3, y4, l4⟩ := V4.out.get0 (.head _)
        have v1 := VR.out.c
        have l5 := World.rowIs.lt VR.out
        have l6 := (VA.out.get (.head _)).lt
        have n1 : ¬ w3.heap.size = w.heap.size + 1 := by omega
        have n2 : ¬ w.heap.size = w.heap.size + 1 := by omega
        have S0 : Hid (Fr (fun b => b = w.heap.size + 1) w4 w4.drew) := (Fr.refl _ _).drawn ⟨1, rfl⟩
        refine wp_region_plan [(false, 0), (false, 1), (false, 2), (false, 3), (false, 4), (false, 5), (false, 6), (false, 7), (false, 9), (true, 8), (true, 10), (false, 11), (false, 12), (true, 13), (false, 14)] (Fr (fun b => b = w.heap.size + 1) w4) (by kernel_rfl) (by kernel_rfl) (S0.out) _ (by simp only [pickH, List.getElem?_toArray, List.getElem?_cons_succ, List.getElem?_cons_zero]; rfl) ?_
        repeat (refine HWalk.step (fun K hK => ?_); first | (apply held_yes; (focus rfl); (focus (intro w' hw; have hc' := fr_cells hw; go_simp; rfl)); (go_simp; refine hK _ ?_; clear hK K)) | (refine ite_no (by decide) ?_; go_simp; refine hK _ ?_; clear hK K))
        clear l6
        clear x1 x2 y1 y2 y3 y4 v1 l3 l4 l5
        refine HWalk.mark ?_
        go_wp2_with fail
        refine (KM.out w4.drew ((Below.refl _ w4).drew)).mono ?_
        rintro e w5 ⟨A5, S5, rfl, p1, p2, p3⟩
        have B5 : Hid (Below w4.heap.size w4 w5) := ((Below.refl _ w4).drew).trans p3
        have KP := Lib.hid (with_ok w5 r A5 S5 R' ⟨HR4.out.below B5.out, p1, KN.out _ p2, OK.out, LE.out, PS.out⟩)
        have S1 := Lib.hid (Fr.of_below (S := fun b => b = w.heap.size + 1) B5.out)
        clear p1 p2 p3
        go_wp2_with fail
        refine ⟨S1.out, ?_⟩
        repeat (refine HWalk.step (fun K hK => ?_); first | (apply held_yes; (focus rfl); (focus (intro w' hw; have hc' := fr_cells hw; go_simp; rfl)); (go_simp; refine hK _ ?_; clear hK K)) | (refine ite_no (by decide) ?_; go_simp; refine hK _ ?_; clear hK K))
        refine HWalk.mark ?_
        go_wp2_with fail
        refine (KP.out).mono ?_
        rintro e w6 ⟨a6, A6, S6, rfl, q1, q2⟩
        have B6 : Hid (Below w4.heap.size w4 w6) := B5.out.trans (q2.mono B5.out.size)
        have V6 := Lib.hid (V4.out.below B6.out)
        obtain ⟨y1, y2, y3, y4, l4⟩ := V6.out.get0 (.head _)
        have V7 := Lib.hid (V6.out.put1 (.head _) q1)
        obtain ⟨z1, z2, _, _, _, _⟩ := V7.out.get (.head _)
        have S2 := Lib.hid (Fr.of_below (S := fun b => b = w.heap.size + 1) B6.out)
        have S3 := Lib.hid ((S2.out.setCell (p := ⟨w.heap.size + 1, 0, none⟩) rfl (.pointer a6)).setCell (p := ⟨w.heap.size + 1, 1, none⟩) rfl (.slice A6 S6.length S6.length))
        clear q1 q2 KP
        go_wp2_with fail
        refine ⟨S2.out, ?_⟩
        repeat (refine HWalk.step (fun K hK => ?_); first | (apply held_yes; (focus rfl); (focus (intro w' hw; have hc' := fr_cells hw; go_simp; rfl)); (go_simp; refine hK _ ?_; clear hK K)) | (refine ite_no (by decide) ?_; go_simp; refine hK _ ?_; clear hK K))
        refine HWalk.mark ?_
        go_wp2_with fail
        refine ⟨S3.out, ?_⟩
        repeat (refine HWalk.step (fun K hK => ?_); first | (apply held_yes; (focus rfl); (focus (intro w' hw; have hc' := fr_cells hw; go_simp; rfl)); (go_simp; refine hK _ ?_; clear hK K)) | (refine ite_no (by decide) ?_; go_simp; refine hK _ ?_; clear hK K))
        refine HWalk.done ?_
        go_wp2_with fail
        go_wp2_with fail
        exact bodyPost_ret (v := .tuple #[ixv a6 A6 S6.length, .int .i64 0]) (by simp [results, Tryz.results46, go_sem, z1, z2]) rfl ⟨a6, A6, S6, rfl, (V7.out.get (.head _)).ix, V7.out.bl⟩
end Go.Proofs.YtfmfmeiaekknbaaGreat
end

section
/-
  As Held: a region that first takes what yields the same in each world that meets S, then either of two operations, whichever comes first. Over any program.
-/
namespace Go.Proofs.YtfmfmeiaekknbaaGreat
open Go.RowKit
set_option linter.unusedVariables false

section
variable {P : Program} {ops : Array Oper} {md : Region.Mode}

theorem mark_op {Q : Exit → Act → World → Prop} {S : World → Prop} (hsel : Region.noSelect ops = true) {j : Nat} {o : Oper} (ho : ops[j]? = some o) (p : List (Bool × Nat)) (l : Array Bool) (a : Act) (w : World)
    (h3 : planB md ops p (l.setIfInBounds j true) = true) (h : wpList P ops (fun e x y => match e with | .normal => S y ∧ HWalk P ops Q S (pickH ops p) x y | .panic _ => False | e => Q e x y) [o] a w) :
    wpOp P ops (NoPan Q) j (fun a' w' => S w' ∧ wpAnyH P md ops (NoPan Q) S p.length (l.setIfInBounds j true) a' w') a w := by
  unfold wpList at h
  unfold wpOp
  simp only [ho]
  have hstep : ∀ (x : Act) (y : World), (S y ∧ HWalk P ops Q S (pickH ops p) x y) → S y ∧ wpAnyH P md ops (NoPan Q) S p.length (l.setIfInBounds j true) x y := fun x y hxy => ⟨hxy.1, walk_any hsel p _ x y hxy.1 h3 hxy.2⟩
  split
  · rename_i hw
    rw [if_pos hw] at h
    rcases h with h | ⟨h4, x, y, h5⟩
    · exact .inl (wp_turn (fun x y hm => hstep x y hm) (fun e x y he hm => by cases e <;> first | exact absurd rfl he | exact hm) h)
    · exact .inr ⟨h4, x, y, h5⟩
  · rename_i hw
    rw [if_neg hw] at h
    exact hstep _ _ h
def planP (md : Region.Mode) (ops : Array Oper) (k : Array Bool → Bool) : List Nat → Array Bool → Bool
  | [], l => k l
  | i :: p, l => (Region.ready md ops l).contains i && Region.free md ops l i && planP md ops k p (l.setIfInBounds i true)
def pickP (ops : Array Oper) : List Nat → List Oper
  | [] => []
  | i :: is => match ops[i]? with
    | some o => o :: pickP ops is
    | none => pickP ops is
def HPure (P : Program) (ops : Array Oper) (S : World → Prop) (X : Act → World → Prop) : List Oper → Act → World → Prop
  | [], a, w => X a w
  | o :: p, a, w => if Region.wanted o (yielded ops a.tmps) then ∃ v, (∀ w', S w' → (execOp a.eval o).run P w' = .ok (.value v) w') ∧ HPure P ops S X p (a.put o.dst v) w else HPure P ops S X p (a.put o.dst undef) w
theorem pure_any {Q : Exit → Act → World → Prop} {S : World → Prop} {X : Act → World → Prop} {k : Array Bool → Bool} {m : Nat} (hsel : Region.noSelect ops = true) {w : World} (hS : S w)
    (hX : ∀ l a, k l = true → X a w → wpAnyH P md ops (NoPan Q) S m l a w) : ∀ (p : List Nat) (l : Array Bool) (a : Act), planP md ops k p l = true → HPure P ops S X (pickP ops p) a w → wpAnyH P md ops (NoPan Q) S (m + p.length) l a w
  | [], l, a, hB, h => hX l a hB h
  | i :: p, l, a, hB, h => by
    simp only [planP, Bool.and_eq_true] at hB
    obtain ⟨⟨h1, h2⟩, h3⟩ := hB
    have hr : i ∈ Region.ready md ops l := by simpa using h1
    obtain ⟨_, o, ho, _⟩ := mem_ready.1 hr
    rw [show pickP ops (i :: p) = o :: pickP ops p by simp only [pickP, ho]] at h
    have h : (if Region.wanted o (yielded ops a.tmps) then ∃ v, (∀ w', S w' → (execOp a.eval o).run P w' = .ok (.value v) w') ∧ HPure P ops S X (pickP ops p) (a.put o.dst v) w else HPure P ops S X (pickP ops p) (a.put o.dst undef) w) := h
    by_cases hw : Region.wanted o (yielded ops a.tmps) = true
    · rw [if_pos hw] at h
      obtain ⟨v, hv, hn⟩ := h
      exact wpAnyH_take ho hsel h2 h1 (fun _ _ _ h => h) (.inl ⟨hw, hv⟩) hS (pure_any hsel hS hX p _ _ h3 hn)
    · rw [if_neg hw] at h
      exact wpAnyH_take (v := undef) ho hsel h2 h1 (fun _ _ _ h => h) (.inr ⟨by simpa using hw, rfl⟩) hS (pure_any hsel hS hX p _ _ h3 h)
/-- What is to be walked behind the first ones: either of two, then the rest. -/
def HTwo (P : Program) (ops : Array Oper) (Q : Exit → Act → World → Prop) (S : World → Prop) (oi oj : Oper) (p q : List (Bool × Oper)) (a : Act) (w : World) : Prop :=
  wpList P ops (fun e x y => match e with | .normal => S y ∧ HWalk P ops Q S p x y | .panic _ => False | e => Q e x y) [oi] a w ∧
  wpList P ops (fun e x y => match e with | .normal => S y ∧ HWalk P ops Q S q x y | .panic _ => False | e => Q e x y) [oj] a w
theorem wp_region_two {id : Nat} {Q : Exit → Act → World → Prop} {a : Act} {w : World} {l : List Oper} (p0 : List Nat) (i j : Nat) (p q : List (Bool × Nat)) (S : World → Prop) (hm : P.follows .mixedOrders = true)
    (hB : (Region.noSelect l.toArray && decide (p.length + 1 + p0.length = l.toArray.size) && decide (q.length = p.length) &&
      planP .any l.toArray (fun b => decide (Region.ready .any l.toArray b = [i, j]) && planB .any l.toArray p (b.setIfInBounds i true) && planB .any l.toArray q (b.setIfInBounds j true)) p0 (Array.replicate l.toArray.size false)) = true)
    (hS : S w.drew) (oi oj : Oper) (hi : l.toArray[i]? = some oi) (hj : l.toArray[j]? = some oj) (x : List Oper) (y z : List (Bool × Oper)) (hx : pickP l.toArray p0 = x) (hy : pickH l.toArray p = y) (hz : pickH l.toArray q = z)
    (h : HPure P l.toArray S (HTwo P l.toArray Q S oi oj y z) x a w.drew) : (Code.region id l.toArray true).wp P Q a w := by
  subst hx; subst hy; subst hz
  refine Code.wp_mono NoPan.imp ?_
  simp only [Bool.and_eq_true, decide_eq_true_eq] at hB
  obtain ⟨⟨⟨hsel, hcnt⟩, hlen⟩, hB⟩ := hB
  refine wp_region_held (S := S) hm ?_
  have := pure_any (md := .any) (Q := Q) (m := p.length + 1) (X := HTwo P l.toArray Q S oi oj (pickH l.toArray p) (pickH l.toArray q)) (k := fun b => decide (Region.ready .any l.toArray b = [i, j]) && planB .any l.toArray p (b.setIfInBounds i true) && planB .any l.toArray q (b.setIfInBounds j true)) hsel hS (fun b a hk hX => by
    simp only [Bool.and_eq_true, decide_eq_true_eq] at hk
    obtain ⟨⟨k1, k2⟩, k3⟩ := hk
    obtain ⟨x1, x2⟩ := hX
    refine wpAnyH_all k1 (by simp) fun t ht => ?_
    have ht' : t = i ∨ t = j := by simpa using ht
    rcases ht' with rfl | rfl
    · exact mark_op hsel hi p b a w.drew k2 x1
    · have := mark_op (md := .any) hsel hj q b a w.drew k3 x2
      rw [hlen] at this
      exact this) p0 (Array.replicate l.toArray.size false) a hB h
  rw [hcnt] at this
  exact this
theorem HPure.step {S : World → Prop} {X : Act → World → Prop} {o : Oper} {p : List Oper} {a : Act} {w : World}
    (h : ∀ K : Act → Prop, (∀ a, HPure P ops S X p a w → K a) → if Region.wanted o (yielded ops a.tmps) then ∃ v, (∀ w', S w' → (execOp a.eval o).run P w' = .ok (.value v) w') ∧ K (a.put o.dst v) else K (a.put o.dst undef)) : HPure P ops S X (o :: p) a w :=
  h _ (fun _ h => h)
theorem HPure.two {Q : Exit → Act → World → Prop} {S : World → Prop} {oi oj : Oper} {p q : List (Bool × Oper)} {a : Act} {w : World}
    (h1 : wpList P ops (fun e x y => match e with | .normal => S y ∧ HWalk P ops Q S p x y | .panic _ => False | e => Q e x y) [oi] a w)
    (h2 : wpList P ops (fun e x y => match e with | .normal => S y ∧ HWalk P ops Q S q x y | .panic _ => False | e => Q e x y) [oj] a w) : HPure P ops S (HTwo P ops Q S oi oj p q) [] a w := ⟨h1, h2⟩
end
end Go.Proofs.YtfmfmeiaekknbaaGreat
end

section
/-
  Package sizes: part, the iterator over the spans of a range, shifted. (After the kit's worked proofs on iterators.)
-/
namespace Go.Proofs.YtfmfmeiaekknbaaGreat
open Go.RowKit Go.Shelf
set_option linter.unusedVariables false
set_option linter.unusedSimpArgs false

attribute [local go_sem] Oper.semAt_some

/-- What a round keeps: all below B but for block q. -/
structure Kx (B q : Nat) (w w' : World) : Prop where
  os : w'.os = w.os
  tape : w'.tape = w.tape
  output : w'.output = w.output
  size : w.heap.size ≤ w'.heap.size
  block : ∀ k, k < B → k ≠ q → w'.heap[k]? = w.heap[k]?
theorem Kx.refl (B q : Nat) (w : World) : Kx B q w w := ⟨rfl, rfl, rfl, Nat.le_refl _, fun _ _ _ => rfl⟩
theorem Kx.trans {B q : Nat} {a b c : World} (h : Kx B q a b) (k : Kx B q b c) : Kx B q a c :=
  ⟨k.os.trans h.os, k.tape.trans h.tape, k.output.trans h.output, Nat.le_trans h.size k.size, fun i hi hn => (k.block i hi hn).trans (h.block i hi hn)⟩
theorem Kx.of_below {B q : Nat} {a b : World} (h : Below B a b) : Kx B q a b := ⟨h.os, h.tape, h.output, h.size, fun k hk _ => h.block k hk⟩
theorem Kx.cell {B q : Nat} {w w' : World} (h : Kx B q w w') {p : Addr} (hp : p.block < B) (hq : p.block ≠ q) : w'.cell? p = w.cell? p := by
  unfold World.cell?; rw [h.block _ hp hq]
theorem Kx.grown {B q : Nat} {w w' : World} {row : Option Nat} (hg : w.grownBy w' row) (hB : B ≤ w.heap.size) (hr : ∀ r, row = some r → B ≤ r ∨ r = q) : Kx B q w w' :=
  ⟨hg.os, hg.tape, hg.output, hg.size, fun k hk hq => hg.block k (by omega) (fun e => by rcases hr k e.symm with h | h <;> omega)⟩
theorem grown_none {w w' : World} (h : Below w.heap.size w w') : w.grownBy w' none := ⟨h.os, h.tape, h.output, h.size, fun k hk _ => h.block k hk⟩

/-- The parts of spans in a range, shifted. -/
def partsN (k m t : Nat) (S : Sp) : List (Nat × Nat) := S.filterMap fun s => if max s.1 (k : Int) + ((t : Int) - (k : Int)) < min s.2 ((k : Int) + (m : Int)) + ((t : Int) - (k : Int)) then some ((max s.1 (k : Int) + ((t : Int) - (k : Int))).toNat, (min s.2 ((k : Int) + (m : Int)) + ((t : Int) - (k : Int))).toNat) else none
theorem partsN_snoc (k m t : Nat) {S : Sp} {i : Nat} (h : i < S.length) : partsN k m t (S.take (i + 1)) = partsN k m t (S.take i) ++ (if max (sg S i).1 (k : Int) + ((t : Int) - (k : Int)) < min (sg S i).2 ((k : Int) + (m : Int)) + ((t : Int) - (k : Int)) then [((max (sg S i).1 (k : Int) + ((t : Int) - (k : Int))).toNat, (min (sg S i).2 ((k : Int) + (m : Int)) + ((t : Int) - (k : Int))).toNat)] else []) := by
  rw [List.take_succ_eq_append_getElem h, ← sg_get S h]
  unfold partsN
  rw [List.filterMap_append]
  congr 1
  by_cases c : max (sg S i).1 (k : Int) + ((t : Int) - (k : Int)) < min (sg S i).2 ((k : Int) + (m : Int)) + ((t : Int) - (k : Int))
  · rw [if_pos c, List.filterMap_cons, if_pos c]; rfl
  · rw [if_neg c, List.filterMap_cons, if_neg c]; rfl
theorem partsN_len (k m t : Nat) (S : Sp) : (partsN k m t S).length ≤ S.length := List.length_filterMap_le _ _
theorem partsN_mem {k m t : Nat} {S : Sp} {x : Nat × Nat} (h : x ∈ partsN k m t S) : ∃ s ∈ S, (x.1 : Int) = max s.1 (k : Int) + ((t : Int) - (k : Int)) ∧ (x.2 : Int) = min s.2 ((k : Int) + (m : Int)) + ((t : Int) - (k : Int)) ∧ x.1 < x.2 := by
  unfold partsN at h
  obtain ⟨s, hs, he⟩ := List.mem_filterMap.1 h
  by_cases c : max s.1 (k : Int) + ((t : Int) - (k : Int)) < min s.2 ((k : Int) + (m : Int)) + ((t : Int) - (k : Int))
  · rw [if_pos c] at he
    cases he
    refine ⟨s, hs, ?_, ?_, ?_⟩
    · show (((max s.1 (k : Int) + ((t : Int) - (k : Int))).toNat : Nat) : Int) = _; omega
    · show (((min s.2 ((k : Int) + (m : Int)) + ((t : Int) - (k : Int))).toNat : Nat) : Int) = _; omega
    · show (max s.1 (k : Int) + ((t : Int) - (k : Int))).toNat < (min s.2 ((k : Int) + (m : Int)) + ((t : Int) - (k : Int))).toNat; omega
  · rw [if_neg c] at he; cases he
/-- A set with marks. -/
def pM (p : Nat → Bool) (l : List (Nat × Nat)) : Nat → Bool := l.foldl (fun p x => markF p x.1 x.2 true) p
theorem pM_snoc (p : Nat → Bool) (l : List (Nat × Nat)) (x : Nat × Nat) : pM p (l ++ [x]) = markF (pM p l) x.1 x.2 true := by
  unfold pM; rw [List.foldl_append]; rfl
theorem pM_any : ∀ (l : List (Nat × Nat)) (p : Nat → Bool) (j : Nat), pM p l j = (p j || l.any (fun x => decide (x.1 ≤ j ∧ j < x.2))) := by
  intro l
  induction l with
  | nil => intro p j; show p j = (p j || false); simp
  | cons x r ih =>
    intro p j
    show pM (markF p x.1 x.2 true) r j = _
    rw [ih, List.any_cons]
    unfold markF
    by_cases c : x.1 ≤ j ∧ j < x.2
    · rw [if_pos c, decide_eq_true c]; simp
    · rw [if_neg c, decide_eq_false c]; simp
theorem pM_lt {p : Nat → Bool} {l : List (Nat × Nat)} {n : Nat} (hp : ∀ j, p j = true → j < n) (hl : ∀ x ∈ l, x.2 ≤ n) : ∀ j, pM p l j = true → j < n := by
  intro j hj
  rw [pM_any, Bool.or_eq_true] at hj
  rcases hj with h | h
  · exact hp j h
  · obtain ⟨x, hx, h2⟩ := List.any_eq_true.1 h
    have := hl x hx
    have := of_decide_eq_true h2
    omega
theorem parts_any {k m t : Nat} {S : Sp} {p : Nat → Bool} (hk : KnS S p) (j : Nat) : (partsN k m t S).any (fun x => decide (x.1 ≤ j ∧ j < x.2)) = (decide (t ≤ j ∧ j < t + m) && p (k + (j - t))) := by
  rw [Bool.eq_iff_iff, List.any_eq_true, Bool.and_eq_true, decide_eq_true_iff, ← hk.me]
  constructor
  · rintro ⟨x, hx, h⟩
    have h := of_decide_eq_true h
    obtain ⟨s, hs, e1, e2, _⟩ := partsN_mem hx
    exact ⟨by omega, s, hs, by omega, by omega⟩
  · rintro ⟨h1, s, hs, h2, h3⟩
    have c : max s.1 (k : Int) + ((t : Int) - (k : Int)) < min s.2 ((k : Int) + (m : Int)) + ((t : Int) - (k : Int)) := by omega
    refine ⟨((max s.1 (k : Int) + ((t : Int) - (k : Int))).toNat, (min s.2 ((k : Int) + (m : Int)) + ((t : Int) - (k : Int))).toNat), List.mem_filterMap.2 ⟨s, hs, if_pos c⟩, decide_eq_true ?_⟩
    show (max s.1 (k : Int) + ((t : Int) - (k : Int))).toNat ≤ j ∧ j < (min s.2 ((k : Int) + (m : Int)) + ((t : Int) - (k : Int))).toNat
    omega

/-- A range of places in a list of N rows. -/
abbrev Rg (N : Nat) := { x : Nat × Nat // x.1 ≤ x.2 ∧ x.2 ≤ N }
def encR {N : Nat} (x : Rg N) : Array Value := #[.agg #[.int .i64 x.1.1, .int .i64 x.1.2]]
/-- Spans that lie below B and not in block q. -/
def SK (B q : Nat) (w : World) (A : Option Addr) (S : Sp) : Prop := 0 < S.length → ∃ b o, A = some ⟨b, o, none⟩ ∧ b < B ∧ b ≠ q ∧ ∀ j, j < S.length * 2 → w.cell? ⟨b, o + j, none⟩ = some (spf S j)
theorem SK.keep {B q : Nat} {w w' : World} {A : Option Addr} {S : Sp} (h : SK B q w A S) (hk : Kx B q w w') : SK B q w' A S := fun h0 => by
  obtain ⟨b, o, h1, h2, h3, h4⟩ := h h0
  exact ⟨b, o, h1, h2, h3, fun j hj => (hk.cell (p := ⟨b, o + j, none⟩) h2 h3).trans (h4 j hj)⟩

set_option maxRecDepth 100000 in
set_option maxHeartbeats 8000000 in
theorem part1_in (n : Nat) (hn : 1 ≤ n) (l b1 b2 b3 b4 B q N k m t : Nat) (A : Option Addr) (S : Sp) (hN : NF S) (hS : S.length ≤ 600) (hk : k + m ≤ N) (ht : t + m ≤ N) (h8 : N ≤ 8000)
    (l1 : b1 < B) (l2 : b2 < B) (l3 : b3 < B) (l4 : b4 < B) (q1 : b1 ≠ q) (q2 : b2 ≠ q) (q3 : b3 ≠ q) (q4 : b4 ≠ q) (J Jx : List (Rg N) → World → Prop)
    (hY : ∀ pre x W, J pre W → pre.length < S.length → YieldAt Fence.wide (n - 1) Tryz.prog l (encR x) W fun e W' =>
      (e = .returned (.bool true) ∧ J (pre ++ [x]) W' ∧ Kx B q W W') ∨ (e = .returned (.bool false) ∧ Jx (pre ++ [x]) W'))
    (W : World) (hB : B ≤ W.heap.size) (hJ : AbidesFrom W.heap.size J) (c1 : W.cell? ⟨b1, 0, none⟩ = some (.slice A S.length S.length)) (c2 : W.cell? ⟨b2, 0, none⟩ = some (.int .i64 k)) (c3 : W.cell? ⟨b3, 0, none⟩ = some (.int .i64 ((t : Int) - k))) (c4 : W.cell? ⟨b4, 0, none⟩ = some (.int .i64 ((k : Int) + m))) (hs : SK B q W A S) (h0 : J [] W) :
    CallsIn Fence.wide n Tryz.prog 141 #[.func (.yield l) #[] #[], .pointer (some ⟨b1, 0, none⟩), .pointer (some ⟨b2, 0, none⟩), .pointer (some ⟨b3, 0, none⟩), .pointer (some ⟨b4, 0, none⟩)] W fun e W' => (∃ v, e = .returned v) ∧
      ((∃ ys : List (Rg N), ys.map (·.1) = partsN k m t S ∧ J ys W') ∨ (∃ pre : List (Rg N), True ∧ Jx pre W')) := by
  refine callsIn_of_wp Tryz.func141 rfl trivial ?_ rfl
  simp only [Tryz.ntmps141, List.size_toArray, List.length_cons, List.length_nil, Nat.reduceAdd, Nat.reduceSub, Array.replicate_succ, Array.replicate_zero, List.push_toArray, List.append_toArray, List.nil_append, List.cons_append]
  gi_wp2
  gi_loopw [10] (fun i wr => ∃ (z : Nat) (pre : List (Rg N)), z ≤ S.length ∧ i = .int .i64 z ∧ pre.map (·.1) = partsN k m t (S.take z) ∧ J pre wr ∧ Kx B q W wr)
    (fun i _ => S.length - (intOf i).toNat)
  case atStart => exact ⟨0, [], Nat.zero_le _, rfl, rfl, h0, Kx.refl _ _ _⟩
  case round =>
    obtain ⟨z, pre, hz, rfl, hpre, hJs, hnx⟩ := hrel
    by_cases hlt : z < S.length
    · obtain ⟨b, o, rfl, hb, hbq, hc⟩ := (hs.keep hnx) (by omega)
      have e0 := hc (z * 2) (by omega)
      have e1 := hc (z * 2 + 1) (by omega)
      rw [spf_0] at e0
      rw [spf_1] at e1
      have e1' : wr.cell? ⟨b, o + z * 2 + 1, none⟩ = some (.int .i64 (sg S z).2) := e1
      obtain ⟨m1, m2, m3, m4⟩ := NFfrom.mem hN _ (sg_mem S hlt)
      have hps := partsN_snoc k m t hlt
      obtain ⟨x, hx⟩ : ∃ x, x = (sg S z).1 := ⟨_, rfl⟩
      obtain ⟨y, hy⟩ : ∃ x, x = (sg S z).2 := ⟨_, rfl⟩
      rw [← hx] at e0 m1 m2 hps
      rw [← hy] at e1 e1' m2 m4 hps
      have d2 := (hnx.cell (p := ⟨b2, 0, none⟩) l2 q2).trans c2
      have d3 := (hnx.cell (p := ⟨b3, 0, none⟩) l3 q3).trans c3
      have d4 := (hnx.cell (p := ⟨b4, 0, none⟩) l4 q4).trans c4
      have hpl : pre.length ≤ z := by
        have h1 := congrArg List.length hpre
        rw [List.length_map] at h1
        have h2 := partsN_len k m t (S.take z)
        rw [List.length_take] at h2
        omega
      clear hx hy hc m3
      obtain ⟨d, hd⟩ : ∃ d, d = (t : Int) - (k : Int) := ⟨_, rfl⟩
      obtain ⟨u, hu⟩ : ∃ u, u = (k : Int) + (m : Int) := ⟨_, rfl⟩
      rw [← hd] at d3 hps
      rw [← hu] at d4 hps
      have dl : -8000 ≤ d ∧ d ≤ 8000 := by omega
      have ul : 0 ≤ u ∧ u ≤ 8000 := by omega
      have HD := Lib.hid hd
      have HU := Lib.hid hu
      have lw := hnx.size
      have lb2 : b2 < wr.heap.size := by omega
      have lb3 : b3 < wr.heap.size := by omega
      have lb4 : b4 < wr.heap.size := by omega
      have kl : k ≤ 8000 := by omega
      clear hd hu
      gi_wp2
      refine wpIn_wide.2 ?_
      have BW : Hid (Below wr.heap.size wr (wr.alloc (.cells #[.int .i64 x, .int .i64 y] 168))) := (Below.refl _ wr).alloc (Nat.le_refl _) _
      have RW := Lib.hid (World.rowIs_alloc wr #[.int .i64 x, .int .i64 y] 168 (fun j => if j = 0 then .int .i64 x else .int .i64 y) (fun j hj => by
        have : j = 0 ∨ j = 1 := by simp at hj; omega
        rcases this with rfl | rfl <;> rfl))
      generalize wr.alloc (.cells #[.int .i64 x, .int .i64 y] 168) = wW at BW RW ⊢
      have t0 : wW.cell? ⟨wr.heap.size, 0, none⟩ = some (.int .i64 x) := World.rowIs.cell RW.out (i := 0) (by simp)
      have t1 : wW.cell? ⟨wr.heap.size, 1, none⟩ = some (.int .i64 y) := World.rowIs.cell RW.out (i := 1) (by simp)
      have z0 : wW.frozen? ⟨wr.heap.size, 0, none⟩ = false := World.rowIs.frozen RW.out 0
      have z1 : wW.frozen? ⟨wr.heap.size, 1, none⟩ = false := World.rowIs.frozen RW.out 1
      have lsz := BW.out.size
      have v2 := (BW.out.cell (p := ⟨b2, 0, none⟩) lb2).trans d2
      have v3 := (BW.out.cell (p := ⟨b3, 0, none⟩) lb3).trans d3
      have v4 := (BW.out.cell (p := ⟨b4, 0, none⟩) lb4).trans d4
      have k2 : b2 < wW.heap.size := by omega
      have k3 : b3 < wW.heap.size := by omega
      have k4 : b4 < wW.heap.size := by omega
      have n2 : ¬ b2 = wr.heap.size := by omega
      have n3 : ¬ b3 = wr.heap.size := by omega
      have n4 : ¬ b4 = wr.heap.size := by omega
      have hf1 : IntKind.i64.wrap (max x (k : Int) + d) = max x (k : Int) + d := IntWalk.i64_in _ (by omega)
      have hf2 : IntKind.i64.wrap (min y u + d) = min y u + d := IntWalk.i64_in _ (by omega)
      have S0 : Hid (Fr (fun b => b = wr.heap.size) wW wW.drew) := (Fr.refl _ _).drawn ⟨1, rfl⟩
      have S1 := Lib.hid (S0.out.setCell (p := ⟨wr.heap.size, 0, none⟩) rfl (.int .i64 (max x (k : Int) + d)))
      have S2 := Lib.hid (S1.out.setCell (p := ⟨wr.heap.size, 1, none⟩) rfl (.int .i64 (min y u + d)))
      have R2 := Lib.hid (World.rowIs.set (World.rowIs.set (show World.rowIs wW.drew _ _ _ _ from RW.out) 0 (.int .i64 (max x (k : Int) + d))) 1 (.int .i64 (min y u + d)))
      have B2 : Hid (Below wr.heap.size wr (((wW.drew).setCell ⟨wr.heap.size, 0, none⟩ (.int .i64 (max x (k : Int) + d))).setCell ⟨wr.heap.size, 1, none⟩ (.int .i64 (min y u + d)))) := (BW.out.drew.setCell (p := ⟨wr.heap.size, 0, none⟩) (Nat.le_refl _) _).setCell (p := ⟨wr.heap.size, 1, none⟩) (Nat.le_refl _) _
      clear BW RW d2 d3 d4 lb2 lb3 lb4
      refine wp_region_two [0, 2, 4, 6, 8, 10] 1 7 [(false, 3), (false, 5), (true, 7), (false, 9), (false, 11), (false, 12), (true, 13), (false, 14), (true, 15)] [(false, 9), (false, 11), (true, 1), (false, 3), (false, 5), (false, 12), (true, 13), (false, 14), (true, 15)] (Fr (fun b => b = wr.heap.size) wW) (by kernel_rfl) (by kernel_rfl) S0.out _ _ (by simp only [List.getElem?_toArray, List.getElem?_cons_succ, List.getElem?_cons_zero]; rfl) (by simp only [List.getElem?_toArray, List.getElem?_cons_succ, List.getElem?_cons_zero]; rfl) _ _ _ (by simp only [pickP, List.getElem?_toArray, List.getElem?_cons_succ, List.getElem?_cons_zero]; rfl) (by simp only [pickH, List.getElem?_toArray, List.getElem?_cons_succ, List.getElem?_cons_zero]; rfl) (by simp only [pickH, List.getElem?_toArray, List.getElem?_cons_succ, List.getElem?_cons_zero]; rfl) ?_
      repeat (refine HPure.step (fun K hK => ?_); first | (apply held_yes; (focus rfl); (focus (intro w' hw; have hc' := fr_cells hw; go_simp; rfl)); (go_simp; refine hK _ ?_; clear hK K)) | (refine ite_no (by decide) ?_; go_simp; refine hK _ ?_; clear hK K))
      refine HPure.two ?_ ?_
      all_goals (go_wp2_with fail)
      · refine ⟨S0.out, ?_⟩
        repeat (refine HWalk.step (fun K hK => ?_); first | (apply held_yes; (focus rfl); (focus (intro w' hw; have hc' := fr_cells hw; go_simp; rfl)); (go_simp; refine hK _ ?_; clear hK K)) | (refine ite_no (by decide) ?_; go_simp; refine hK _ ?_; clear hK K))
        refine HWalk.mark ?_
        go_wp2_with fail
        refine ⟨S0.out, ?_⟩
        repeat (refine HWalk.step (fun K hK => ?_); first | (apply held_yes; (focus rfl); (focus (intro w' hw; have hc' := fr_cells hw; go_simp; rfl)); (go_simp; refine hK _ ?_; clear hK K)) | (refine ite_no (by decide) ?_; go_simp; refine hK _ ?_; clear hK K))
        refine HWalk.mark ?_
        go_wp2_with fail
        refine ⟨S1.out, ?_⟩
        repeat (refine HWalk.step (fun K hK => ?_); first | (apply held_yes; (focus rfl); (focus (intro w' hw; have hc' := fr_cells hw; go_simp; rfl)); (go_simp; refine hK _ ?_; clear hK K)) | (refine ite_no (by decide) ?_; go_simp; refine hK _ ?_; clear hK K))
        refine HWalk.mark ?_
        go_wp2_with fail
        refine ⟨S2.out, ?_⟩
        repeat (refine HWalk.step (fun K hK => ?_); first | (apply held_yes; (focus rfl); (focus (intro w' hw; have hc' := fr_cells hw; go_simp; rfl)); (go_simp; refine hK _ ?_; clear hK K)) | (refine ite_no (by decide) ?_; go_simp; refine hK _ ?_; clear hK K))
        refine HWalk.done ?_
        go_wp2_with fail
        have R3 : World.rowIs (((wW.setCell ⟨wr.heap.size, 0, none⟩ (.int .i64 (max x (k : Int) + d))).setCell ⟨wr.heap.size, 1, none⟩ (.int .i64 (min y u + d))).drew) wr.heap.size _ _ _ := R2.out
        have s0 : (((wW.setCell ⟨wr.heap.size, 0, none⟩ (.int .i64 (max x (k : Int) + d))).setCell ⟨wr.heap.size, 1, none⟩ (.int .i64 (min y u + d))).drew).cell? ⟨wr.heap.size, 0, none⟩ = some (.int .i64 (max x (k : Int) + d)) := World.rowIs.cell R3 (i := 0) (by simp)
        have s1 : (((wW.setCell ⟨wr.heap.size, 0, none⟩ (.int .i64 (max x (k : Int) + d))).setCell ⟨wr.heap.size, 1, none⟩ (.int .i64 (min y u + d))).drew).cell? ⟨wr.heap.size, 1, none⟩ = some (.int .i64 (min y u + d)) := World.rowIs.cell R3 (i := 1) (by simp)
        have B3 : Below wr.heap.size wr (((wW.setCell ⟨wr.heap.size, 0, none⟩ (.int .i64 (max x (k : Int) + d))).setCell ⟨wr.heap.size, 1, none⟩ (.int .i64 (min y u + d))).drew) := B2.out
        clear R3 R2 B2 S0 S1 S2
        generalize ((wW.setCell ⟨wr.heap.size, 0, none⟩ (.int .i64 (max x (k : Int) + d))).setCell ⟨wr.heap.size, 1, none⟩ (.int .i64 (min y u + d))).drew = W2 at s0 s1 B3 ⊢
        have f0 : 0 ≤ max x (k : Int) + d := by have := HD.out; omega
        have g0 : min y u + d ≤ N := by have := HD.out; have := HU.out; omega
        generalize max x (k : Int) + d = f at s0 hps hf1 f0 ⊢
        generalize min y u + d = g' at s1 hps hf2 g0 ⊢
        have hJ2 := hJ pre wr W2 none hJs (grown_none B3) (fun r e => by cases e)
        have K2 : Kx B q wr W2 := Kx.of_below (B3.mono (by omega))
        clear B3 t0 t1 z0 z1 v2 v3 v4 n2 n3 n4 k2 k3 k4 hf1 hf2
        by_cases g : f < g'
        · rw [if_pos g] at hps
          obtain ⟨fn, tmps, assign, body, hy, hR⟩ := hY pre ⟨(f.toNat, g'.toNat), ⟨by show f.toNat ≤ g'.toNat; omega, by show g'.toNat ≤ N; omega⟩⟩ _ hJ2 (by omega)
          have ef : ((f.toNat : Nat) : Int) = f := by omega
          have eg : ((g'.toNat : Nat) : Int) = g' := by omega
          unfold encR at hy
          simp only [ef, eg] at hy
          have hps' := Lib.hid hps
          clear ef eg hps
          gi_wp2
          refine hR.mono ?_
          rintro e W3 (⟨rfl, hJ3, hk3⟩ | ⟨rfl, hJx3⟩)
          · gi_wp2
            go_roundw
            case rel => exact ⟨z + 1, pre ++ [⟨(f.toNat, g'.toNat), ⟨by show f.toNat ≤ g'.toNat; omega, by show g'.toNat ≤ N; omega⟩⟩], by omega, by simp, by rw [hps'.out, List.map_append, hpre]; rfl, hJ3, hnx.trans (K2.trans hk3)⟩
            case measure => simp [intOf]; omega
          · gi_wp2
            refine bodyPost_ret (results_none rfl _ _ _) rfl ?_
            exact ⟨⟨_, rfl⟩, .inr ⟨_, trivial, hJx3⟩⟩
        · rw [if_neg g, List.append_nil] at hps
          have hps' := Lib.hid hps
          clear hps
          gi_wp2
          refine ⟨fun _ h => (nomatch h), ?_⟩
          gi_wp2
          go_roundw
          case rel => exact ⟨z + 1, pre, by omega, by simp, by rw [hps'.out, hpre], hJ2, hnx.trans K2⟩
          case measure => simp [intOf]; omega
      · refine ⟨S0.out, ?_⟩
        repeat (refine HWalk.step (fun K hK => ?_); first | (apply held_yes; (focus rfl); (focus (intro w' hw; have hc' := fr_cells hw; go_simp; rfl)); (go_simp; refine hK _ ?_; clear hK K)) | (refine ite_no (by decide) ?_; go_simp; refine hK _ ?_; clear hK K))
        refine HWalk.mark ?_
        go_wp2_with fail
        refine ⟨S0.out, ?_⟩
        repeat (refine HWalk.step (fun K hK => ?_); first | (apply held_yes; (focus rfl); (focus (intro w' hw; have hc' := fr_cells hw; go_simp; rfl)); (go_simp; refine hK _ ?_; clear hK K)) | (refine ite_no (by decide) ?_; go_simp; refine hK _ ?_; clear hK K))
        refine HWalk.mark ?_
        go_wp2_with fail
        refine ⟨S1.out, ?_⟩
        repeat (refine HWalk.step (fun K hK => ?_); first | (apply held_yes; (focus rfl); (focus (intro w' hw; have hc' := fr_cells hw; go_simp; rfl)); (go_simp; refine hK _ ?_; clear hK K)) | (refine ite_no (by decide) ?_; go_simp; refine hK _ ?_; clear hK K))
        refine HWalk.mark ?_
        go_wp2_with fail
        refine ⟨S2.out, ?_⟩
        repeat (refine HWalk.step (fun K hK => ?_); first | (apply held_yes; (focus rfl); (focus (intro w' hw; have hc' := fr_cells hw; go_simp; rfl)); (go_simp; refine hK _ ?_; clear hK K)) | (refine ite_no (by decide) ?_; go_simp; refine hK _ ?_; clear hK K))
        refine HWalk.done ?_
        go_wp2_with fail
        have R3 : World.rowIs (((wW.setCell ⟨wr.heap.size, 0, none⟩ (.int .i64 (max x (k : Int) + d))).setCell ⟨wr.heap.size, 1, none⟩ (.int .i64 (min y u + d))).drew) wr.heap.size _ _ _ := R2.out
        have s0 : (((wW.setCell ⟨wr.heap.size, 0, none⟩ (.int .i64 (max x (k : Int) + d))).setCell ⟨wr.heap.size, 1, none⟩ (.int .i64 (min y u + d))).drew).cell? ⟨wr.heap.size, 0, none⟩ = some (.int .i64 (max x (k : Int) + d)) := World.rowIs.cell R3 (i := 0) (by simp)
        have s1 : (((wW.setCell ⟨wr.heap.size, 0, none⟩ (.int .i64 (max x (k : Int) + d))).setCell ⟨wr.heap.size, 1, none⟩ (.int .i64 (min y u + d))).drew).cell? ⟨wr.heap.size, 1, none⟩ = some (.int .i64 (min y u + d)) := World.rowIs.cell R3 (i := 1) (by simp)
        have B3 : Below wr.heap.size wr (((wW.setCell ⟨wr.heap.size, 0, none⟩ (.int .i64 (max x (k : Int) + d))).setCell ⟨wr.heap.size, 1, none⟩ (.int .i64 (min y u + d))).drew) := B2.out
        clear R3 R2 B2 S0 S1 S2
        generalize ((wW.setCell ⟨wr.heap.size, 0, none⟩ (.int .i64 (max x (k : Int) + d))).setCell ⟨wr.heap.size, 1, none⟩ (.int .i64 (min y u + d))).drew = W2 at s0 s1 B3 ⊢
        have f0 : 0 ≤ max x (k : Int) + d := by have := HD.out; omega
        have g0 : min y u + d ≤ N := by have := HD.out; have := HU.out; omega
        generalize max x (k : Int) + d = f at s0 hps hf1 f0 ⊢
        generalize min y u + d = g' at s1 hps hf2 g0 ⊢
        have hJ2 := hJ pre wr W2 none hJs (grown_none B3) (fun r e => by cases e)
        have K2 : Kx B q wr W2 := Kx.of_below (B3.mono (by omega))
        clear B3 t0 t1 z0 z1 v2 v3 v4 n2 n3 n4 k2 k3 k4 hf1 hf2
        by_cases g : f < g'
        · rw [if_pos g] at hps
          obtain ⟨fn, tmps, assign, body, hy, hR⟩ := hY pre ⟨(f.toNat, g'.toNat), ⟨by show f.toNat ≤ g'.toNat; omega, by show g'.toNat ≤ N; omega⟩⟩ _ hJ2 (by omega)
          have ef : ((f.toNat : Nat) : Int) = f := by omega
          have eg : ((g'.toNat : Nat) : Int) = g' := by omega
          unfold encR at hy
          simp only [ef, eg] at hy
          have hps' := Lib.hid hps
          clear ef eg hps
          gi_wp2
          refine hR.mono ?_
          rintro e W3 (⟨rfl, hJ3, hk3⟩ | ⟨rfl, hJx3⟩)
          · gi_wp2
            go_roundw
            case rel => exact ⟨z + 1, pre ++ [⟨(f.toNat, g'.toNat), ⟨by show f.toNat ≤ g'.toNat; omega, by show g'.toNat ≤ N; omega⟩⟩], by omega, by simp, by rw [hps'.out, List.map_append, hpre]; rfl, hJ3, hnx.trans (K2.trans hk3)⟩
            case measure => simp [intOf]; omega
          · gi_wp2
            refine bodyPost_ret (results_none rfl _ _ _) rfl ?_
            exact ⟨⟨_, rfl⟩, .inr ⟨_, trivial, hJx3⟩⟩
        · rw [if_neg g, List.append_nil] at hps
          have hps' := Lib.hid hps
          clear hps
          gi_wp2
          refine ⟨fun _ h => (nomatch h), ?_⟩
          gi_wp2
          go_roundw
          case rel => exact ⟨z + 1, pre, by omega, by simp, by rw [hps'.out, hpre], hJ2, hnx.trans K2⟩
          case measure => simp [intOf]; omega
    · obtain rfl : z = S.length := by omega
      gi_wp2
      go_end0
      exact ⟨⟨_, rfl⟩, .inl ⟨pre, by rw [hpre, List.take_length], hJs⟩⟩
end Go.Proofs.YtfmfmeiaekknbaaGreat
end

section
/-
  Contracts of package sizes: Move.
-/
namespace Go.Proofs.YtfmfmeiaekknbaaGreat
open Go.RowKit Go.Shelf
set_option linter.unusedVariables false
set_option linter.unusedSimpArgs false

attribute [local go_sem] Oper.semAt_some

theorem part_any (w : World) (A : Option Addr) (n : Nat) (x y z : Int) :
    Calls Tryz.prog 98 #[.slice A n n, .int .i64 x, .int .i64 y, .int .i64 z] w fun e w' =>
      e = .returned (.func (.func 141) #[] #[.pointer (some ⟨w.heap.size, 0, none⟩), .pointer (some ⟨w.heap.size + 1, 0, none⟩), .pointer (some ⟨w.heap.size + 1 + 1 + 1, 0, none⟩), .pointer (some ⟨w.heap.size + 1 + 1, 0, none⟩)]) ∧
      w' = (((w.alloc (.cells #[.slice A n n] 30)).alloc (.cells #[.int .i64 x] 3)).alloc (.cells #[.int .i64 y] 3)).alloc (.cells #[.int .i64 z] 3) := by
  go_enter Tryz.func98, Tryz.ntmps98
  go_wp2_with fail
  go_ret
  exact ⟨rfl, rfl⟩
theorem mem_movR {R : Rws} {k m t : Nat} {x : Int} (h : x ∈ szs (movR R k m t)) : x ∈ szs R := by
  have hr : ∀ y, y ∈ szs (remR R k m) → y ∈ szs R := fun y hy => by
    rw [szs_remR] at hy
    unfold remL at hy
    rcases List.mem_append.1 hy with hy | hy
    · exact List.mem_of_mem_take hy
    · exact List.mem_of_mem_drop (List.mem_of_mem_drop hy)
  unfold movR at h
  rw [szs_app, szs_app, szs_take, szs_take, szs_drop, szs_drop] at h
  rcases List.mem_append.1 h with h | h
  · rcases List.mem_append.1 h with h | h
    · exact hr x (List.mem_of_mem_take h)
    · exact List.mem_of_mem_drop (List.mem_of_mem_take h)
  · exact hr x (List.mem_of_mem_drop h)
theorem len_movR (R : Rws) {k m t : Nat} (h : k + m ≤ R.length) (ht : t ≤ R.length - m) : (movR R k m t).length = R.length := by
  have hl := len_remR R h
  unfold movR
  rw [List.length_append, List.length_append, List.length_take, List.length_take, List.length_drop, List.length_drop, hl]
  omega
/-- A block that holds neither a node nor numbers. -/
def Alien (w : World) (q : Nat) : Prop := (∀ f, ¬ w.rowIs q 108 6 f) ∧ ∀ o v, w.cell? ⟨q, o, none⟩ = some v → ∃ A n c, v = .slice A n c
theorem Alien.boxed {w : World} {q : Nat} {A : Option Addr} {n c : Nat} (h : Boxed w q 30 (.slice A n c)) : Alien w q := by
  have h' : w.heap[q]? = some (.cells #[.slice A n c] 30 (0, 0)) := h
  refine ⟨fun f hr => ?_, fun o v hv => ?_⟩
  · obtain ⟨cs, h1, _⟩ := hr
    rw [h'] at h1
    injection h1 with h1
    injection h1 with _ h1 _
    exact absurd h1 (by decide)
  · unfold World.cell? at hv
    rw [show w.heap[(Addr.mk q o none).block]? = _ from h'] at hv
    have hv : (#[Value.slice A n c] : Array Value)[o]? = some v := hv
    obtain ⟨ho, e⟩ := Array.getElem?_eq_some_iff.1 hv
    have : o = 0 := by simp at ho; omega
    subst this
    exact ⟨A, n, c, e.symm⟩
theorem Alien.other {w : World} {q : Nat} {o : Obj} (h : w.heap[q]? = some o) (hc : o.isCells = false) : Alien w q := by
  refine ⟨fun f hr => ?_, fun i v hv => ?_⟩
  · obtain ⟨cs, h1, _⟩ := hr
    rw [h] at h1
    injection h1 with h1
    rw [h1] at hc
    exact absurd hc (by simp [Obj.isCells])
  · exfalso
    unfold World.cell? at hv
    rw [show w.heap[(Addr.mk q i none).block]? = _ from h] at hv
    cases o <;> simp_all [Obj.isCells]
theorem Rp.fr {w w' : World} {a : Option Addr} {L : List Int} (h : Rp w a L) {q : Nat} (hf : Fr (fun b => b = q) w w') (hq : Alien w q) : Rp w' a L := by
  obtain ⟨t, h1, h2, h3⟩ := h
  exact ⟨t, h1.stay fun b f hr => hf.block b hr.lt (fun e => by subst e; exact hq.1 f hr), h2, h3⟩
theorem Sees.fr {w w' : World} {B n : Nat} {A : Option Addr} {f : Nat → Value} (h : Sees w B A n f) (hi : ∀ j, (∃ k x, f j = .int k x) ∨ ∃ b, f j = .bool b) {q : Nat} (hf : Fr (fun b => b = q) w w') (hq : Alien w q) (hB : B ≤ w.heap.size) : Sees w' B A n f := by
  intro hn
  obtain ⟨b, o, h1, h2, h3⟩ := h hn
  have hne : ¬ b = q := fun e => by
    subst e
    obtain ⟨A', n', c', he⟩ := hq.2 _ _ (h3 0 hn)
    rcases hi 0 with ⟨k, x, e2⟩ | ⟨x, e2⟩ <;> (rw [e2] at he; cases he)
  exact ⟨b, o, h1, h2, fun j hj => (World.cell?_of_block (w := w) (a := ⟨b, o + j, none⟩) (hf.block b (by omega) hne)).trans (h3 j hj)⟩
theorem Ix.fr {w w' : World} {a A : Option Addr} {S : Sp} {R : Rws} (h : Ix w a A S R) {q : Nat} (hf : Fr (fun b => b = q) w w') (hq : Alien w q) : Ix w' a A S R :=
  ⟨h.rp.fr hf hq, (h.sp.fr (spf_int S) hf hq (Nat.le_refl _)).more hf.size, h.ks, h.ok, h.le, h.ps⟩
theorem LX.fr {w0 w w' : World} {ps : List XE} {qs : List (Option Addr × Rws)} (h : LX w0 w ps qs) {q : Nat} (hf : Fr (fun b => b = q) w w') (hq : Alien w q) (hb : w0.heap.size ≤ q) (hne : ∀ x ∈ ps, x.1 ≠ q) : LX w0 w' ps qs :=
  ⟨fun x hx => ⟨(h.vs x hx).1, World.rowIs.of_block (h.vs x hx).2.1 (hf.block x.1 (World.rowIs.lt (h.vs x hx).2.1) (hne x hx)), (h.vs x hx).2.2.fr hf hq⟩,
   fun x hx => ((h.s x hx).fr (rwf_ib _) hf hq (Nat.le_refl _)).more hf.size,
   ⟨hf.os.trans h.bl.os, hf.tape.trans h.bl.tape, hf.output.trans h.bl.output, Nat.le_trans h.bl.size hf.size, fun k hk => (hf.block k (Nat.lt_of_lt_of_le hk h.bl.size) (by omega)).trans (h.bl.block k hk)⟩⟩
theorem Kx.fr {B q : Nat} {w w' : World} (h : Kx B q w w') (hB : B = w.heap.size) : Fr (fun b => b = q) w w' := ⟨h.os, h.tape, h.output, h.size, fun k hk hn => h.block k (by omega) hn⟩
theorem Sees.grown {X Y : World} {B n : Nat} {A : Option Addr} {f : Nat → Value} (h : Sees X B A n f) {row : Option Nat} (hg : X.grownBy Y row) (hr : ∀ r, row = some r → ∃ o : Obj, X.heap[r]? = some o ∧ o.isCells = false) (hB : B ≤ X.heap.size) : Sees Y B A n f := by
  intro hn
  obtain ⟨b, o, h1, h2, h3⟩ := h hn
  have hne : some b ≠ row := fun e => by
    obtain ⟨ob, h4, h5⟩ := hr b e.symm
    have h6 := h3 0 hn
    unfold World.cell? at h6
    rw [show X.heap[(Addr.mk b (o + 0) none).block]? = _ from h4] at h6
    cases ob <;> simp_all [Obj.isCells]
  exact ⟨b, o, h1, h2, fun j hj => (World.cell?_of_block (w := X) (a := ⟨b, o + j, none⟩) (hg.block b (by omega) hne)).trans (h3 j hj)⟩
theorem keepsFrom_below {B : Nat} {W W' : World} (h : Below W.heap.size W W') : KeepsFrom B W W' := ⟨h.size, fun k o _ hk _ => (h.block k (Array.getElem?_eq_some_iff.1 hk).1).trans hk⟩
/-- What the loop keeps: the box holds the spans of those that are known, with the parts that have come. -/
def MvI (wB : World) (q : Nat) (p : Nat → Bool) {N : Nat} (pre : List (Rg N)) (W : World) : Prop :=
  (∃ A' S', Boxed W q 30 (.slice A' S'.length S'.length) ∧ SeesP W W.heap.size A' S' ∧ KnS S' (pM p (pre.map (·.1)))) ∧ Kx wB.heap.size q wB W
theorem MvI.own (wB : World) (q : Nat) (p : Nat → Bool) (N : Nat) : OwnFrom wB.heap.size (fun (pre : List (Rg N)) W => MvI wB q p pre W) := by
  rintro pre X Y row ⟨⟨A', S', h1, h2, h3⟩, h4⟩ hg hr
  refine ⟨⟨A', S', h1.kept hg (fun e => ?_), (h2.grown hg (fun r e => (hr r e).2) (Nat.le_refl _)).more hg.size, h3⟩, h4.trans (Kx.grown hg h4.size (fun r e => .inl (hr r e).1))⟩
  obtain ⟨_, o, h5, h6⟩ := hr q e.symm
  rw [show X.heap[q]? = _ from h1] at h5
  cases h5
  cases h6
/-- The loop's variable. -/
def SpBox (W : World) (b : Nat) (x y : Int) : Prop := W.heap[b]? = some (.cells #[.int .i64 x, .int .i64 y] 168 (0, 0))
theorem SpBox.cells {W : World} {b : Nat} {x y : Int} (h : SpBox W b x y) : W.cell? ⟨b, 0, none⟩ = some (.int .i64 x) ∧ W.cell? ⟨b, 1, none⟩ = some (.int .i64 y) := by
  constructor <;> simp [World.cell?, show W.heap[b]? = _ from h]
theorem Kx.set (B q : Nat) (w : World) (v : Value) : Kx B q w (w.setCell ⟨q, 0, none⟩ v) := ⟨rfl, rfl, rfl, by simp [World.setCell], fun k _ hn => Below.heap_setCell _ _ _ k hn⟩
theorem MvI.set {wB W w2 : World} {q N : Nat} {p : Nat → Bool} {pre : List (Rg N)} {x : Rg N} {A2 : Option Addr} {S2 : Sp} (hb : ∃ v, Boxed W q 30 v ∧ ∃ A n c, v = .slice A n c) (hk : Kx wB.heap.size q wB W) (h1 : SeesP w2 w2.heap.size A2 S2) (h2 : KnS S2 (markF (pM p (pre.map (·.1))) x.1.1 x.1.2 true)) (h3 : Below W.heap.size W w2) :
    KeepsFrom wB.heap.size W (w2.setCell ⟨q, 0, none⟩ (.slice A2 S2.length S2.length)) ∧ Kx wB.heap.size q W (w2.setCell ⟨q, 0, none⟩ (.slice A2 S2.length S2.length)) ∧ MvI wB q p (pre ++ [x]) (w2.setCell ⟨q, 0, none⟩ (.slice A2 S2.length S2.length)) := by
  obtain ⟨v, hv, A, n, c, rfl⟩ := hb
  have hv2 : Boxed w2 q 30 (.slice A n c) := (h3.block q hv.lt).trans hv
  have k2 : Kx wB.heap.size q W (w2.setCell ⟨q, 0, none⟩ (.slice A2 S2.length S2.length)) := (Kx.of_below (h3.mono hk.size)).trans (Kx.set _ _ _ _)
  refine ⟨(keepsFrom_below h3).trans ((KeepsOthers.setCell _ _ _).from _), k2, ⟨A2, S2, hv2.set _, (Sees.set_other h1 hv2.cell (fun j hj e => ?_) _).more (by simp [World.setCell]), ?_⟩, hk.trans k2⟩
  · rcases spf_int S2 j with ⟨k, y, h⟩ | ⟨y, h⟩ <;> (rw [h] at e; cases e)
  · rw [List.map_append]
    show KnS S2 (pM p (pre.map (·.1) ++ [x.1]))
    rw [pM_snoc]
    exact h2
set_option maxRecDepth 100000 in
set_option maxHeartbeats 6400000 in
theorem imove_ok (w : World) (a A : Option Addr) (S : Sp) (R : Rws) (h : Ix w a A S R) (k m t : Nat) (hc : k + m ≤ R.length) (ht : t ≤ R.length - m) :
    Calls Tryz.prog 40 #[ixv a A S.length, .int .i64 k, .int .i64 m, .int .i64 t] w (IPost w (movR R k m t) 0) := by
  have V := Lib.hid (vI_x h)
  have g1 := V.out.get (.tail _ (.head _))
  have hle := h.le
  have KS := Lib.hid (rmove_any _ a (szs R) g1.ix.rp h.ok k m t ⟨by omega, by omega⟩)
  have hc0 : movErr (szs R) k m t = 0 := by unfold movErr; rw [szs_len, if_neg (by omega)]
  have e2 : movTo (szs R) k m t = szs (movR R k m t) := by unfold movTo; rw [hc0, szs_movR]; rfl
  rw [hc0, e2] at KS
  have OK : Hid (LOk (szs (movR R k m t))) := by rw [szs_movR]; exact movL_ok h.ok k m t
  have PS : Hid (∀ x ∈ szs (movR R k m t), 1 ≤ x ∧ x ≤ 2305843009213693952) := fun x hx => h.ps x (mem_movR hx)
  have LE : Hid ((movR R k m t).length ≤ 1024) := by show _ ≤ _; rw [len_movR R hc ht]; omega
  have KN : Hid (∀ T, KnS T (pM (insF (remF (kn R) k m) t m) (partsN k m t S)) → KnS T (kn (movR R k m t))) := fun T hT => hT.congr (fun j => by rw [pM_any, parts_any h.ks, kn_movR R hc ht])
  have KR := Lib.hid (fun W (hW : Below (vI w a A S.length).heap.size (vI w a A S.length) W) => srem_small W A _ S (kn R) R.length k m (g1.ix.sp.below hW) hW.size h.ks h.lt (by omega) (by omega) (by omega))
  have LR := Lib.hid (remF_lt2 (a := k) (n := m) h.lt (by omega))
  have HX := Lib.hid h
  obtain ⟨x1, x2, _, _, _, l1⟩ := g1
  obtain ⟨R', eR⟩ : ∃ R', R' = movR R k m t := ⟨_, rfl⟩
  rw [← eR] at OK PS LE KN KS ⊢
  obtain ⟨w0, e0⟩ : ∃ w0, w0 = vI w a A S.length := ⟨_, rfl⟩
  rw [← e0] at V KS KR x1 x2 l1
  clear h hc0 e2 eR
  refine (callsIn_wide (n := 8)).1 (callsIn_of_wp_marks Tryz.func40 rfl trivial ?_ rfl)
  simp only [Tryz.ntmps40, List.size_toArray, List.length_cons, List.length_nil, Nat.reduceAdd, Nat.reduceSub, Array.replicate_succ, Array.replicate_zero, List.push_toArray, List.append_toArray, List.nil_append, List.cons_append]
  refine wpIn_wide.2 ?_
  go_wp2_with fail
  change Calls Tryz.prog _ _ (vI w a A S.length) _
  rw [← e0]
  refine (KS.out).mono ?_
  rintro e w3 ⟨r, rfl, hr, hb⟩
  have HB3 := Lib.hid hb
  have V3 := Lib.hid (V.out.below hb)
  have VR3 := Lib.hid (Boxed.new w3 27 (.pointer r))
  have V4 := Lib.hid (V3.out.alloc (.cells #[.pointer r] 27))
  have HR4 := Lib.hid (hr.below ((Below.refl _ w3).alloc (Nat.le_refl _) (.cells #[.pointer r] 27)))
  have HB4 := Lib.hid (HB3.out.alloc HB3.out.size (.cells #[.pointer r] 27))
  clear hb hr x1 x2 l1
  obtain ⟨x1, x2, _, _, _, l1⟩ := V3.out.get (.tail _ (.head _))
  go_wp2_with fail
  refine (KR.out _ HB4.out).mono ?_
  rintro e w5 ⟨A5, S5, rfl, p1, p2, p3⟩
  have V5 := Lib.hid (V4.out.below p3)
  have hB5 : Below w3.heap.size w3 w5 := ((Below.refl _ w3).alloc (Nat.le_refl _) _).trans (p3.mono (by rw [World.size_alloc]; omega))
  have VR5 : Hid (Boxed w5 w3.heap.size 27 (.pointer r)) := (p3.block _ (by rw [World.size_alloc]; omega)).trans VR3.out
  have HR5 := Lib.hid (HR4.out.below p3)
  have KI := Lib.hid (sins_small (w5.alloc (.cells #[.slice A5 S5.length S5.length] 30)) A5 w5.heap.size S5 _ (R.length - m) t m (p1.below ((Below.refl _ w5).alloc (Nat.le_refl _) _)) (by rw [World.size_alloc]; omega) p2 LR.out (by omega) (by omega))
  have LS5 : Hid (w3.heap.size < w5.heap.size) := by have := p3.size; rw [World.size_alloc] at this; exact this
  clear p1 p2 p3 x1 x2 l1 hB5
  go_wp2_with fail
  refine (KI.out).mono ?_
  rintro e w6 ⟨A6, S6, rfl, p1, p2, p3⟩
  have V6 := Lib.hid ((V5.out.alloc (.cells #[.slice A5 S5.length S5.length] 30)).below p3)
  have VR6 : Hid (Boxed w6 w3.heap.size 27 (.pointer r)) := (p3.block _ (by rw [World.size_alloc]; have := LS5.out; omega)).trans ((Below.heap_alloc _ _ _ LS5.out).trans VR5.out)
  have HR6 := Lib.hid ((HR5.out.below ((Below.refl _ w5).alloc (Nat.le_refl _) (.cells #[.slice A5 S5.length S5.length] 30))).below p3)
  have VL6 : Hid (Boxed w6 w5.heap.size 30 (.slice A5 S5.length S5.length)) := (p3.block _ (by rw [World.size_alloc]; omega)).trans (Boxed.new w5 _ _)
  have lb6 := p3.size
  rw [World.size_alloc] at lb6
  have ls5 := LS5.out
  have l30 := (V3.out.get (.head _)).lt
  have cl := VL6.out.cell
  have fl := VL6.out.frozen
  have fr7 : Fr (fun b => b = w5.heap.size) w6 (w6.setCell ⟨w5.heap.size, 0, none⟩ (.slice A6 S6.length S6.length)) := Fr.setCell (S := fun b => b = w5.heap.size) (Fr.refl _ w6) (p := ⟨w5.heap.size, 0, none⟩) rfl _
  have V7 := Lib.hid (V6.out.fr fr7 (Alien.boxed VL6.out) (by have := V3.out.bl.size; omega) (fun x hx => by
    simp only [List.mem_cons, List.not_mem_nil, or_false] at hx
    rcases hx with rfl | rfl
    · show w.heap.size + 1 ≠ _; omega
    · show w.heap.size ≠ _; omega))
  have VR7 : Hid (Boxed (w6.setCell ⟨w5.heap.size, 0, none⟩ (.slice A6 S6.length S6.length)) w3.heap.size 27 (.pointer r)) := VR6.out.other (by omega) _
  have VL7 := Lib.hid (VL6.out.set (.slice A6 S6.length S6.length))
  have HR7 := Lib.hid (HR6.out.fr fr7 (Alien.boxed VL6.out))
  have SP7 : Hid (SeesP (w6.setCell ⟨w5.heap.size, 0, none⟩ (.slice A6 S6.length S6.length)) w6.heap.size A6 S6) := p1.fr (spf_int S6) fr7 (Alien.boxed VL6.out) (Nat.le_refl _)
  have KS7 := Lib.hid p2
  have sz7 : (w6.setCell ⟨w5.heap.size, 0, none⟩ (.slice A6 S6.length S6.length)).heap.size = w6.heap.size := by simp [World.setCell]
  obtain ⟨x1, x2, _, _, _, l1⟩ := V6.out.get (.tail _ (.head _))
  have lw5 : ¬ w.heap.size = w5.heap.size := by omega
  clear fr7 p1 p2 p3 KI KR KS VR3 V4 HR4 HB4 V5 VR5 HR5
  go_wp2_with fail
  generalize w6.setCell ⟨w5.heap.size, 0, none⟩ (.slice A6 S6.length S6.length) = w7 at V7 VR7 VL7 HR7 SP7 sz7 ⊢
  have SZ7 := Lib.hid sz7
  clear x1 x2 l1 cl fl lw5 sz7
  refine (part_any w7 A S.length _ _ _).mono ?_
  rintro e w8 ⟨rfl, rfl⟩
  have b8 : Below w7.heap.size w7 ((((w7.alloc (.cells #[.slice A S.length S.length] 30)).alloc (.cells #[.int .i64 k] 3)).alloc (.cells #[.int .i64 ((k : Int) + (m : Int))] 3)).alloc (.cells #[.int .i64 ((t : Int) - (k : Int))] 3)) := ((((Below.refl _ w7).alloc (Nat.le_refl _) _).alloc (by simp) _).alloc (by simp; omega) _).alloc (by simp; omega) _
  have q1 := Boxed.cell ((((Boxed.new w7 30 (.slice A S.length S.length)).alloc (.cells #[.int .i64 k] 3)).alloc (.cells #[.int .i64 ((k : Int) + (m : Int))] 3)).alloc (.cells #[.int .i64 ((t : Int) - (k : Int))] 3))
  have q2 := Boxed.cell (((Boxed.new (w7.alloc (.cells #[.slice A S.length S.length] 30)) 3 (.int .i64 k)).alloc (.cells #[.int .i64 ((k : Int) + (m : Int))] 3)).alloc (.cells #[.int .i64 ((t : Int) - (k : Int))] 3))
  have q3 := Boxed.cell ((Boxed.new ((w7.alloc (.cells #[.slice A S.length S.length] 30)).alloc (.cells #[.int .i64 k] 3)) 3 (.int .i64 ((k : Int) + (m : Int)))).alloc (.cells #[.int .i64 ((t : Int) - (k : Int))] 3))
  have q4 := Boxed.cell (Boxed.new (((w7.alloc (.cells #[.slice A S.length S.length] 30)).alloc (.cells #[.int .i64 k] 3)).alloc (.cells #[.int .i64 ((k : Int) + (m : Int))] 3)) 3 (.int .i64 ((t : Int) - (k : Int))))
  have sz8 : ((((w7.alloc (.cells #[.slice A S.length S.length] 30)).alloc (.cells #[.int .i64 k] 3)).alloc (.cells #[.int .i64 ((k : Int) + (m : Int))] 3)).alloc (.cells #[.int .i64 ((t : Int) - (k : Int))] 3)).heap.size = w7.heap.size + 4 := by simp
  simp only [World.size_alloc] at q2 q3 q4
  go_wp2_with fail
  generalize (((w7.alloc (.cells #[.slice A S.length S.length] 30)).alloc (.cells #[.int .i64 k] 3)).alloc (.cells #[.int .i64 ((k : Int) + (m : Int))] 3)).alloc (.cells #[.int .i64 ((t : Int) - (k : Int))] 3) = wB at q1 q2 q3 q4 sz8 b8 ⊢
  have LP : Hid (∀ j, insF (remF (kn R) k m) t m j = true → j < R.length) := fun j hj => by have := insF_lt (a := t) (n := m) LR.out j hj; omega
  have sz7 := SZ7.out
  have hbB : w6.heap.size ≤ wB.heap.size := by omega
  have SKB : Hid (SK wB.heap.size w5.heap.size wB A S) := fun h0 => by
    obtain ⟨b, o, j1, j2, j3⟩ := (V7.out.get (.tail _ (.head _))).ix.sp (by omega)
    refine ⟨b, o, j1, by omega, fun e => ?_, fun j hj => (b8.cell (p := ⟨b, o + j, none⟩) j2).trans (j3 j hj)⟩
    have h3 := j3 0 (by omega)
    rw [e] at h3
    obtain ⟨A', n', c', he⟩ := (Alien.boxed VL7.out).2 _ _ h3
    rcases spf_int S 0 with ⟨y, x, e2⟩ | ⟨x, e2⟩ <;> (rw [e2] at he; cases he)
  refine (wpIn_wide (n := 8)).1 ?_
  refine wpIn_rangeFunc_ownH (F := Fence.wide) (n := 8) rfl (by omega) (gf := 141) (lb := #[.pointer (some ⟨w7.heap.size, 0, none⟩), .pointer (some ⟨w7.heap.size + 1, 0, none⟩), .pointer (some ⟨w7.heap.size + 1 + 1 + 1, 0, none⟩), .pointer (some ⟨w7.heap.size + 1 + 1, 0, none⟩)]) (by simp [go_sem]; done) trivial (enters_of Tryz.func141 (by kernel_rfl) rfl)
    (encs := encR (N := R.length)) (Kp := Kx wB.heap.size w5.heap.size) (S := fun ys => ys.map (·.1) = partsN k m t S) (Sp := fun _ => True) (N := S.length) (w0 := wB)
    (fun l J Jx W hW hJ _ hY h0 => part1_in 7 (by omega) l w7.heap.size (w7.heap.size + 1) (w7.heap.size + 1 + 1 + 1) (w7.heap.size + 1 + 1) wB.heap.size w5.heap.size R.length k m t A S HX.out.ks.nf HX.out.slen hc (by omega) (by omega) (by omega) (by omega) (by omega) (by omega) (by omega) (by omega) (by omega) (by omega) J Jx hY W hW.size hJ
      ((hW.cell (p := ⟨w7.heap.size, 0, none⟩) (by show w7.heap.size < _; omega)).trans q1) ((hW.cell (p := ⟨w7.heap.size + 1, 0, none⟩) (by show w7.heap.size + 1 < _; omega)).trans q2) ((hW.cell (p := ⟨w7.heap.size + 1 + 1 + 1, 0, none⟩) (by show w7.heap.size + 1 + 1 + 1 < _; omega)).trans q4) ((hW.cell (p := ⟨w7.heap.size + 1 + 1, 0, none⟩) (by show w7.heap.size + 1 + 1 < _; omega)).trans q3)
      ((SKB.out).keep (Kx.of_below hW)) h0)
    (fun h k => h.trans k) (fun W l o o' hl h h1 h2 => Kx.of_below (belowK_b (w := wB) (Nat.le_refl _) W l o o' hl h h1 h2)) (Below.refl _ _) (fun _ => rfl)
    (fun pre W => MvI wB w5.heap.size (insF (remF (kn R) k m) t m) pre W) (fun _ _ _ => False) (MvI.own _ _ _ _) (fun _ _ _ _ _ hs _ _ => hs)
    ⟨⟨A6, S6, (b8.block _ (by omega)).trans VL7.out, (SP7.out.below (b8.mono (by omega))).more hbB, KS7.out⟩, Kx.refl _ _ _⟩
    (fun x a' W => ∃ Bx, SpBox W Bx x.1.1 x.1.2 ∧ a' = { tmps := #[ixv a A S.length, .int .i64 k, .int .i64 m, .int .i64 t, .pointer (some ⟨w.heap.size, 0, none⟩), undef, undef, undef, .pointer (some ⟨w.heap.size + 1, 0, none⟩), .int .i64 0, .pointer (some ⟨w3.heap.size, 0, none⟩), .int .i64 0, .pointer (some ⟨w5.heap.size, 0, none⟩), .int .i64 0, .pointer (some ⟨Bx, 0, none⟩),
      .tuple #[.agg #[.pointer r], .int .i64 0], .pointer (some ⟨w.heap.size, 0, none⟩), .pointer (some ⟨w.heap.size, 0, none⟩), .agg #[.pointer a], .int .i64 k, .int .i64 m, .int .i64 t, .tuple #[.agg #[.pointer r], .int .i64 0], .agg #[.pointer r], .int .i64 0, .int .i64 0, .bool false, undef, undef,
      .tuple #[.slice A5 S5.length S5.length, .int .i64 0], .pointer (some ⟨w.heap.size, 1, none⟩), .slice A S.length S.length, .int .i64 k, .int .i64 m, .tuple #[.slice A5 S5.length S5.length, .int .i64 0], .slice A5 S5.length S5.length, .int .i64 0,
      .tuple #[.slice A6 S6.length S6.length, .int .i64 0], .slice A5 S5.length S5.length, .int .i64 t, .int .i64 m, .tuple #[.slice A6 S6.length S6.length, .int .i64 0], .slice A6 S6.length S6.length, .int .i64 0,
      .pointer (some ⟨w.heap.size, 1, none⟩), .slice A S.length S.length, .int .i64 k, .int .i64 k, .int .i64 m, .int .i64 ((k : Int) + (m : Int)), .int .i64 t, .int .i64 k, .int .i64 ((t : Int) - (k : Int)),
      .func (.func 141) #[] #[.pointer (some ⟨w7.heap.size, 0, none⟩), .pointer (some ⟨w7.heap.size + 1, 0, none⟩), .pointer (some ⟨w7.heap.size + 1 + 1 + 1, 0, none⟩), .pointer (some ⟨w7.heap.size + 1 + 1, 0, none⟩)], .agg #[.int .i64 x.1.1, .int .i64 x.1.2], undef, undef, undef, undef, undef, undef, undef, undef, undef, undef, undef, undef], defers := [] })
    (fun x a' _ X Y row hs hg hr => by
      obtain ⟨Bx, h2, h3⟩ := hs
      refine ⟨Bx, (hg.block Bx (Array.getElem?_eq_some_iff.1 h2).1 (fun e => ?_)).trans h2, h3⟩
      obtain ⟨_, o, h5, h6⟩ := hr Bx e.symm
      rw [show X.heap[Bx]? = _ from h2] at h5
      cases h5
      cases h6)
    ?assign ?body ?done ?stop
  case assign =>
    rintro l pre x W K ⟨⟨A', S', i1, i2, i3⟩, i4⟩ hK
    clear sz7
    simp only [encR]
    gi_wp2
    refine hK _ _ (keepsFrom_below ((Below.refl _ W).alloc (Nat.le_refl _) _)) (Kx.of_below (((Below.refl _ W).alloc (Nat.le_refl _) _).mono i4.size)) ⟨⟨A', S', i1.alloc _, (i2.below ((Below.refl _ W).alloc (Nat.le_refl _) _)).more (by rw [World.size_alloc]; omega), i3⟩, i4.trans (Kx.of_below (((Below.refl _ W).alloc (Nat.le_refl _) _).mono i4.size))⟩ ⟨W.heap.size, World.alloc_heap_new W _, ?_⟩
    rfl
  case body =>
    rintro l pre x a' W hl ⟨r', hr'⟩ ⟨⟨A', S', i1, i2, i3⟩, i4⟩ ⟨Bx, hbx, rfl⟩ hlt
    have KM := Lib.hid (marked_any W A' _ S' _ R.length x.1.1 x.1.2 true i2 (Nat.le_refl _) i3 (pM_lt LP.out (fun y hy => by
      obtain ⟨z, _, rfl⟩ := List.mem_map.1 hy
      exact z.2.2)) (by omega) x.2.1 x.2.2)
    have cL := i1.cell
    have fL := i1.frozen
    obtain ⟨s0, s1⟩ := hbx.cells
    have I1 := Lib.hid i1
    have I4 := Lib.hid i4
    clear i1 i2 i3 i4 hbx hr' sz7
    gi_wp2_with fail
    refine ⟨trivial, (CallsIn.inRound l (callsIn_wide.2 KM.out)).mono ?_⟩
    rintro e w2 ⟨A2, S2, rfl, g1, g2, g3⟩
    have M := Lib.hid (MvI.set ⟨_, I1.out, _, _, _, rfl⟩ I4.out g1 g2 g3)
    have B2 : Hid (Boxed w2 w5.heap.size 30 (.slice A' S'.length S'.length)) := (g3.block _ I1.out.lt).trans I1.out
    have cL2 := B2.out.cell
    have fL2 := B2.out.frozen
    clear g1 g2 g3 cL fL s0 s1 KM
    gi_wp2_with fail
    exact M.out
  case done =>
    rintro D zs W hD hS ⟨⟨A', S', i1, i2, i3⟩, i4⟩ hK
    have FW := i4.fr rfl
    have AL := Alien.boxed ((b8.block _ (by omega)).trans VL7.out : Boxed wB _ _ _)
    have VW := Lib.hid ((V7.out.below b8).fr FW AL (by have := V3.out.bl.size; omega) (fun x hx => by
      simp only [List.mem_cons, List.not_mem_nil, or_false] at hx
      rcases hx with rfl | rfl
      · show w.heap.size + 1 ≠ _; omega
      · show w.heap.size ≠ _; omega))
    have HRW := Lib.hid ((HR7.out.below b8).fr FW AL)
    have VRW : Hid (Boxed W w3.heap.size 27 (.pointer r)) := (FW.block _ (by omega) (by omega)).trans ((b8.block _ (by omega)).trans VR7.out)
    rw [hS] at i3
    have KP := Lib.hid (with_ok W r A' S' R' ⟨HRW.out, i2, KN.out _ i3, OK.out, LE.out, PS.out⟩)
    have cR := VRW.out.cell
    have cL := i1.cell
    have lD := (Array.getElem?_eq_some_iff.1 hK).1
    have HK := Lib.hid hK
    clear sz7 i1 i2 i3 i4 hK hS AL FW q1 q2 q3 q4 b8
    go_wp2_with fail
    refine (KP.out).mono ?_
    rintro e w9 ⟨a9, A9, S9, rfl, g1, g2⟩
    have V9 := Lib.hid (VW.out.below g2)
    obtain ⟨y1, y2, y3, y4, l4⟩ := V9.out.get0 (.head _)
    have V10 := Lib.hid (V9.out.put1 (.head _) g1)
    have K9 := (g2.block D lD).trans HK.out
    have K10 : Hid (((w9.setCell ⟨w.heap.size + 1, 0, none⟩ (.pointer a9)).setCell ⟨w.heap.size + 1, 1, none⟩ (.slice A9 S9.length S9.length)).heap[D]? = some (.deferred (some []))) :=
      (Below.heap_setCell _ _ _ D (by show D ≠ w.heap.size + 1; omega)).trans ((Below.heap_setCell _ _ _ D (by show D ≠ w.heap.size + 1; omega)).trans K9)
    clear g1 g2 K9 cR cL KP
    go_wp2_with fail
    generalize (w9.setCell ⟨w.heap.size + 1, 0, none⟩ (.pointer a9)).setCell ⟨w.heap.size + 1, 1, none⟩ (.slice A9 S9.length S9.length) = w10 at V10 K10 ⊢
    have V11 := Lib.hid (V10.out.fr (w' := w10.putObj D (.deferred none)) ⟨rfl, rfl, rfl, by simp [World.putObj], fun k _ hn => World.putObj_heap_other (fun e => hn e)⟩ (Alien.other K10.out rfl) (by have := VW.out.bl.size; omega) (fun x hx => by
      simp only [List.mem_cons, List.not_mem_nil, or_false] at hx
      rcases hx with rfl
      show w.heap.size + 1 ≠ _; omega))
    obtain ⟨z1, z2, _, _, _, _⟩ := V11.out.get (.head _)
    refine ⟨by simp, .inl ⟨_, _, rfl, run_takeDeferred K10.out, ?_⟩⟩
    refine ⟨.tuple #[ixv a9 A9 S9.length, .int .i64 0], ?_, a9, A9, S9, rfl, (V11.out.get (.head _)).ix, V11.out.bl⟩
    simp [results, Tryz.results40, go_sem, z1, z2]
  case stop =>
    rintro D c pre W _ _ h _
    exact h.elim
end Go.Proofs.YtfmfmeiaekknbaaGreat
end

section
/-
  As Held: a region's plan is a tree: what yields the same in each world that meets S is taken first; a mark alone; or either of two marks, whichever comes first. Over any program.
-/
namespace Go.Proofs.YtfmfmeiaekknbaaGreat
open Go.RowKit
set_option linter.unusedVariables false

inductive PT where
  | fin
  | pure (i : Nat) (p : PT)
  | mark (i : Nat) (p : PT)
  | two (i j : Nat) (p q : PT)
def PT.pures : List Nat → PT → PT
  | [], p => p
  | i :: is, p => .pure i (PT.pures is p)
def PT.size : PT → Nat
  | .fin => 0
  | .pure _ p => p.size + 1
  | .mark _ p => p.size + 1
  | .two _ _ p _ => p.size + 1
section
variable {P : Program} {ops : Array Oper} {md : Region.Mode}

def planT (md : Region.Mode) (ops : Array Oper) : PT → Array Bool → Bool
  | .fin, l => decide (Region.ready md ops l = [])
  | .pure i p, l => (Region.ready md ops l).contains i && Region.free md ops l i && planT md ops p (l.setIfInBounds i true)
  | .mark i p, l => decide (Region.ready md ops l = [i]) && planT md ops p (l.setIfInBounds i true)
  | .two i j p q, l => decide (Region.ready md ops l = [i, j]) && decide (q.size = p.size) && planT md ops p (l.setIfInBounds i true) && planT md ops q (l.setIfInBounds j true)
/-- What is to be walked. -/
def HT (P : Program) (ops : Array Oper) (Q : Exit → Act → World → Prop) (S : World → Prop) : PT → Act → World → Prop
  | .fin, a, w => Q .normal a w
  | .pure i p, a, w => ∀ o, ops[i]? = some o → if Region.wanted o (yielded ops a.tmps) then ∃ v, (∀ w', S w' → (execOp a.eval o).run P w' = .ok (.value v) w') ∧ HT P ops Q S p (a.put o.dst v) w else HT P ops Q S p (a.put o.dst undef) w
  | .mark i p, a, w => ∀ o, ops[i]? = some o → wpList P ops (fun e x y => match e with | .normal => S y ∧ HT P ops Q S p x y | .panic _ => False | e => Q e x y) [o] a w
  | .two i j p q, a, w => (∀ o, ops[i]? = some o → wpList P ops (fun e x y => match e with | .normal => S y ∧ HT P ops Q S p x y | .panic _ => False | e => Q e x y) [o] a w) ∧
      (∀ o, ops[j]? = some o → wpList P ops (fun e x y => match e with | .normal => S y ∧ HT P ops Q S q x y | .panic _ => False | e => Q e x y) [o] a w)

theorem tree_mark {Q : Exit → Act → World → Prop} {S : World → Prop} {j : Nat} {o : Oper} (ho : ops[j]? = some o) {p : PT} {l : Array Bool} {a : Act} {w : World}
    (hstep : ∀ (x : Act) (y : World), (S y ∧ HT P ops Q S p x y) → S y ∧ wpAnyH P md ops (NoPan Q) S p.size (l.setIfInBounds j true) x y)
    (h : wpList P ops (fun e x y => match e with | .normal => S y ∧ HT P ops Q S p x y | .panic _ => False | e => Q e x y) [o] a w) :
    wpOp P ops (NoPan Q) j (fun a' w' => S w' ∧ wpAnyH P md ops (NoPan Q) S p.size (l.setIfInBounds j true) a' w') a w := by
  unfold wpList at h
  unfold wpOp
  simp only [ho]
  split
  · rename_i hw
    rw [if_pos hw] at h
    rcases h with h | ⟨h4, x, y, h5⟩
    · exact .inl (wp_turn (fun x y hm => hstep x y hm) (fun e x y he hm => by cases e <;> first | exact absurd rfl he | exact hm) h)
    · exact .inr ⟨h4, x, y, h5⟩
  · rename_i hw
    rw [if_neg hw] at h
    exact hstep _ _ h
theorem ready_op {l : Array Bool} {i : Nat} (hr : i ∈ Region.ready md ops l) : ∃ o, ops[i]? = some o := by
  obtain ⟨_, o, ho, _⟩ := mem_ready.1 hr
  exact ⟨o, ho⟩
theorem tree_any {Q : Exit → Act → World → Prop} {S : World → Prop} (hsel : Region.noSelect ops = true) : ∀ (p : PT) (l : Array Bool) (a : Act) (w : World), S w →
    planT md ops p l = true → HT P ops Q S p a w → wpAnyH P md ops (NoPan Q) S p.size l a w
  | .fin, l, a, w, hS, hB, h => wpAnyH_done (P := P) (S := S) (Q := NoPan Q) (by simpa [planT] using hB) h 0
  | .pure i p, l, a, w, hS, hB, h => by
    simp only [planT, Bool.and_eq_true] at hB
    obtain ⟨⟨h1, h2⟩, h3⟩ := hB
    have hr : i ∈ Region.ready md ops l := by simpa using h1
    obtain ⟨o, ho⟩ := ready_op hr
    have h : (if Region.wanted o (yielded ops a.tmps) then ∃ v, (∀ w', S w' → (execOp a.eval o).run P w' = .ok (.value v) w') ∧ HT P ops Q S p (a.put o.dst v) w else HT P ops Q S p (a.put o.dst undef) w) := h o ho
    by_cases hw : Region.wanted o (yielded ops a.tmps) = true
    · rw [if_pos hw] at h
      obtain ⟨v, hv, hn⟩ := h
      exact wpAnyH_take ho hsel h2 h1 (fun _ _ _ h => h) (.inl ⟨hw, hv⟩) hS (tree_any hsel p _ _ w hS h3 hn)
    · rw [if_neg hw] at h
      exact wpAnyH_take (v := undef) ho hsel h2 h1 (fun _ _ _ h => h) (.inr ⟨by simpa using hw, rfl⟩) hS (tree_any hsel p _ _ w hS h3 h)
  | .mark i p, l, a, w, hS, hB, h => by
    simp only [planT, Bool.and_eq_true, decide_eq_true_eq] at hB
    obtain ⟨h1, h3⟩ := hB
    have hr : i ∈ Region.ready md ops l := by rw [h1]; simp
    obtain ⟨o, ho⟩ := ready_op hr
    refine wpAnyH_all h1 (by simp) fun j hj => ?_
    obtain rfl : j = i := by simpa using hj
    exact tree_mark ho (fun x y hxy => ⟨hxy.1, tree_any hsel p _ x y hxy.1 h3 hxy.2⟩) (h o ho)
  | .two i j p q, l, a, w, hS, hB, h => by
    simp only [planT, Bool.and_eq_true, decide_eq_true_eq] at hB
    obtain ⟨⟨⟨h1, h4⟩, h2⟩, h3⟩ := hB
    obtain ⟨oi, hi⟩ := ready_op (md := md) (ops := ops) (l := l) (i := i) (by rw [h1]; simp)
    obtain ⟨oj, hj⟩ := ready_op (md := md) (ops := ops) (l := l) (i := j) (by rw [h1]; simp)
    obtain ⟨x1, x2⟩ := h
    refine wpAnyH_all h1 (by simp) fun t ht => ?_
    have ht' : t = i ∨ t = j := by simpa using ht
    rcases ht' with rfl | rfl
    · exact tree_mark hi (fun x y hxy => ⟨hxy.1, tree_any hsel p _ x y hxy.1 h2 hxy.2⟩) (x1 oi hi)
    · have := tree_mark (md := md) (l := l) hj (fun x y hxy => ⟨hxy.1, tree_any hsel q _ x y hxy.1 h3 hxy.2⟩) (x2 oj hj)
      rw [h4] at this
      exact this

theorem wp_region_tree {id : Nat} {Q : Exit → Act → World → Prop} {a : Act} {w : World} {l : List Oper} (p : PT) (S : World → Prop) (hm : P.follows .mixedOrders = true)
    (hB : (Region.noSelect l.toArray && decide (p.size = l.toArray.size) && planT .any l.toArray p (Array.replicate l.toArray.size false)) = true) (hS : S w.drew)
    (h : HT P l.toArray Q S p a w.drew) : (Code.region id l.toArray true).wp P Q a w := by
  refine Code.wp_mono NoPan.imp ?_
  simp only [Bool.and_eq_true, decide_eq_true_eq] at hB
  obtain ⟨⟨hsel, hcnt⟩, hB⟩ := hB
  refine wp_region_held (S := S) hm ?_
  have := tree_any (md := .any) (Q := Q) hsel p (Array.replicate l.toArray.size false) a w.drew hS hB h
  rw [hcnt] at this
  exact this
theorem HT.pure {Q : Exit → Act → World → Prop} {S : World → Prop} {i : Nat} {o : Oper} {p : PT} {a : Act} {w : World} (ho : ops[i]? = some o)
    (h : ∀ K : Act → Prop, (∀ a, HT P ops Q S p a w → K a) → if Region.wanted o (yielded ops a.tmps) then ∃ v, (∀ w', S w' → (execOp a.eval o).run P w' = .ok (.value v) w') ∧ K (a.put o.dst v) else K (a.put o.dst undef)) : HT P ops Q S (.pure i p) a w :=
  fun o' ho' => by
    obtain rfl : o = o' := Option.some.inj (ho.symm.trans ho')
    exact h _ (fun _ h => h)
theorem HT.mark {Q : Exit → Act → World → Prop} {S : World → Prop} {i : Nat} {o : Oper} {p : PT} {a : Act} {w : World} (ho : ops[i]? = some o)
    (h : wpList P ops (fun e x y => match e with | .normal => S y ∧ HT P ops Q S p x y | .panic _ => False | e => Q e x y) [o] a w) : HT P ops Q S (.mark i p) a w := fun o' ho' => by
  obtain rfl : o = o' := Option.some.inj (ho.symm.trans ho')
  exact h
theorem HT.two {Q : Exit → Act → World → Prop} {S : World → Prop} {i j : Nat} {o u : Oper} {p q : PT} {a : Act} {w : World} (ho : ops[i]? = some o) (hu : ops[j]? = some u)
    (h1 : wpList P ops (fun e x y => match e with | .normal => S y ∧ HT P ops Q S p x y | .panic _ => False | e => Q e x y) [o] a w)
    (h2 : wpList P ops (fun e x y => match e with | .normal => S y ∧ HT P ops Q S q x y | .panic _ => False | e => Q e x y) [u] a w) : HT P ops Q S (.two i j p q) a w := by
  refine ⟨fun o' ho' => ?_, fun o' ho' => ?_⟩
  · obtain rfl : o = o' := Option.some.inj (ho.symm.trans ho')
    exact h1
  · obtain rfl : u = o' := Option.some.inj (hu.symm.trans ho')
    exact h2
theorem HT.fin {Q : Exit → Act → World → Prop} {S : World → Prop} {a : Act} {w : World} (h : Q .normal a w) : HT P ops Q S .fin a w := h
end
end Go.Proofs.YtfmfmeiaekknbaaGreat
end

section
/-
  Law package 06: the reference's Top and At; same.
-/
namespace Go.Proofs.YtfmfmeiaekknbaaGreat
open Go.RowKit
set_option linter.unusedVariables false
set_option linter.unusedSimpArgs false

theorem SeesR.cells {w : World} {B : Nat} {A : Option Addr} {R : Rws} (h : SeesR w B A R) {k : Nat} (hk : k < R.length) :
    ∃ b o, A = some ⟨b, o, none⟩ ∧ b < B ∧ w.cell? ⟨b, o + k * 2, none⟩ = some (.int .i64 (rg R k).1) ∧ w.cell? ⟨b, o + k * 2 + 1, none⟩ = some (.bool (rg R k).2) := by
  obtain ⟨b, o, h1, h2, h3⟩ := h (by omega)
  refine ⟨b, o, h1, h2, ?_, ?_⟩
  · have := h3 (k * 2) (by omega); rwa [rwf_0] at this
  · have := h3 (k * 2 + 1) (by omega); rwa [rwf_1] at this
theorem rg_get (R : Rws) {k : Nat} (h : k < R.length) : rg R k = R[k] := by simp [rg, List.getD_eq_getElem?_getD, List.getElem?_eq_getElem h]
theorem rg_fst (R : Rws) {k : Nat} (h : k < R.length) : (rg R k).1 = lf (szs R) k := by
  rw [rg_get R h, lf_get _ (by rw [szs_len]; exact h)]; unfold szs; rw [List.getElem_map]
theorem sum_take_bd {L : List Int} (ok : LOk L) (k : Nat) : 0 ≤ (L.take k).sum ∧ (L.take k).sum ≤ 4611686018427387904 :=
  ⟨sum_nn (fun x hx => ok.nn x (List.mem_of_mem_take hx)), by have := sum_take_le ok.nn k; have := ok.top; omega⟩
theorem sum_take_succ (L : List Int) {k : Nat} (h : k < L.length) : (L.take (k + 1)).sum = (L.take k).sum + lf L k := by
  rw [List.take_succ_eq_append_getElem h, List.sum_append, lf_get L h]; simp
end Go.Proofs.YtfmfmeiaekknbaaGreat
end

section
/-
  Law package 06: I.Rows and I.Of.
-/
namespace Go.Proofs.YtfmfmeiaekknbaaGreat
open Go.RowKit
set_option linter.unusedVariables false
set_option linter.unusedSimpArgs false

theorem infoRow : (Tryz.prog.info? 101).map (fun i => (i.zero, i.size, i.bytes)) = some (some (.agg #[.int .i64 0, .bool false]), 2, 16) := by kernel_rfl
abbrev OwnR (w : World) (B : Nat) (A : Option Addr) (c : Nat) (R : Rws) : Prop := Own w B 101 2 R.length c A (rwf R)
theorem rg_app (L M : Rws) (k : Nat) : rg (L ++ M) k = if k < L.length then rg L k else rg M (k - L.length) := by
  unfold rg
  rw [List.getD_eq_getElem?_getD, List.getD_eq_getElem?_getD, List.getD_eq_getElem?_getD]
  by_cases c : k < L.length
  · rw [if_pos c, List.getElem?_append_left c]
  · rw [if_neg c, List.getElem?_append_right (by omega)]
theorem rwf_app (L M : Rws) (j : Nat) : rwf (L ++ M) j = if j < L.length * 2 then rwf L j else rwf M (j - L.length * 2) := by
  unfold rwf
  rw [rg_app]
  by_cases d : j < L.length * 2
  · rw [if_pos d, if_pos (show j / 2 < L.length by omega)]
  · rw [if_neg d, if_neg (show ¬ j / 2 < L.length by omega), show (j - L.length * 2) % 2 = j % 2 from by omega, show (j - L.length * 2) / 2 = j / 2 - L.length from by omega]
theorem rwf_one (R : Rws) (j : Nat) : (rwf R j).oneCell' = true := by
  rcases rwf_ib R j with ⟨k, x, h⟩ | ⟨b, h⟩ <;> (rw [h]; rfl)
/-- append(own, rows..). -/
theorem app_R (w : World) (B : Nat) {c : Nat} {A : Option Addr} {L : Rws} (h : OwnR w B A c L) (hB : B ≤ w.heap.size) {A2 : Option Addr} {c2 B2 : Nat} {M : Rws} (hs : SeesR w B2 A2 M) (hm : L.length + M.length ≤ 1000000000) :
    ∃ A' c' w', (∀ ty, (Builtin.append_ #[46, 46] ty #[.slice A L.length c, .slice A2 M.length c2]).run Tryz.prog w = .ok (.slice A' (L.length + M.length) c') w') ∧ OwnR w' B A' c' (L ++ M) ∧ Below B w w' ∧ (c ≤ maxLen → c' ≤ maxLen) ∧ Fr (fun b => A.map (·.block) = some b) w w' := by
  obtain ⟨A', c', w', run, O, fr, a, m⟩ := own_append2' (P := Tryz.prog) w B Tryz.underlying46 infoRow rfl (by omega) Tryz.underlying46 h hB (c2 := c2) hs (fun j => rwf_one M j) hm (by omega)
  refine ⟨A', c', w', run, ?_, fr.below hB fun b hb => (h.blk b hb).1, m, fr⟩
  unfold OwnR
  rw [List.length_append]
  exact O.congr fun j hj => by rw [rwf_app]
theorem lit_R (w : World) (x : Int) (b : Bool) : SeesR (w.alloc (.cells #[.int .i64 x, .bool b] 101)) (w.heap.size + 1) (some ⟨w.heap.size, 0, none⟩) [(x, b)] := by
  have := Sees.lit w #[.int .i64 x, .bool b] 101 (rwf [(x, b)]) 2 rfl (fun j hj => by
    have : j = 0 ∨ j = 1 := by omega
    rcases this with rfl | rfl <;> rfl)
  rw [World.size_alloc] at this
  exact this
theorem push_R (w : World) (B : Nat) {c : Nat} {A : Option Addr} {L : Rws} (h : OwnR w B A c L) (hB : B ≤ w.heap.size) (x : Int) (b : Bool) (hm : L.length ≤ 900000000) :
    ∃ A' c' w', (∀ ty, (Builtin.append_ #[46, 46] ty #[.slice A L.length c, .slice (some ⟨w.heap.size, 0, none⟩) 1 1]).run Tryz.prog (w.alloc (.cells #[.int .i64 x, .bool b] 101)) = .ok (.slice A' (L.length + 1) c') w') ∧ OwnR w' B A' c' (L ++ [(x, b)]) ∧ Below B w w' ∧ (c ≤ maxLen → c' ≤ maxLen) ∧ Fr (fun b => A.map (·.block) = some b) w w' := by
  have L0 : Below w.heap.size w (w.alloc (.cells #[.int .i64 x, .bool b] 101)) := (Below.refl _ w).alloc (Nat.le_refl _) _
  obtain ⟨A', c', w', h1, h2, h3, h4, h5⟩ := app_R (w.alloc (.cells #[.int .i64 x, .bool b] 101)) B (h.below L0) (by rw [World.size_alloc]; omega) (c2 := 1) (lit_R w x b) (by show L.length + 1 ≤ _; omega)
  exact ⟨A', c', w', h1, h2, (L0.mono hB).trans h3, h4, (Fr.of_below L0).trans h5⟩

/-- The rows of an I. -/
def u8r (f : Nat → Int) : Nat → Value := fun j => .int .u8 (f j)
theorem u8r_at (f : Nat → Int) (k : Nat) : u8r f k = .int .u8 (f k) := rfl
def irow0 (f : Nat → Int) (j : Nat) : Int × Bool := (1 + f j % 16, decide (127 < f j))
def irow (f : Nat → Int) (g : Bool) (j : Nat) : Int × Bool := (if j = 0 ∧ g = true then 2305843009213693952 else 1 + f j % 16, decide (127 < f j))
def upR (r : Nat → Int × Bool) (k : Nat) : Rws := (List.range k).map r
theorem upR_len (r : Nat → Int × Bool) (k : Nat) : (upR r k).length = k := by simp [upR]
theorem upR_succ (r : Nat → Int × Bool) (k : Nat) : upR r (k + 1) = upR r k ++ [r k] := by simp [upR, List.range_succ]
theorem upR_rg (r : Nat → Int × Bool) {k n : Nat} (h : k < n) : rg (upR r n) k = r k := by
  rw [rg_get _ (by rw [upR_len]; exact h)]; simp [upR]
theorem upR_sum (r : Nat → Int × Bool) (k : Nat) : (szs (upR r (k + 1))).sum = (szs (upR r k)).sum + (r k).1 := by
  rw [upR_succ, szs_app, List.sum_append]; simp [szs]
def irows (f : Nat → Int) (m : Nat) (g : Bool) : Rws := upR (irow f g) (min m 60)
structure IOk (R : Rws) : Prop where
  ok : LOk (szs R)
  ps : ∀ x ∈ szs R, 1 ≤ x ∧ x ≤ 2305843009213693952
  len : R.length ≤ 60
theorem irow_bd (f : Nat → Int) (g : Bool) (j : Nat) : 1 ≤ (irow f g j).1 ∧ (irow f g j).1 ≤ 2305843009213693952 := by
  unfold irow
  dsimp only
  split <;> omega
theorem irows_sum (f : Nat → Int) (g : Bool) : ∀ k, 0 ≤ (szs (upR (irow f g) k)).sum ∧ (szs (upR (irow f g) k)).sum ≤ 2305843009213693952 + 16 * k := by
  intro k
  induction k with
  | zero => show (0 : Int) ≤ 0 ∧ (0 : Int) ≤ _; omega
  | succ k ih =>
    rw [upR_sum]
    obtain ⟨h1, h2⟩ := ih
    by_cases c : k = 0 ∧ g = true
    · have e : (irow f g k).1 = 2305843009213693952 := if_pos c
      obtain ⟨rfl, _⟩ := c
      have : (szs (upR (irow f g) 0)).sum = 0 := rfl
      omega
    · have e : (irow f g k).1 = 1 + f k % 16 := if_neg c
      omega
theorem irows_ok (f : Nat → Int) (m : Nat) (g : Bool) : IOk (irows f m g) := by
  have hp : ∀ x ∈ szs (irows f m g), 1 ≤ x ∧ x ≤ 2305843009213693952 := fun x hx => by
    unfold szs irows upR at hx
    rw [List.map_map] at hx
    obtain ⟨j, _, rfl⟩ := List.mem_map.1 hx
    exact irow_bd f g j
  have hl : (irows f m g).length ≤ 60 := by unfold irows; rw [upR_len]; omega
  refine ⟨⟨fun x hx => by have := (hp x hx).1; omega, by rw [szs_len]; omega, ?_⟩, hp, hl⟩
  have := (irows_sum f g (min m 60)).2
  unfold irows
  omega
set_option maxRecDepth 100000 in
set_option maxHeartbeats 3200000 in
theorem Rows_any (w : World) (A : Option Addr) (m c : Nat) (f : Nat → Int) (g : Bool) (hs : Sees w w.heap.size A m (u8r f)) (hf : ∀ j, j < m → 0 ≤ f j ∧ f j ≤ 255) (hm : m ≤ maxLen) :
    Calls Tryz.prog 13 #[.agg #[.slice A m c, .bool g]] w fun e w' => ∃ A' c', e = .returned (.slice A' (irows f m g).length c') ∧ SeesR w' w'.heap.size A' (irows f m g) ∧ Below w.heap.size w w' ∧ (irows f m g).length ≤ c' ∧ c' ≤ maxLen := by
  have B0 : Hid (Below w.heap.size w (w.alloc (.cells #[.slice A m c, .bool g] 24))) := (Below.refl _ w).alloc (Nat.le_refl _) _
  have V0 : Hid ((w.alloc (.cells #[.slice A m c, .bool g] 24)).rowIs w.heap.size 24 2 (fun j => if j = 0 then .slice A m c else .bool g)) := World.rowIs_alloc w #[.slice A m c, .bool g] _ _ (fun j hj => by
    have : j = 0 ∨ j = 1 := by simp at hj; omega
    rcases this with rfl | rfl <;> rfl)
  have S0 := Lib.hid (hs.below B0.out)
  have HF := Lib.hid hf
  have hm2 : m ≤ 9223372036854775807 := by simpa [maxLen] using hm
  clear hs hf hm
  obtain ⟨N, eN⟩ : ∃ N, N = min m 60 := ⟨_, rfl⟩
  have EI : Hid (irows f m g = upR (irow f g) N) := by rw [eN]; rfl
  rw [EI.out, upR_len]
  have EN : Hid (∀ k : Nat, k < N ↔ k < m ∧ k < 60) := fun k => by omega
  have hN : N ≤ 60 := by omega
  clear eN
  obtain ⟨w0, e0⟩ : ∃ w0, w0 = w.alloc (.cells #[.slice A m c, .bool g] 24) := ⟨_, rfl⟩
  go_enter Tryz.func13, Tryz.ntmps13
  go_wp2_with fail
  change Code.wp _ _ _ _ (w.alloc _)
  rw [← e0] at B0 V0 S0 ⊢
  have lt0 : w.heap.size < w0.heap.size := by rw [e0, World.size_alloc]; omega
  clear e0
  go_loopw [3, 4] (fun o i wr => ∃ (k cc : Nat) (A' : Option Addr), i = .int .i64 k ∧ o = .slice A' k cc ∧ k ≤ N ∧ cc ≤ maxLen ∧ Hid (OwnR wr w0.heap.size A' cc (upR (irow0 f) k)) ∧ Hid (Below w0.heap.size w0 wr)) (fun _ i _ => N - (intOf i).toNat)
  case atStart => exact ⟨0, 0, none, rfl, rfl, Nat.zero_le _, Nat.zero_le _, Own.nil _ _ _ _ _, Below.refl _ _⟩
  case round =>
    obtain ⟨k, cc, A', rfl, rfl, hk, hcc, hO, hB⟩ := hrel
    have V1 := Lib.hid (V0.out.of_block (hB.out.block _ lt0))
    have d0 := V1.out.cell (i := 0) (by omega)
    have d1 := V1.out.cell (i := 1) (by omega)
    rw [if_pos rfl] at d0
    rw [if_neg (by decide)] at d1
    by_cases hlt : k < N
    · obtain ⟨b, o, rfl, lb, hc⟩ := (S0.out.below (hB.out.mono B0.out.size)).at_ (show k < m from ((EN.out k).1 hlt).1)
      have k1 := ((EN.out k).1 hlt).1
      have k2 := ((EN.out k).1 hlt).2
      rw [u8r_at] at hc
      obtain ⟨f1, f2⟩ := HF.out k k1
      have hO2 := hO.out.below ((Below.refl wr.heap.size wr).drew)
      have hl := hB.out.size
      obtain ⟨A2, c2, w2, run, O2, bl, mx, _⟩ := push_R wr.drew w0.heap.size hO2 hl (1 + f k % 16) (decide (127 < f k)) (by rw [upR_len]; omega)
      rw [upR_len] at run
      have RUN := Lib.hid run
      have O3 : Hid (OwnR w2 w0.heap.size A2 c2 (upR (irow0 f) (k + 1))) := by rw [upR_succ]; exact O2
      have B3 : Hid (Below w0.heap.size w0 w2) := hB.out.trans (((Below.refl _ wr).drew).trans bl)
      have hc2 := mx hcc
      have lt1 : w.heap.size < wr.heap.size := by omega
      have lb2 : b < wr.heap.size := by omega
      have wr1 : IntKind.i64.wrap (1 + f k % 16) = 1 + f k % 16 := IntWalk.i64_in _ (by omega)
      have wr2 : IntKind.i64.wrap (f k % 16) = f k % 16 := IntWalk.i64_in _ (by omega)
      clear run O2 bl mx hO hO2
      have S1 : Hid (Below w0.heap.size w0 wr.drew) := hB.out.drew
      have S2 : Hid (∀ o, Below w0.heap.size w0 (wr.drew.alloc o)) := fun o => S1.out.alloc hl _
      go_wp2_with fail
      have z0 := V0.out.cell (i := 0) (by omega)
      have z1 := V0.out.cell (i := 1) (by omega)
      rw [if_pos rfl] at z0
      rw [if_neg (by decide)] at z1
      have hc0 := (hB.out.cell (p := ⟨b, o + k, none⟩) (Nat.lt_of_lt_of_le lb B0.out.size)).symm.trans hc
      have lb3 : b < w0.heap.size := Nat.lt_of_lt_of_le lb B0.out.size
      clear d0 d1 hc hl lt1 lb2
      refine wp_region_plan [(false, 0), (false, 1), (false, 2), (false, 3), (false, 4), (false, 5), (false, 6), (false, 7), (false, 8), (false, 9), (false, 10), (false, 11), (false, 12), (false, 13), (false, 14), (false, 15), (true, 16), (true, 17), (false, 18)] (Below w0.heap.size w0) (by kernel_rfl) (by kernel_rfl) (S1.out) _ (by simp only [pickH, List.getElem?_toArray, List.getElem?_cons_succ, List.getElem?_cons_zero]; rfl) ?_
      repeat (refine HWalk.step (fun K hK => ?_); first | (apply held_yes; (focus rfl); (focus (intro w' hw; obtain ⟨hc', hf'⟩ := below_cells hw; go_simp; rfl)); (go_simp; refine hK _ ?_; clear hK K)) | (refine ite_no (by decide) ?_; go_simp; refine hK _ ?_; clear hK K))
      refine HWalk.mark ?_
      go_wp2_with fail
      refine ⟨(S2.out _), ?_⟩
      repeat (refine HWalk.step (fun K hK => ?_); first | (apply held_yes; (focus rfl); (focus (intro w' hw; obtain ⟨hc', hf'⟩ := below_cells hw; go_simp; rfl)); (go_simp; refine hK _ ?_; clear hK K)) | (refine ite_no (by decide) ?_; go_simp; refine hK _ ?_; clear hK K))
      refine HWalk.mark ?_
      go_wp2_with (at_builtin; refine Hid.out ?_)
      refine Lib.hid (Lib.wpList_append_run _ rfl _ _ _ _ rfl _ _ rfl rfl _ _ (RUN.out _) ?_)
      go_wp2_with fail
      refine ⟨B3.out, ?_⟩
      repeat (refine HWalk.step (fun K hK => ?_); first | (apply held_yes; (focus rfl); (focus (intro w' hw; obtain ⟨hc', hf'⟩ := below_cells hw; go_simp; rfl)); (go_simp; refine hK _ ?_; clear hK K)) | (refine ite_no (by decide) ?_; go_simp; refine hK _ ?_; clear hK K))
      refine HWalk.done ?_
      go_wp2_with fail
      go_roundw
      case rel => exact ⟨k + 1, c2, A2, by go_num, rfl, by omega, hc2, O3, B3⟩
      case measure => simp [intOf]; omega
    · obtain rfl : k = N := by omega
      have hK : ∀ h : k < m, 60 ≤ k := fun h => by
        have := (EN.out k)
        have : ¬ (k < m ∧ k < 60) := fun h' => absurd (this.2 h') (Nat.lt_irrefl k)
        omega
      have hkm : k < m ∨ ¬ k < m := Nat.lt_or_ge k m |>.imp id (fun h => by omega)
      have len : (upR (irow0 f) k).length = k := upR_len _ _
      by_cases hg : g = true ∧ 0 < k
      · obtain ⟨rfl, kp⟩ := hg
        obtain ⟨q, rfl, q1, q2, q3, q4⟩ := hO.out.at_ (by rw [upR_len]; exact kp)
        have e0 := q3 0 (by omega)
        have e1 := q4 0
        have O3 := hO.out.set 0 (.int .i64 2305843009213693952)
        have O4 : Hid (SeesR (wr.setCell ⟨q, 0, none⟩ (.int .i64 2305843009213693952)) wr.heap.size (some ⟨q, 0, none⟩) (upR (irow f true) k)) := by
          have h1 := O3.sees
          have h2 : ((wr.setCell ⟨q, 0, none⟩ (.int .i64 2305843009213693952)).heap.size) = wr.heap.size := by simp [World.setCell]
          rw [h2] at h1
          intro hn
          obtain ⟨b, o, j1, j2, j3⟩ := h1 (by rw [upR_len] at hn ⊢; exact hn)
          refine ⟨b, o, j1, j2, fun j hj => (j3 j (by rw [upR_len] at hj ⊢; exact hj)).trans (congrArg some ?_)⟩
          rw [upR_len] at hj
          show (if j = 0 then Value.int .i64 2305843009213693952 else rwf (upR (irow0 f) k) j) = _
          unfold rwf
          rw [upR_rg _ (show j / 2 < k by omega), upR_rg _ (show j / 2 < k by omega)]
          unfold irow irow0
          by_cases c : j = 0
          · subst c; rfl
          · rw [if_neg c]
            by_cases d : j % 2 = 0
            · rw [if_pos d, if_pos d, if_neg (by omega)]
            · rw [if_neg d, if_neg d]
        have B3 : Hid (Below w.heap.size w (wr.setCell ⟨q, 0, none⟩ (.int .i64 2305843009213693952))) := (B0.out.trans (hB.out.mono B0.out.size)).setCell (p := ⟨q, 0, none⟩) (by show w.heap.size ≤ q; omega) _
        have sz : Hid ((wr.setCell ⟨q, 0, none⟩ (.int .i64 2305843009213693952)).heap.size = wr.heap.size) := by simp [World.setCell, Lib.hid]
        have le : k ≤ cc := by have := hO.out.le; rw [upR_len] at this; exact this
        have LE := Lib.hid le
        clear q3 q4 hO O3 le
        rcases hkm with hkm | hkm
        · have := hK hkm
          go_wp2_with fail
          go_ret
          exact ⟨_, _, rfl, O4.out.more (by rw [sz.out]; exact Nat.le_refl _), B3.out, LE.out, hcc⟩
        · go_wp2_with fail
          go_ret
          exact ⟨_, _, rfl, O4.out.more (by rw [sz.out]; exact Nat.le_refl _), B3.out, LE.out, hcc⟩
      · have O4 : Hid (SeesR wr wr.heap.size A' (upR (irow f g) k)) := by
          have h1 := hO.out.sees
          intro hn
          obtain ⟨b, o, j1, j2, j3⟩ := h1 (by rw [upR_len] at hn ⊢; exact hn)
          refine ⟨b, o, j1, j2, fun j hj => (j3 j (by rw [upR_len] at hj ⊢; exact hj)).trans (congrArg some ?_)⟩
          rw [upR_len] at hj
          have ei : irow f g (j / 2) = irow0 f (j / 2) := by unfold irow irow0; rw [if_neg (fun hh => hg ⟨hh.2, by omega⟩)]
          unfold rwf
          rw [upR_rg _ (show j / 2 < k by omega), upR_rg _ (show j / 2 < k by omega), ei]
        have B3 : Hid (Below w.heap.size w wr) := B0.out.trans (hB.out.mono B0.out.size)
        have le : k ≤ cc := by have := hO.out.le; rw [upR_len] at this; exact this
        have LE := Lib.hid le
        have hg' : g = false ∨ (g = true ∧ k = 0) := by
          cases g with
          | false => exact .inl rfl
          | true => exact .inr ⟨rfl, by apply Classical.byContradiction; intro h; exact hg ⟨rfl, by omega⟩⟩
        clear hO hg le
        rcases hkm with hkm | hkm
        · have := hK hkm
          rcases hg' with rfl | ⟨rfl, k0⟩
          · go_wp2_with fail
            go_ret
            exact ⟨_, _, rfl, O4.out, B3.out, LE.out, hcc⟩
          · omega
        · rcases hg' with rfl | ⟨rfl, k0⟩
          · go_wp2_with fail
            go_ret
            exact ⟨_, _, rfl, O4.out, B3.out, LE.out, hcc⟩
          · subst k0
            go_wp2_with fail
            go_ret
            exact ⟨_, _, rfl, O4.out, B3.out, LE.out, hcc⟩
end Go.Proofs.YtfmfmeiaekknbaaGreat
end

section
/-
  Longest rising subsequences, plainly: lengths from each position on; the patience row; a greatest one; moves that carry an order into another one. No Go text.
-/
namespace Go.Proofs.YtfmfmeiaekknbaaGreat
open Go.RowKit
set_option linter.unusedVariables false

/-- f i is the length of the longest rising subsequence that begins at i, for each i from d on. -/
def IsFr (l : Nat → Int) (n d : Nat) (f : Nat → Nat) : Prop :=
  ∀ i, d ≤ i → i < n → 1 ≤ f i ∧ (∀ j, i < j → j < n → l i < l j → f j + 1 ≤ f i) ∧ (f i = 1 ∨ ∃ j, i < j ∧ j < n ∧ l i < l j ∧ f i = f j + 1)
/-- The patience row of the positions from d on: S k is the greatest first number of those of length k + 1. -/
structure Pat (l : Nat → Int) (n d : Nat) (f : Nat → Nat) (S : Nat → Int) (K : Nat) : Prop where
  fr : IsFr l n d f
  at_ : ∀ k, k < K → ∃ j, d ≤ j ∧ j < n ∧ f j = k + 1 ∧ l j = S k
  top : ∀ j, d ≤ j → j < n → ∀ k, k < f j → l j ≤ S k
  le : ∀ j, d ≤ j → j < n → f j ≤ K
  kn : K + d ≤ n
theorem Pat.start (l : Nat → Int) (n : Nat) (f : Nat → Nat) (S : Nat → Int) : Pat l n n f S 0 :=
  ⟨fun i h1 h2 => by omega, fun k hk => by omega, fun j h1 h2 => by omega, fun j h1 h2 => by omega, by omega⟩
theorem Pat.desc {l : Nat → Int} {n d : Nat} {f : Nat → Nat} {S : Nat → Int} {K : Nat} (h : Pat l n d f S K) {k : Nat} (hk : k + 1 < K) : S (k + 1) < S k := by
  obtain ⟨j, h1, h2, h3, h4⟩ := h.at_ (k + 1) hk
  obtain ⟨_, _, h5⟩ := h.fr j h1 h2
  rcases h5 with h5 | ⟨j', q1, q2, q3, q4⟩
  · omega
  · have := h.top j' (by omega) q2 k (by omega)
    omega
theorem Pat.mono {l : Nat → Int} {n d : Nat} {f : Nat → Nat} {S : Nat → Int} {K : Nat} (h : Pat l n d f S K) {a b : Nat} (hab : a ≤ b) (hb : b < K) : S b ≤ S a := by
  induction b with
  | zero => rw [show a = 0 by omega]; exact Int.le_refl _
  | succ b ih =>
    by_cases e : a = b + 1
    · rw [e]; exact Int.le_refl _
    · have := ih (by omega) (by omega)
      have := h.desc hb
      omega
theorem Pat.step {l : Nat → Int} {n d : Nat} {f : Nat → Nat} {S : Nat → Int} {K : Nat} (h : Pat l n (d + 1) f S K) {k : Nat} (hk : k ≤ K) (h1 : ∀ j, j < k → l d < S j) (h2 : k < K → S k ≤ l d) :
    Pat l n d (fun i => if i = d then k + 1 else f i) (fun i => if i = k then l d else S i) (max K (k + 1)) := by
  have hne : ∀ {j}, d < j → ¬ j = d := fun h => by omega
  have F : ∀ j, d < j → (fun i => if i = d then k + 1 else f i) j = f j := fun j hj => if_neg (by omega)
  have hkn := h.kn
  refine ⟨fun i hi hin => ?_, fun a ha => ?_, fun j hj hjn a ha => ?_, fun j hj hjn => ?_, by omega⟩
  · by_cases e : i = d
    · subst e
      show 1 ≤ (if i = i then k + 1 else f i) ∧ (∀ j, i < j → j < n → l i < l j → (if j = i then k + 1 else f j) + 1 ≤ (if i = i then k + 1 else f i)) ∧ ((if i = i then k + 1 else f i) = 1 ∨ ∃ j, i < j ∧ j < n ∧ l i < l j ∧ (if i = i then k + 1 else f i) = (if j = i then k + 1 else f j) + 1)
      rw [if_pos rfl]
      refine ⟨by omega, fun j q1 q2 q3 => ?_, ?_⟩
      · rw [if_neg (by omega)]
        have hK := h.le j (by omega) q2
        by_cases c : k < f j
        · have := h.top j (by omega) q2 k c
          have := h2 (by omega)
          omega
        · omega
      · by_cases c : k = 0
        · left; omega
        · right
          obtain ⟨j, q1, q2, q3, q4⟩ := h.at_ (k - 1) (by omega)
          have := h1 (k - 1) (by omega)
          exact ⟨j, by omega, q2, by omega, by rw [if_neg (by omega)]; omega⟩
    · obtain ⟨q1, q2, q3⟩ := h.fr i (by omega) hin
      show 1 ≤ (if i = d then k + 1 else f i) ∧ (∀ j, i < j → j < n → l i < l j → (if j = d then k + 1 else f j) + 1 ≤ (if i = d then k + 1 else f i)) ∧ ((if i = d then k + 1 else f i) = 1 ∨ ∃ j, i < j ∧ j < n ∧ l i < l j ∧ (if i = d then k + 1 else f i) = (if j = d then k + 1 else f j) + 1)
      rw [if_neg e]
      refine ⟨q1, fun j a b c => by rw [if_neg (by omega)]; exact q2 j a b c, q3.imp id fun ⟨j, a, b, c, e'⟩ => ⟨j, a, b, c, by rw [if_neg (by omega)]; exact e'⟩⟩
  · show ∃ j, d ≤ j ∧ j < n ∧ (if j = d then k + 1 else f j) = a + 1 ∧ l j = (if a = k then l d else S a)
    by_cases e : a = k
    · subst e
      exact ⟨d, Nat.le_refl _, by omega, by rw [if_pos rfl], by rw [if_pos rfl]⟩
    · obtain ⟨j, q1, q2, q3, q4⟩ := h.at_ a (by omega)
      exact ⟨j, by omega, q2, by rw [if_neg (by omega)]; exact q3, by rw [if_neg e]; exact q4⟩
  · show l j ≤ (if a = k then l d else S a)
    by_cases e : j = d
    · subst e
      have ha' : a < k + 1 := by have := ha; rwa [if_pos rfl] at this
      by_cases c : a = k
      · rw [if_pos c]; exact Int.le_refl _
      · rw [if_neg c]; have := h1 a (by omega); omega
    · have ha' : a < f j := by have := ha; rwa [if_neg e] at this
      by_cases c : a = k
      · subst c
        rw [if_pos rfl]
        have := h.top j (by omega) hjn a ha'
        have hK := h.le j (by omega) hjn
        have := h2 (by omega)
        omega
      · rw [if_neg c]; exact h.top j (by omega) hjn a ha'
  · show (if j = d then k + 1 else f j) ≤ _
    by_cases e : j = d
    · rw [if_pos e]; omega
    · rw [if_neg e]; have := h.le j (by omega) hjn; omega

/-- r lists m positions below n, rising, of rising numbers. -/
structure Rise (l : Nat → Int) (n m : Nat) (r : Nat → Nat) : Prop where
  lt : ∀ a, a < m → r a < n
  up : ∀ a, a + 1 < m → r a < r (a + 1)
  num : ∀ a, a + 1 < m → l (r a) < l (r (a + 1))
/-- No rising subsequence is longer than the greatest of the lengths. -/
theorem Rise.le {l : Nat → Int} {n m : Nat} {r : Nat → Nat} (h : Rise l n m r) {f : Nat → Nat} (hf : IsFr l n 0 f) {M : Nat} (hM : ∀ i, i < n → f i ≤ M) : m ≤ M := by
  have key : ∀ c a, a + c + 1 = m → c + 1 ≤ f (r a) := by
    intro c
    induction c with
    | zero => intro a ha; exact (hf (r a) (by omega) (h.lt a (by omega))).1
    | succ c ih =>
      intro a ha
      have h1 := ih (a + 1) (by omega)
      have h2 := (hf (r a) (by omega) (h.lt a (by omega))).2.1 (r (a + 1)) (h.up a (by omega)) (h.lt (a + 1) (by omega)) (h.num a (by omega))
      omega
  by_cases c : m = 0
  · omega
  · have h1 := key (m - 1) 0 (by omega)
    have h2 := hM (r 0) (h.lt 0 (by omega))
    omega
/-- A greatest rising subsequence. -/
structure Longest (l : Nat → Int) (n m : Nat) (r : Nat → Nat) : Prop where
  rise : Rise l n m r
  best : ∀ m' r', Rise l n m' r' → m' ≤ m
/-- The state of the scan: the first i positions looked at; q positions taken; left to take. -/
structure Scan (l : Nat → Int) (n : Nat) (f : Nat → Nat) (M i q : Nat) (r : Nat → Nat) : Prop where
  le : q ≤ M
  rise : Rise l n q r
  lt : ∀ a, a < q → r a < i ∧ f (r a) = M - a
  no : q < M → ∀ j, j < i → (0 < q → r (q - 1) < j ∧ l (r (q - 1)) < l j) → f j ≠ M - q
theorem Scan.start (l : Nat → Int) (n : Nat) (f : Nat → Nat) (M : Nat) (r : Nat → Nat) : Scan l n f M 0 0 r :=
  ⟨Nat.zero_le _, ⟨fun a h => by omega, fun a h => by omega, fun a h => by omega⟩, fun a h => by omega, fun _ j h => by omega⟩
theorem Scan.skip {l : Nat → Int} {n : Nat} {f : Nat → Nat} {M i q : Nat} {r : Nat → Nat} (h : Scan l n f M i q r) (hs : f i ≠ M - q ∨ (0 < q ∧ l i ≤ l (r (q - 1)))) : Scan l n f M (i + 1) q r :=
  ⟨h.le, h.rise, fun a ha => ⟨by have := (h.lt a ha).1; omega, (h.lt a ha).2⟩, fun hq j hj hc => by
    by_cases e : j = i
    · subst e
      rcases hs with hs | ⟨h1, h2⟩
      · exact hs
      · have := (hc h1).2; omega
    · exact h.no hq j (by omega) hc⟩
theorem Scan.take {l : Nat → Int} {n : Nat} {f : Nat → Nat} {M i q : Nat} {r : Nat → Nat} (h : Scan l n f M i q r) (hi : i < n) (hq : q < M) (hs : f i = M - q) (h2 : 0 < q → l (r (q - 1)) < l i) : Scan l n f M (i + 1) (q + 1) (fun a => if a = q then i else r a) := by
  have R : ∀ a, a < q → (if a = q then i else r a) = r a := fun a ha => if_neg (by omega)
  refine ⟨hq, ⟨fun a ha => ?_, fun a ha => ?_, fun a ha => ?_⟩, fun a ha => ?_, fun hq2 j hj hc => ?_⟩
  · show (if a = q then i else r a) < n
    by_cases e : a = q
    · rw [if_pos e]; exact hi
    · rw [if_neg e]; exact h.rise.lt a (by omega)
  · show (if a = q then i else r a) < (if a + 1 = q then i else r (a + 1))
    rw [R a (by omega)]
    by_cases e : a + 1 = q
    · rw [if_pos e]; exact (h.lt a (by omega)).1
    · rw [if_neg e]; exact h.rise.up a (by omega)
  · show l (if a = q then i else r a) < l (if a + 1 = q then i else r (a + 1))
    rw [R a (by omega)]
    by_cases e : a + 1 = q
    · rw [if_pos e]; have := h2 (by omega); rwa [show q - 1 = a by omega] at this
    · rw [if_neg e]; exact h.rise.num a (by omega)
  · show (if a = q then i else r a) < i + 1 ∧ f (if a = q then i else r a) = M - a
    by_cases e : a = q
    · rw [if_pos e, e]; exact ⟨by omega, hs⟩
    · rw [if_neg e]; have := h.lt a (by omega); exact ⟨by omega, this.2⟩
  · have := (hc (by omega)).1
    rw [show q + 1 - 1 = q by omega, if_pos rfl] at this
    omega
/-- At the end all are taken. -/
theorem Scan.done {l : Nat → Int} {n : Nat} {f : Nat → Nat} {M q : Nat} {r : Nat → Nat} (h : Scan l n f M n q r) (hf : IsFr l n 0 f) (hM : ∃ i, i < n ∧ f i = M) : q = M := by
  by_cases c : q = M
  · exact c
  · have hq : q < M := by have := h.le; omega
    exfalso
    by_cases c0 : q = 0
    · obtain ⟨i, h1, h2⟩ := hM
      exact h.no hq i h1 (fun h => by omega) (by omega)
    · obtain ⟨h1, h2⟩ := h.lt (q - 1) (by omega)
      obtain ⟨_, _, h3⟩ := hf (r (q - 1)) (by omega) h1
      rcases h3 with h3 | ⟨j, a, b, c', d⟩
      · omega
      · exact h.no hq j b (fun _ => ⟨a, c'⟩) (by omega)
end Go.Proofs.YtfmfmeiaekknbaaGreat
end

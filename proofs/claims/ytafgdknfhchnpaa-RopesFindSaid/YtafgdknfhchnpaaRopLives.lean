/-
  Ropes: lives.
-/
import Derived.Test.YtafgdknfhchnpaaRopLV
namespace Go.Proofs.Ytafgdknfhchnpaa
open Go.RowKit
set_option linter.unusedVariables false
set_option linter.unusedSimpArgs false

theorem fits_small {x : Int} (h : -100 ≤ x ∧ x ≤ 100) : Fits x := ⟨by omega, by omega⟩
theorem LOk.of_chk {L : List Int} (h : chkL L = 0) : LOk L := (chkL_ok h).1
/-- Of, of a literal. -/
theorem of_lit (w : World) (L : List Int) (h : chkL L = 0) (hl : L.length ≤ 100) (hf : ∀ x ∈ L, -100 ≤ x ∧ x ≤ 100) :
    Calls Try.prog 11 #[.slice (some ⟨w.heap.size, 0, none⟩) L.length L.length] (w.alloc (.cells ((L.map (fun x => Value.int .i64 x)).toArray) 2)) (RPost (w.alloc (.cells ((L.map (fun x => Value.int .i64 x)).toArray) 2)) L 0) := by
  have := of_any _ _ L.length _ L (litL w L) (by rw [World.size_alloc]; omega) (Nat.le_refl _) (by simp only [maxLen]; omega) (by omega) (fun x hx => fits_small (hf x hx))
  rw [if_pos h, h] at this
  exact this
/-- same, of a literal. -/
theorem same_lit (w : World) (a : Option Addr) (L : List Int) (e f : Int) (hef : e = f) (h : Rp w a L) (ok : LOk L) :
    Calls Try.prog 12 #[.agg #[.pointer a], .int .i64 e, .slice (some ⟨w.heap.size, 0, none⟩) L.length L.length, .int .i64 f] (w.alloc (.cells ((L.map (fun x => Value.int .i64 x)).toArray) 2)) fun e w' => e = .returned (.bool true) ∧ Below w.heap.size w w' := by
  have hb : Below w.heap.size w (w.alloc (.cells ((L.map (fun x => Value.int .i64 x)).toArray) 2)) := (Below.refl _ w).alloc (Nat.le_refl _) _
  refine (same_any _ a _ L L.length _ e f hef (h.below hb) ok (litL w L) (by rw [World.size_alloc]; omega)).mono ?_
  rintro e w' ⟨h1, h2⟩
  exact ⟨h1, hb.trans (h2.mono (by rw [World.size_alloc]; omega))⟩
theorem depth_4 {d : Nat} (h1 : FF d ≤ 4) (h2 : 4 < 2 ^ d) : d = 3 := by
  have : d ≤ 3 := by
    rcases Nat.lt_or_ge 3 d with c | c
    · have := FF_mono (show 4 ≤ d from c)
      have : FF 4 = 7 := by decide
      omega
    · exact c
  have h3 : d = 0 ∨ d = 1 ∨ d = 2 ∨ d = 3 := by omega
  rcases h3 with rfl | rfl | rfl | rfl
  · omega
  · omega
  · omega
  · rfl

set_option maxRecDepth 100000 in
set_option maxHeartbeats 6400000 in
theorem lives_yes (w : World) : Calls Try.prog 9 #[] w fun e w' => e = .returned (.bool true) ∧ Below w.heap.size w w' := by
  have OK1 : Hid (LOk [3, 0, 5, 2]) := LOk.of_chk (by decide)
  have K1 := Lib.hid (of_lit w [3, 0, 5, 2] (by decide) (by decide) (by decide))
  go_enter Try.func9, Try.ntmps9
  go_wp2_with fail
  refine (K1.out).mono ?_
  rintro e w1 ⟨r, rfl, p1, hb⟩
  have B1 : Hid (Below w.heap.size w w1) := ((Below.refl _ w).alloc (Nat.le_refl _) _).trans (hb.mono (by rw [World.size_alloc]; omega))
  have V1 := Lib.hid (LV.cons ((LV.start w).below B1.out) p1)
  have g := V1.out.get (.head _)
  have d1 := g.c
  have K2 := Lib.hid (rsum_any _ r _ g.r OK1.out 3 (fits_small (by decide)))
  rw [show sumVal [3, 0, 5, 2] 3 = 8 from by decide, show sumErr [3, 0, 5, 2] 3 = 0 from by decide] at K2
  clear p1 hb g K1
  go_wp2_with fail
  refine (K2.out).mono ?_
  rintro e w2 ⟨rfl, hb⟩
  have V2 := Lib.hid (V1.out.below hb)
  have g := V2.out.get (.head _)
  have d2 := g.c
  have K3 := Lib.hid (rfind_ok _ r _ g.r OK1.out 3 2 0 (by refine ⟨by decide, by decide, by decide, by decide⟩) (by decide) (by decide))
  clear hb g d1 K2 V1
  go_wp2_with fail
  refine (K3.out).mono ?_
  rintro e w3 ⟨rfl, hb⟩
  have V3 := Lib.hid (V2.out.below hb)
  have g := V3.out.get (.head _)
  have d3 := g.c
  have K4 := Lib.hid (rsplit_ok _ r _ g.r OK1.out 1 (by decide))
  clear hb g d2 K3 V2
  go_wp2_with fail
  refine (K4.out).mono ?_
  rintro e w4 ⟨a, b, rfl, p1, p2, hb⟩
  have l1 : w1.heap.size < w4.heap.size := by have := (V3.out.get (.head _)).lt; have := hb.size; omega
  have V4 := Lib.hid ((V3.out.below hb).cons2 p1 p2)
  have ga := V4.out.get (.tail _ (.head _))
  have gb := V4.out.get (.head _)
  have da := ga.c
  have db := gb.c
  have K5 := Lib.hid (rjoin_any _ b a _ _ gb.r ga.r (LOk.of_chk (by decide)) (LOk.of_chk (by decide)))
  rw [show joinErr (List.drop 1 [3, 0, 5, 2]) (List.take 1 [3, 0, 5, 2]) = 0 from by decide, if_pos rfl] at K5
  clear hb ga gb d3 K4 V3 p1 p2
  go_wp2_with fail
  refine (K5.out).mono ?_
  rintro e w5 ⟨c, rfl, p1, hb⟩
  have l2 : w4.heap.size + 1 < w5.heap.size := by have := (V4.out.get (.head _)).lt; have := hb.size; omega
  have V5 := Lib.hid ((V4.out.below hb).cons p1)
  have gr := V5.out.get (.tail _ (.tail _ (.tail _ (.head _))))
  have dr := gr.c
  have K6 := Lib.hid (rlen_any _ r _ gr.r)
  clear hb gr da db K5 V4 p1
  go_wp2_with fail
  refine (K6.out).mono ?_
  rintro e w6 ⟨rfl, hb⟩
  have V6 := Lib.hid (V5.out.below hb)
  have gr := V6.out.get (.tail _ (.tail _ (.tail _ (.head _))))
  have dr := gr.c
  have K7 := Lib.hid (rtotal_any _ r _ gr.r)
  clear hb gr K6 V5
  go_wp2_with fail
  refine (K7.out).mono ?_
  rintro e w7 ⟨rfl, hb⟩
  have V7 := Lib.hid (V6.out.below hb)
  have gr := V7.out.get (.tail _ (.tail _ (.tail _ (.head _))))
  have dr := gr.c
  have K8 := Lib.hid (rdepth_any _ r _ gr.r)
  clear hb gr K7 V6
  go_wp2_with fail
  refine (K8.out).mono ?_
  rintro e w8 ⟨d, rfl, f1, f2, hb⟩
  obtain rfl := depth_4 (d := d) f1 f2
  have V8 := Lib.hid (V7.out.below hb)
  have ga := V8.out.get (.tail _ (.tail _ (.head _)))
  have da := ga.c
  have K9 := Lib.hid (same_lit _ a [3] 0 0 rfl ga.r (LOk.of_chk (by decide)))
  clear hb ga K8 V7 f1 f2 dr
  go_wp2_with fail
  refine (K9.out).mono ?_
  rintro e w9 ⟨rfl, hb⟩
  have V9 := Lib.hid (V8.out.below hb)
  have g := V9.out.get (.tail _ (.head _))
  have d1 := g.c
  have K10 := Lib.hid (same_lit _ b [0, 5, 2] 0 0 rfl g.r (LOk.of_chk (by decide)))
  clear hb g K9 V8 da
  go_wp2_with fail
  refine (K10.out).mono ?_
  rintro e w10 ⟨rfl, hb⟩
  have V10 := Lib.hid (V9.out.below hb)
  have g := V10.out.get (.head _)
  have d2 := g.c
  have K11 := Lib.hid (same_lit _ c [0, 5, 2, 3] 0 0 rfl g.r (LOk.of_chk (by decide)))
  clear hb g K10 V9 d1
  go_wp2_with fail
  refine (K11.out).mono ?_
  rintro e w11 ⟨rfl, hb⟩
  have V11 := Lib.hid (V10.out.below hb)
  have g := V11.out.get (.tail _ (.tail _ (.tail _ (.head _))))
  have d1 := g.c
  have lw : Below w11.heap.size w11 (w11.alloc (.cells #[.int .i64 7] 2)) := (Below.refl _ w11).alloc (Nat.le_refl _) _
  have K12 := Lib.hid (rinsert_any (w11.alloc (.cells #[.int .i64 7] 2)) r _ (g.r.below lw) OK1.out 1 (some ⟨w11.heap.size, 0, none⟩) 1 (w11.heap.size + 1) [7] (litL w11 [7]) (by rw [World.size_alloc]; omega) (Nat.le_refl _) (by simp only [maxLen]; omega) (by decide) (fun x hx => fits_small (by revert x; decide)))
  rw [show insTo [3, 0, 5, 2] 1 [7] = [3, 7, 0, 5, 2] from by decide, show insErr [3, 0, 5, 2] 1 [7] = 0 from by decide] at K12
  clear g K11 V10 d2 lw
  have HB := Lib.hid hb
  clear hb
  go_wp2_with fail
  refine (K12.out).mono ?_
  rintro e w12 ⟨a2, rfl, p1, hb⟩
  have V12 := Lib.hid ((V11.out.alloc _).below hb)
  have g := V12.out.get (.tail _ (.tail _ (.head _)))
  have gr := V12.out.get (.tail _ (.tail _ (.tail _ (.head _))))
  have d2 := g.c
  have f2 := g.f
  have V13 := Lib.hid (V12.out.put (.tail _ (.tail _ (.head _))) p1 [(w5.heap.size, c, [0, 5, 2, 3]), (w4.heap.size + 1, b, [0, 5, 2]), (w1.heap.size, r, [3, 0, 5, 2])]
    (by intro x hx; simp only [List.mem_cons, List.not_mem_nil, or_false] at hx; rcases hx with rfl | rfl | rfl; all_goals (refine ⟨by simp, ?_⟩; show _ ≠ _; omega))
    )
  have g := V13.out.get (.tail _ (.tail _ (.tail _ (.head _))))
  have d3 := g.c
  have K13 := Lib.hid (rremove_any _ r _ g.r OK1.out 1 2)
  rw [show remTo [3, 0, 5, 2] 1 2 = [3, 2] from by decide, show cutErr [3, 0, 5, 2] 1 2 = 0 from by decide] at K13
  clear g gr K12 V11 hb p1 d1 HB
  go_wp2_with fail
  refine (K13.out).mono ?_
  rintro e w13 ⟨b2, rfl, p1, hb⟩
  have V14 := Lib.hid (V13.out.below hb)
  have g := V14.out.get (.tail _ (.tail _ (.head _)))
  have d1 := g.c
  have f1 := g.f
  have V15 := Lib.hid (V14.out.put (.tail _ (.tail _ (.head _))) p1 [(w4.heap.size, a2, [3, 7, 0, 5, 2]), (w5.heap.size, c, [0, 5, 2, 3]), (w1.heap.size, r, [3, 0, 5, 2])]
    (by intro x hx; simp only [List.mem_cons, List.not_mem_nil, or_false] at hx; rcases hx with rfl | rfl | rfl; all_goals (refine ⟨by simp, ?_⟩; show _ ≠ _; omega))
    )
  have g := V15.out.get (.tail _ (.tail _ (.tail _ (.head _))))
  have d4 := g.c
  have K14 := Lib.hid (rmove_any _ r _ g.r OK1.out 0 2 2 (fits_small (by decide)))
  rw [show movTo [3, 0, 5, 2] 0 2 2 = [5, 2, 3, 0] from by decide, show movErr [3, 0, 5, 2] 0 2 2 = 0 from by decide] at K14
  clear g K13 V12 V13 hb p1 d2 d3 f2
  go_wp2_with fail
  refine (K14.out).mono ?_
  rintro e w14 ⟨c2, rfl, p1, hb⟩
  have V16 := Lib.hid (V15.out.below hb)
  have g := V16.out.get (.tail _ (.tail _ (.head _)))
  have d2 := g.c
  have f2 := g.f
  have V17 := Lib.hid (V16.out.put (.tail _ (.tail _ (.head _))) p1 [(w4.heap.size + 1, b2, [3, 2]), (w4.heap.size, a2, [3, 7, 0, 5, 2]), (w1.heap.size, r, [3, 0, 5, 2])]
    (by intro x hx; simp only [List.mem_cons, List.not_mem_nil, or_false] at hx; rcases hx with rfl | rfl | rfl; all_goals (refine ⟨by simp, ?_⟩; show _ ≠ _; omega))
    )
  have g := V17.out.get (.tail _ (.tail _ (.tail _ (.head _))))
  have d3 := g.c
  have K15 := Lib.hid (rsplit_bad _ r _ g.r OK1.out 5 (by decide))
  clear g K14 V14 V15 hb p1 d1 d4 f1
  go_wp2_with fail
  refine (K15.out).mono ?_
  rintro e w15 ⟨x1, x2, rfl, _, _, hb⟩
  have V18 := Lib.hid (V17.out.below hb)
  have g := V18.out.get (.tail _ (.tail _ (.tail _ (.head _))))
  have d1 := g.c
  have K16 := Lib.hid (rset_any _ r _ g.r OK1.out 4 1 (fits_small (by decide)) (fits_small (by decide)))
  rw [show rsetTo [3, 0, 5, 2] 4 1 = [] from by decide, show rsetErr [3, 0, 5, 2] 4 1 = 4 from by decide] at K16
  clear g K15 V16 V17 hb d2 d3 f2
  go_wp2_with fail
  refine (K16.out).mono ?_
  rintro e w16 ⟨x3, rfl, _, hb⟩
  have V19 := Lib.hid (V18.out.below hb)
  have g := V19.out.get (.tail _ (.tail _ (.tail _ (.head _))))
  have d2 := g.c
  have lw : Below w16.heap.size w16 (w16.alloc (.cells #[.int .i64 (-1)] 2)) := (Below.refl _ w16).alloc (Nat.le_refl _) _
  have K17 := Lib.hid (rinsert_any (w16.alloc (.cells #[.int .i64 (-1)] 2)) r _ (g.r.below lw) OK1.out 0 (some ⟨w16.heap.size, 0, none⟩) 1 (w16.heap.size + 1) [-1] (litL w16 [-1]) (by rw [World.size_alloc]; omega) (Nat.le_refl _) (by simp only [maxLen]; omega) (by decide) (fun x hx => fits_small (by revert x; decide)))
  rw [show insTo [3, 0, 5, 2] 0 [-1] = [] from by decide, show insErr [3, 0, 5, 2] 0 [-1] = 12 from by decide] at K17
  clear g K16 V18 hb d1 lw
  go_wp2_with fail
  refine (K17.out).mono ?_
  rintro e w17 ⟨x4, rfl, _, hb⟩
  have V20 := Lib.hid (((V19.out.alloc _).below hb).alloc (.cells #[.pointer x4] 27))
  have g := V20.out.get (.tail _ (.tail _ (.head _)))
  have d1 := g.c
  have K18 := Lib.hid (same_lit _ a2 [3, 7, 0, 5, 2] 0 0 rfl g.r (LOk.of_chk (by decide)))
  clear g K17 V19 hb d2
  rw [World.size_alloc] at K18
  go_wp2_with fail
  refine (K18.out).mono ?_
  rintro e w18 ⟨rfl, hb⟩
  have V21 := Lib.hid (V20.out.below (hb.mono (by rw [World.size_alloc]; omega)))
  have g := V21.out.get (.tail _ (.head _))
  have d2 := g.c
  have K19 := Lib.hid (same_lit _ b2 [3, 2] 0 0 rfl g.r (LOk.of_chk (by decide)))
  clear g K18 V20 hb d1
  go_wp2_with fail
  refine (K19.out).mono ?_
  rintro e w19 ⟨rfl, hb⟩
  have V22 := Lib.hid (V21.out.below hb)
  have g := V22.out.get (.head _)
  have d1 := g.c
  have K20 := Lib.hid (same_lit _ c2 [5, 2, 3, 0] 0 0 rfl g.r (LOk.of_chk (by decide)))
  clear g K19 V21 hb d2
  go_wp2_with fail
  refine (K20.out).mono ?_
  rintro e w20 ⟨rfl, hb⟩
  have V23 := Lib.hid (V22.out.below hb)
  clear hb K20 V22 d1
  go_wp2_with fail
  go_ret
  exact ⟨rfl, V23.out.bl⟩
end Go.Proofs.Ytafgdknfhchnpaa

/-
  The law package of layer 1: lives.
-/
import Derived.Test.YtglgkbocmnkokaaSpaH
namespace Go.Proofs.Ytglgkbocmnkokaa
open Go.RowKit
set_option linter.unusedVariables false
set_option linter.unusedSimpArgs false

set_option maxRecDepth 100000 in
set_option maxHeartbeats 12800000 in
theorem lives_yes (w : World) : Calls Try.prog 9 #[] w fun e w' => e = .returned (.bool true) ∧ Below w.heap.size w w' := by
  have X0 : Hid (PS w w []) := PS.start (Below.refl _ _)
  go_enter Try.func9, Try.ntmps9
  have K1 := Lib.hid (of_ints w [3, 1, 2, 7, 1] (by decide) (by decide) (fun x hx => by simp only [List.mem_cons, List.not_mem_nil, or_false] at hx; constructor <;> omega))
  go_wp2_with fail
  refine (K1.out).mono ?_
  rintro e w2 hp
  obtain ⟨A_a, rfl, q1, hb⟩ := hp.eq (by rintro ⟨x, hx, hb⟩; simp only [List.mem_cons, List.not_mem_nil, or_false] at hx; omega) (C := [(1, 4), (7, 8)]) (by simp [NF, NFfrom]) (by decide) (fun i => by simp [memS_cons, memS_nil]; omega)
  have X3 := Lib.hid (((X0.out.alloc (Obj.cells (([3, 1, 2, 7, 1] : List Int).map (fun x => Value.int .i64 x)).toArray 3)).below hb).add q1)
  clear hb q1 K1 X0
  have K4 := Lib.hid (sof_any w2 none 0 [] (.inl ⟨⟨_, _, rfl⟩, rfl⟩) (by decide) (fun x hx => nomatch hx))
  go_wp2_with fail
  refine (K4.out).mono ?_
  rintro e w5 hp
  obtain ⟨A_b, rfl, q1, hb⟩ := hp.eq (fun ⟨x, hx, _⟩ => nomatch hx) (C := []) trivial (by decide) (fun i => by simp [memS_nil])
  have X6 := Lib.hid (((X3.out).below hb).add q1)
  clear hb q1 K4 X3
  have K7 := Lib.hid (of_ints w5 [-1] (by decide) (by decide) (fun x hx => by simp only [List.mem_cons, List.not_mem_nil, or_false] at hx; constructor <;> omega))
  go_wp2_with fail
  refine (K7.out).mono ?_
  rintro e w8 hp
  obtain ⟨A_c, rfl, q1, hb⟩ := hp.bad ⟨-1, by simp, .inl (by decide)⟩
  have X9 := Lib.hid (((X6.out.alloc (Obj.cells (([-1] : List Int).map (fun x => Value.int .i64 x)).toArray 3)).below hb).add q1)
  clear hb q1 K7 X6
  have K10 := Lib.hid (same_lit w8 A_a [(1, 4), (7, 8)] 0 (X9.out.see (.tail _ (.tail _ (.head _)))) (by decide))
  go_wp2_with fail
  refine (K10.out).mono ?_
  rintro e w11 ⟨rfl, hb⟩
  have X12 := Lib.hid (X9.out.below hb)
  clear hb K10 X9
  have K13 := Lib.hid (same_yes w11 A_b none 0 _ 0 [] 0 (X12.out.see (.tail _ (.head _))) (seesP_nil _ _) (Nat.le_refl _) (Nat.zero_le _) (by decide))
  go_wp2_with fail
  refine (K13.out).mono ?_
  rintro e w14 ⟨rfl, hb⟩
  have X15 := Lib.hid (X12.out.below hb)
  clear hb K13 X12
  have K16 := Lib.hid (same_yes w14 A_c none 0 _ 0 [] 4 (X15.out.see (.head _)) (seesP_nil _ _) (Nat.le_refl _) (Nat.zero_le _) (by decide))
  go_wp2_with fail
  refine (K16.out).mono ?_
  rintro e w17 ⟨rfl, hb⟩
  have X18 := Lib.hid (X15.out.below hb)
  clear hb K16 X15
  have K19 := Lib.hid (of_lit w17 [(1, 4), (4, 5)] (by decide))
  go_wp2_with fail
  refine (K19.out).mono ?_
  rintro e w20 ⟨A_x1, c_x1, rfl, q1, hb⟩
  have X21 := Lib.hid ((X18.out.below hb).add q1)
  clear hb q1 K19 X18
  have K22 := Lib.hid (check_any w20 _ A_x1 c_x1 [(1, 4), (4, 5)] (X21.out.see (.head _)) (Nat.le_refl _) (fun s hs => by simp only [List.mem_cons, List.not_mem_nil, or_false] at hs; rcases hs with rfl | rfl <;> exact ⟨⟨by decide, by decide⟩, ⟨by decide, by decide⟩⟩) (by decide))
  go_wp2_with fail
  refine (K22.out).mono ?_
  rintro e w23 ⟨rfl, hb⟩
  have X24 := Lib.hid (X21.out.below hb)
  clear hb K22 X21
  have K25 := Lib.hid (of_lit w23 [(1, 1)] (by decide))
  go_wp2_with fail
  refine (K25.out).mono ?_
  rintro e w26 ⟨A_x2, c_x2, rfl, q1, hb⟩
  have X27 := Lib.hid ((X24.out.below hb).add q1)
  clear hb q1 K25 X24
  have K28 := Lib.hid (check_any w26 _ A_x2 c_x2 [(1, 1)] (X27.out.see (.head _)) (Nat.le_refl _) (fun s hs => by simp only [List.mem_cons, List.not_mem_nil, or_false] at hs; rcases hs with rfl | rfl <;> exact ⟨⟨by decide, by decide⟩, ⟨by decide, by decide⟩⟩) (by decide))
  go_wp2_with fail
  refine (K28.out).mono ?_
  rintro e w29 ⟨rfl, hb⟩
  have X30 := Lib.hid (X27.out.below hb)
  clear hb K28 X27
  have K31 := Lib.hid (of_lit w29 [(2, 3), (0, 1)] (by decide))
  go_wp2_with fail
  refine (K31.out).mono ?_
  rintro e w32 ⟨A_x3, c_x3, rfl, q1, hb⟩
  have X33 := Lib.hid ((X30.out.below hb).add q1)
  clear hb q1 K31 X30
  have K34 := Lib.hid (check_any w32 _ A_x3 c_x3 [(2, 3), (0, 1)] (X33.out.see (.head _)) (Nat.le_refl _) (fun s hs => by simp only [List.mem_cons, List.not_mem_nil, or_false] at hs; rcases hs with rfl | rfl <;> exact ⟨⟨by decide, by decide⟩, ⟨by decide, by decide⟩⟩) (by decide))
  go_wp2_with fail
  refine (K34.out).mono ?_
  rintro e w35 ⟨rfl, hb⟩
  have X36 := Lib.hid (X33.out.below hb)
  clear hb K34 X33
  have K37 := Lib.hid (of_lit w35 [(4, 7)] (by decide))
  go_wp2_with fail
  refine (K37.out).mono ?_
  rintro e w38 ⟨A_y1, c_y1, rfl, q1, hb⟩
  have X39 := Lib.hid ((X36.out.below hb).add q1)
  clear hb q1 K37 X36
  have K40 := Lib.hid (union_any w38 A_a A_y1 2 c_y1 _ _ [(1, 4), (7, 8)] [(4, 7)] (X39.out.see (.tail _ (.tail _ (.tail _ (.tail _ (.tail _ (.tail _ (.head _)))))))) (X39.out.see (.head _)) (Nat.le_refl _) (Nat.le_refl _) (NF.fits (by simp [NF, NFfrom])) (NF.fits (by simp [NF, NFfrom])) (by decide) (by decide))
  go_wp2_with fail
  refine (K40.out).mono ?_
  rintro e w41 hp
  obtain ⟨A_a2, rfl, q1, hb⟩ := hp.eq (by decide) (by decide) (C := [(1, 8)]) (by simp [NF, NFfrom]) (by decide) (fun i => by rw [Bool.eq_iff_iff]; simp [anyS]; omega)
  have X42 := Lib.hid ((X39.out.below hb).add q1)
  clear hb q1 K40 X39
  have K43 := Lib.hid (of_lit w41 [(1, 4), (7, 9)] (by decide))
  go_wp2_with fail
  refine (K43.out).mono ?_
  rintro e w44 ⟨A_y2, c_y2, rfl, q1, hb⟩
  have X45 := Lib.hid ((X42.out.below hb).add q1)
  clear hb q1 K43 X42
  have K46 := Lib.hid (of_lit w44 [(2, 8)] (by decide))
  go_wp2_with fail
  refine (K46.out).mono ?_
  rintro e w47 ⟨A_y3, c_y3, rfl, q1, hb⟩
  have X48 := Lib.hid ((X45.out.below hb).add q1)
  clear hb q1 K46 X45
  have K49 := Lib.hid (common_any w47 A_y2 A_y3 c_y2 c_y3 _ _ [(1, 4), (7, 9)] [(2, 8)] (X48.out.see (.tail _ (.head _))) (X48.out.see (.head _)) (Nat.le_refl _) (Nat.le_refl _) (NF.fits (by simp [NF, NFfrom])) (NF.fits (by simp [NF, NFfrom])) (by decide) (by decide))
  go_wp2_with fail
  refine (K49.out).mono ?_
  rintro e w50 hp
  obtain ⟨A_b2, rfl, q1, hb⟩ := hp.eq (by decide) (by decide) (C := [(2, 4), (7, 8)]) (by simp [NF, NFfrom]) (by decide) (fun i => by rw [Bool.eq_iff_iff]; simp [anyS]; omega)
  have X51 := Lib.hid ((X48.out.below hb).add q1)
  clear hb q1 K49 X48
  have K52 := Lib.hid (of_lit w50 [(1, 9)] (by decide))
  go_wp2_with fail
  refine (K52.out).mono ?_
  rintro e w53 ⟨A_y4, c_y4, rfl, q1, hb⟩
  have X54 := Lib.hid ((X51.out.below hb).add q1)
  clear hb q1 K52 X51
  have K55 := Lib.hid (of_lit w53 [(2, 4), (6, 7)] (by decide))
  go_wp2_with fail
  refine (K55.out).mono ?_
  rintro e w56 ⟨A_y5, c_y5, rfl, q1, hb⟩
  have X57 := Lib.hid ((X54.out.below hb).add q1)
  clear hb q1 K55 X54
  have K58 := Lib.hid (without_any w56 A_y4 A_y5 c_y4 c_y5 _ _ [(1, 9)] [(2, 4), (6, 7)] (X57.out.see (.tail _ (.head _))) (X57.out.see (.head _)) (Nat.le_refl _) (Nat.le_refl _) (NF.fits (by simp [NF, NFfrom])) (NF.fits (by simp [NF, NFfrom])) (by decide) (by decide))
  go_wp2_with fail
  refine (K58.out).mono ?_
  rintro e w59 hp
  obtain ⟨A_c2, rfl, q1, hb⟩ := hp.eq (by decide) (by decide) (C := [(1, 2), (4, 6), (7, 9)]) (by simp [NF, NFfrom]) (by decide) (fun i => by rw [Bool.eq_iff_iff]; simp [anyS]; omega)
  have X60 := Lib.hid ((X57.out.below hb).add q1)
  clear hb q1 K58 X57
  have K61 := Lib.hid (same_lit w59 A_a2 [(1, 8)] 0 (X60.out.see (.tail _ (.tail _ (.tail _ (.tail _ (.tail _ (.tail _ (.head _)))))))) (by decide))
  go_wp2_with fail
  refine (K61.out).mono ?_
  rintro e w62 ⟨rfl, hb⟩
  have X63 := Lib.hid (X60.out.below hb)
  clear hb K61 X60
  have K64 := Lib.hid (same_lit w62 A_b2 [(2, 4), (7, 8)] 0 (X63.out.see (.tail _ (.tail _ (.tail _ (.head _))))) (by decide))
  go_wp2_with fail
  refine (K64.out).mono ?_
  rintro e w65 ⟨rfl, hb⟩
  have X66 := Lib.hid (X63.out.below hb)
  clear hb K64 X63
  have K67 := Lib.hid (same_lit w65 A_c2 [(1, 2), (4, 6), (7, 9)] 0 (X66.out.see (.head _)) (by decide))
  go_wp2_with fail
  refine (K67.out).mono ?_
  rintro e w68 ⟨rfl, hb⟩
  have X69 := Lib.hid (X66.out.below hb)
  clear hb K67 X66
  have K70 := Lib.hid (of_lit w68 [(1, 4)] (by decide))
  go_wp2_with fail
  refine (K70.out).mono ?_
  rintro e w71 ⟨A_l, c_l, rfl, q1, hb⟩
  have X72 := Lib.hid ((X69.out.below hb).add q1)
  clear hb q1 K70 X69
  have K73 := Lib.hid (insert_any w71 _ A_l c_l [(1, 4)] 2 3 (X72.out.see (.head _)) (Nat.le_refl _) (NF.fits (by simp [NF, NFfrom])) (by decide) ⟨by omega, by omega⟩ ⟨by omega, by omega⟩)
  go_wp2_with fail
  refine (K73.out).mono ?_
  rintro e w74 hp
  obtain ⟨A_a3, rfl, q1, hb⟩ := hp.eq (by decide) (by decide) (C := [(1, 2), (5, 7)]) (by simp [NF, NFfrom]) (by decide) (fun i => by simp [memS_cons, memS_nil]; omega)
  have X75 := Lib.hid ((X72.out.below hb).add q1)
  clear hb q1 K73 X72
  have K76 := Lib.hid (insert_any w74 _ A_l c_l [(1, 4)] 1 3 (X75.out.see (.tail _ (.head _))) (Nat.le_refl _) (NF.fits (by simp [NF, NFfrom])) (by decide) ⟨by omega, by omega⟩ ⟨by omega, by omega⟩)
  go_wp2_with fail
  refine (K76.out).mono ?_
  rintro e w77 hp
  obtain ⟨A_b3, rfl, q1, hb⟩ := hp.eq (by decide) (by decide) (C := [(4, 7)]) (by simp [NF, NFfrom]) (by decide) (fun i => by simp [memS_cons, memS_nil]; omega)
  have X78 := Lib.hid ((X75.out.below hb).add q1)
  clear hb q1 K76 X75
  have K79 := Lib.hid (insert_any w77 _ A_l c_l [(1, 4)] 4 3 (X78.out.see (.tail _ (.tail _ (.head _)))) (Nat.le_refl _) (NF.fits (by simp [NF, NFfrom])) (by decide) ⟨by omega, by omega⟩ ⟨by omega, by omega⟩)
  go_wp2_with fail
  refine (K79.out).mono ?_
  rintro e w80 hp
  obtain ⟨A_c3, rfl, q1, hb⟩ := hp.eq (by decide) (by decide) (C := [(1, 4)]) (by simp [NF, NFfrom]) (by decide) (fun i => by simp [memS_cons, memS_nil]; omega)
  have X81 := Lib.hid ((X78.out.below hb).add q1)
  clear hb q1 K79 X78
  have K82 := Lib.hid (same_lit w80 A_a3 [(1, 2), (5, 7)] 0 (X81.out.see (.tail _ (.tail _ (.head _)))) (by decide))
  go_wp2_with fail
  refine (K82.out).mono ?_
  rintro e w83 ⟨rfl, hb⟩
  have X84 := Lib.hid (X81.out.below hb)
  clear hb K82 X81
  have K85 := Lib.hid (same_lit w83 A_b3 [(4, 7)] 0 (X84.out.see (.tail _ (.head _))) (by decide))
  go_wp2_with fail
  refine (K85.out).mono ?_
  rintro e w86 ⟨rfl, hb⟩
  have X87 := Lib.hid (X84.out.below hb)
  clear hb K85 X84
  have K88 := Lib.hid (same_lit w86 A_c3 [(1, 4)] 0 (X87.out.see (.head _)) (by decide))
  go_wp2_with fail
  refine (K88.out).mono ?_
  rintro e w89 ⟨rfl, hb⟩
  have X90 := Lib.hid (X87.out.below hb)
  clear hb K88 X87
  have K91 := Lib.hid (of_lit w89 [(1, 4), (6, 8)] (by decide))
  go_wp2_with fail
  refine (K91.out).mono ?_
  rintro e w92 ⟨A_m, c_m, rfl, q1, hb⟩
  have X93 := Lib.hid ((X90.out.below hb).add q1)
  clear hb q1 K91 X90
  have K94 := Lib.hid (remove_any w92 _ A_m c_m [(1, 4), (6, 8)] 3 3 (X93.out.see (.head _)) (Nat.le_refl _) (NF.fits (by simp [NF, NFfrom])) (by decide) ⟨by omega, by omega⟩ ⟨by omega, by omega⟩)
  go_wp2_with fail
  refine (K94.out).mono ?_
  rintro e w95 hp
  obtain ⟨A_a4, rfl, q1, hb⟩ := hp.eq (by decide) (C := [(1, 5)]) (by simp [NF, NFfrom]) (by decide) (fun i => by simp [memS_cons, memS_nil]; omega)
  have X96 := Lib.hid ((X93.out.below hb).add q1)
  clear hb q1 K94 X93
  have K97 := Lib.hid (remove_any w95 _ A_l c_l [(1, 4)] 0 9 (X96.out.see (.tail _ (.tail _ (.tail _ (.tail _ (.tail _ (.head _))))))) (Nat.le_refl _) (NF.fits (by simp [NF, NFfrom])) (by decide) ⟨by omega, by omega⟩ ⟨by omega, by omega⟩)
  go_wp2_with fail
  refine (K97.out).mono ?_
  rintro e w98 hp
  obtain ⟨A_b4, rfl, q1, hb⟩ := hp.eq (by decide) (C := []) (by simp [NF, NFfrom]) (by decide) (fun i => by simp [memS_cons, memS_nil]; omega)
  have X99 := Lib.hid ((X96.out.below hb).add q1)
  clear hb q1 K97 X96
  have K100 := Lib.hid (same_lit w98 A_a4 [(1, 5)] 0 (X99.out.see (.tail _ (.head _))) (by decide))
  go_wp2_with fail
  refine (K100.out).mono ?_
  rintro e w101 ⟨rfl, hb⟩
  have X102 := Lib.hid (X99.out.below hb)
  clear hb K100 X99
  have K103 := Lib.hid (same_yes w101 A_b4 none 0 _ 0 [] 0 (X102.out.see (.head _)) (seesP_nil _ _) (Nat.le_refl _) (Nat.zero_le _) (by decide))
  go_wp2_with fail
  refine (K103.out).mono ?_
  rintro e w104 ⟨rfl, hb⟩
  have X105 := Lib.hid (X102.out.below hb)
  clear hb K103 X102
  have K106 := Lib.hid (count_any w104 _ A_m c_m [(1, 4), (6, 8)] (X105.out.see (.tail _ (.tail _ (.head _)))) (Nat.le_refl _) (NF.fits (by simp [NF, NFfrom])) (by decide))
  go_wp2_with fail
  refine (K106.out).mono ?_
  rintro e w107 ⟨rfl, hb⟩
  have X108 := Lib.hid (X105.out.below hb)
  clear hb K106 X105
  have K109 := Lib.hid (has_any w107 _ A_l c_l [(1, 4)] 4 (X108.out.see (.tail _ (.tail _ (.tail _ (.tail _ (.tail _ (.tail _ (.head _)))))))) (Nat.le_refl _) (NF.fits (by simp [NF, NFfrom])) (by decide))
  go_wp2_with fail
  refine (K109.out).mono ?_
  rintro e w110 ⟨rfl, hb⟩
  have X111 := Lib.hid (X108.out.below hb)
  clear hb K109 X108
  go_wp2_with fail
  go_ret
  exact ⟨rfl, X111.out.bl⟩
end Go.Proofs.Ytglgkbocmnkokaa

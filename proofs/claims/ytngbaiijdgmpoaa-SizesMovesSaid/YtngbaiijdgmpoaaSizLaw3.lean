/-
  SizesMoves.
-/
import Derived.Test.YtngbaiijdgmpoaaSizL
import Derived.Test.YtngbaiijdgmpoaaOpen
import Derived.BigQuiet
namespace Go.Proofs.Ytngbaiijdgmpoaa
open Go.RowKit
set_option linter.unusedVariables false
set_option linter.unusedSimpArgs false

theorem movR_back {R : Rws} {k m t : Nat} (h : k + m ≤ R.length) (ht : t ≤ R.length - m) : movR (movR R k m t) t m k = R := by
  have hX := len_remR R h
  have hM : ((R.drop k).take m).length = m := by rw [List.length_take, List.length_drop]; omega
  have h1 : ((remR R k m).take t).length = t := by rw [List.length_take, hX]; omega
  have eY : movR R k m t = (remR R k m).take t ++ ((R.drop k).take m ++ (remR R k m).drop t) := by unfold movR; rw [List.append_assoc]
  have d1 : (movR R k m t).drop t = (R.drop k).take m ++ (remR R k m).drop t := by rw [eY]; exact List.drop_left' h1
  have t1 : (movR R k m t).take t = (remR R k m).take t := by rw [eY]; exact List.take_left' h1
  have e1 : remR (movR R k m t) t m = remR R k m := by
    show (movR R k m t).take t ++ (movR R k m t).drop (t + m) = _
    rw [t1, ← List.drop_drop, d1, List.drop_left' hM, List.take_append_drop]
  have hk : (R.take k).length = k := by rw [List.length_take]; omega
  show ((remR (movR R k m t) t m).take k ++ ((movR R k m t).drop t).take m) ++ (remR (movR R k m t) t m).drop k = R
  rw [e1, d1, List.take_left' hM]
  have e2 : (remR R k m).take k = R.take k := by unfold remR; exact List.take_left' hk
  have e3 : (remR R k m).drop k = R.drop (k + m) := by unfold remR; exact List.drop_left' hk
  rw [e2, e3, List.append_assoc, ← List.drop_drop, List.take_append_drop, List.take_append_drop]
theorem sum_td (L : List Int) (k : Nat) : (L.take k).sum + (L.drop k).sum = L.sum := by rw [← List.sum_append, List.take_append_drop]
theorem remR_sum (R : Rws) (k m : Nat) : (szs (remR R k m)).sum = (szs R).sum - (((szs R).take (k + m)).sum - ((szs R).take k).sum) := by
  unfold remR
  rw [szs_app, List.sum_append, szs_take, szs_drop]
  have := sum_td (szs R) (k + m)
  omega
theorem movR_sum (R : Rws) (k m t : Nat) : (szs (movR R k m t)).sum = (szs R).sum := by
  have h1 := sum_td (szs (remR R k m)) t
  have h2 := remR_sum R k m
  have h3 : ((szs R).take (k + m)).sum = ((szs R).take k).sum + (((szs R).drop k).take m).sum := by rw [List.take_add, List.sum_append]
  unfold movR
  rw [szs_app, szs_app, List.sum_append, List.sum_append, szs_take, szs_take, szs_drop, szs_drop]
  omega
theorem u8_wf {x : Int} (h : (Lit.int .u8 x).wf = true) : ∃ a : Nat, x = (a : Int) ∧ a ≤ 255 := by
  have h2 := bounds_u8 h
  have := h2
  exact ⟨x.toNat, by omega, by omega⟩
theorem agg3_of {k : IntKind} {cs : Array Value} (h : cs.size = 3) (f : ∀ i, i < 3 → ∃ x, cs[i]? = some (.int k x) ∧ (Lit.int k x).wf = true) : ∃ x y z, cs = #[.int k x, .int k y, .int k z] ∧ (Lit.int k x).wf = true ∧ (Lit.int k y).wf = true ∧ (Lit.int k z).wf = true := by
  obtain ⟨x, hx, wx⟩ := f 0 (by omega)
  obtain ⟨y, hy, wy⟩ := f 1 (by omega)
  obtain ⟨z, hz, wz⟩ := f 2 (by omega)
  refine ⟨x, y, z, ?_, wx, wy, wz⟩
  apply Array.ext_getElem?
  intro i
  match i with
  | 0 => exact hx
  | 1 => exact hy
  | 2 => exact hz
  | i + 3 => rw [Array.getElem?_eq_none (by omega), Array.getElem?_eq_none (by simp)]
/-- A remainder below n + 1. -/
theorem tmod_small (a n : Nat) : ∃ i : Nat, i ≤ n ∧ Int.tmod (a : Int) ((n : Int) + 1) = (i : Int) :=
  ⟨a % (n + 1), Nat.le_of_lt_succ (Nat.mod_lt _ (by omega)), by rw [Int.tmod_eq_emod_of_nonneg (by omega)]; norm_cast⟩
set_option maxRecDepth 100000 in
set_option maxHeartbeats 6400000 in
theorem law_moves (A : Option Addr) (n c : Nat) (f : Nat → Int) (g : Bool) (z : Array Value) (w : World) (hs : Sees w w.heap.size A n (u8r f)) (hf : ∀ j, 0 ≤ f j ∧ f j ≤ 255) (hnc : n ≤ c) (hc : c ≤ maxLen) (hz : z.size = 3) (hzz : ∀ i, i < 3 → ∃ x, z[i]? = some (.int .u8 x) ∧ (Lit.int .u8 x).wf = true) :
    Calls Try.prog 7 #[.agg #[.slice A n c, .bool g], .agg z] w fun e w' => e = .returned (.bool true) ∧ Below w.heap.size w w' := by
  obtain ⟨x0, x1, x2, rfl, y0, y1, y2⟩ := agg3_of hz hzz
  obtain ⟨z0, rfl, g0⟩ := u8_wf y0
  obtain ⟨z1, rfl, g1⟩ := u8_wf y1
  obtain ⟨z2, rfl, g2⟩ := u8_wf y2
  clear hz hzz y0 y1 y2
  have OK := Lib.hid (irows_ok f n g)
  have b0 : Below w.heap.size w ((w.alloc (.cells #[.slice A n c, .bool g] 24)).alloc (.cells #[.int .u8 z0, .int .u8 z1, .int .u8 z2] 70)) := ((Below.refl _ w).alloc (Nat.le_refl _) _).alloc (by rw [World.size_alloc]; omega) _
  have VR := Lib.hid (World.rowIs.alloc (World.rowIs_alloc w #[.slice A n c, .bool g] 24 (fun j => if j = 0 then .slice A n c else .bool g) (fun j hj => by
    have : j = 0 ∨ j = 1 := by simp at hj; omega
    rcases this with rfl | rfl <;> rfl)) (.cells #[.int .u8 z0, .int .u8 z1, .int .u8 z2] 70))
  have VZ := World.rowIs_alloc (w.alloc (.cells #[.slice A n c, .bool g] 24)) #[.int .u8 z0, .int .u8 z1, .int .u8 z2] 70 (fun j => if j = 0 then .int .u8 z0 else if j = 1 then .int .u8 z1 else .int .u8 z2) (fun j hj => by
    have : j = 0 ∨ j = 1 ∨ j = 2 := by simp at hj; omega
    rcases this with rfl | rfl | rfl <;> rfl)
  rw [World.size_alloc] at VZ
  have VZ := Lib.hid VZ
  have HS0 := (hs.below b0)
  have hm : n ≤ maxLen := Nat.le_trans hnc hc
  have KR := Lib.hid (Rows_any _ A n c f g (HS0.more b0.size) (fun j _ => hf j) hm)
  have KO := Lib.hid (fun W (hW : Below _ ((w.alloc (.cells #[.slice A n c, .bool g] 24)).alloc (.cells #[.int .u8 z0, .int .u8 z1, .int .u8 z2] 70)) W) => Of_any W A n c f g ((HS0.below (hW.mono b0.size)).more (Nat.le_trans b0.size hW.size)) (fun j _ => hf j) hm)
  have L0 := Lib.hid (LX.start b0)
  generalize irows f n g = R at KR KO OK
  clear hs hf hnc HS0 hm b0
  go_enter Try.func7, Try.ntmps7
  go_wp2_with fail
  change Calls Try.prog _ _ ((w.alloc (.cells #[.slice A n c, .bool g] 24)).alloc (.cells #[.int .u8 z0, .int .u8 z1, .int .u8 z2] 70)) _
  generalize (w.alloc (.cells #[.slice A n c, .bool g] 24)).alloc (.cells #[.int .u8 z0, .int .u8 z1, .int .u8 z2] 70) = w0 at KR KO L0 VR VZ ⊢
  have lw := World.rowIs.lt VR.out
  have lz := World.rowIs.lt VZ.out
  refine (KR.out).mono ?_
  rintro e w1 ⟨A1, c1, rfl, p1, p2, p3, p4⟩
  have L1 := Lib.hid ((L0.out.below p2).add p1)
  have B1 := Lib.hid p2
  have V1 := Lib.hid (World.rowIs.of_block VR.out (p2.block _ lw))
  have v1 := V1.out.cell (i := 0) (by simp)
  have v2 := V1.out.cell (i := 1) (by simp)
  rw [if_pos rfl] at v1
  rw [if_neg (by decide)] at v2
  have lw1 := World.rowIs.lt V1.out
  clear p1 p2 KR
  go_wp2_with fail
  refine (KO.out _ B1.out).mono ?_
  rintro e w2 ⟨a, A', S, rfl, p1, p2⟩
  have L2 := Lib.hid ((L1.out.below p2).cons p1)
  have Z2 := Lib.hid (World.rowIs.of_block VZ.out ((B1.out.trans (p2.mono B1.out.size)).block _ lz))
  have Z2 := Lib.hid (World.rowIs.alloc Z2.out (.cells #[.pointer a, .slice A' S.length S.length] 34))
  clear p1 p2 KO v1 v2 lw1 V1
  obtain ⟨x1, x2, _, _, _, lx⟩ := L2.out.get (.head _)
  have u0 := Z2.out.cell (i := 0) (by simp)
  have u1 := Z2.out.cell (i := 1) (by simp)
  have u2 := Z2.out.cell (i := 2) (by simp)
  rw [if_pos rfl] at u0
  rw [if_neg (by decide), if_pos rfl] at u1
  rw [if_neg (by decide), if_neg (by decide)] at u2
  have hlen := OK.out.len
  obtain ⟨m, em⟩ : ∃ m, m = R.length := ⟨_, rfl⟩
  have EM := Lib.hid em
  rw [← em] at hlen p3 ⊢
  clear em
  obtain ⟨i, hi, ei⟩ := tmod_small z0 m
  obtain ⟨k, hk, ek⟩ := tmod_small z1 (m - i)
  rw [show ((m - i : Nat) : Int) = (m : Int) - (i : Int) from by omega] at ek
  obtain ⟨t, ht, et⟩ := tmod_small z2 (m - k)
  rw [show ((m - k : Nat) : Int) = (m : Int) - (k : Int) from by omega] at et
  have kik : i + k ≤ R.length := by rw [← EM.out]; omega
  have ktm : t ≤ R.length - k := by rw [← EM.out]; exact ht
  have KM := Lib.hid (imove_ok (ixw w2 a A' S.length) a A' S R (L2.out.get (.head _)).ix i k t kik ktm)
  have lenY := len_movR R kik ktm
  have KB := Lib.hid (fun W ay Ay Sy (h : Ix W ay Ay Sy (movR R i k t)) => imove_ok W ay Ay Sy (movR R i k t) h t k i (by rw [lenY]; omega) (by rw [lenY]; omega))
  rw [movR_back kik ktm] at KB
  have KV := Lib.hid (fun W a A' S (h : Ix W a A' S R) => iremove_ok W a A' S R h i k kik)
  have KT1 := Lib.hid (fun W (h : SeesR W W.heap.size A1 R) => refTop_any W _ A1 c1 R (i + k) h OK.out.ok kik (by have := OK.out.len; omega))
  have KT2 := Lib.hid (fun W (h : SeesR W W.heap.size A1 R) => refTop_any W _ A1 c1 R i h OK.out.ok (by omega) (by have := OK.out.len; omega))
  rw [← EM.out] at KT1 KT2
  have SR := remR_sum R i k
  have SM := movR_sum R i k t
  have mono12 : 0 ≤ ((szs R).take (i + k)).sum - ((szs R).take i).sum := by
    rw [List.take_add, List.sum_append]
    have := sum_nn (fun x (hx : x ∈ ((szs R).drop i).take k) => OK.out.ok.nn x (List.mem_of_mem_drop (List.mem_of_mem_take hx)))
    omega
  have le12 := sum_take_le OK.out.ok.nn (i + k)
  obtain ⟨T1, eT1⟩ : ∃ T, T = ((szs R).take (i + k)).sum := ⟨_, rfl⟩
  obtain ⟨T2, eT2⟩ : ∃ T, T = ((szs R).take i).sum := ⟨_, rfl⟩
  have bT1 := sum_take_bd OK.out.ok (i + k)
  have bT2 := sum_take_bd OK.out.ok i
  rw [← eT1] at SR KT1 bT1 mono12 le12
  rw [← eT2] at SR KT2 bT2 mono12
  have bT3 := sum_take_bd OK.out.ok (szs R).length
  rw [List.take_length] at bT3
  have KLy := Lib.hid (fun W ay Ay Sy (h : Ix W ay Ay Sy (movR R i k t)) => ilen_any W ay Ay Sy.length (movR R i k t) h.rp)
  rw [lenY, ← EM.out] at KLy
  have KTy := Lib.hid (fun W ay Ay Sy (h : Ix W ay Ay Sy (movR R i k t)) => rtotal_any W ay (szs (movR R i k t)) h.rp)
  rw [SM] at KTy
  have KTr := Lib.hid (fun W ay Ay Sy (h : Ix W ay Ay Sy (remR R i k)) => rtotal_any W ay (szs (remR R i k)) h.rp)
  rw [SR] at KTr
  have KTx := Lib.hid (fun W ay Ay Sy (h : Ix W ay Ay Sy R) => rtotal_any W ay (szs R) h.rp)
  generalize movR R i k t = Ry at KM KB KLy KTy lenY SM
  generalize remR R i k = Rr at KV KTr SR
  obtain ⟨TT, eTT⟩ : ∃ T, T = (szs R).sum := ⟨_, rfl⟩
  rw [← eTT] at KTy KTr KTx bT3 le12
  have wr1 : IntKind.i64.wrap (T1 - T2) = T1 - T2 := IntWalk.i64_in _ (by omega)
  have wr2 : IntKind.i64.wrap (TT - (T1 - T2)) = TT - (T1 - T2) := IntWalk.i64_in _ (by omega)
  have wr3 : IntKind.i64.wrap ((i : Int) + (k : Int)) = (i : Int) + (k : Int) := IntWalk.i64_in _ (by omega)
  clear SR SM eT1 eT2 eTT lenY kik ktm bT1 bT2 bT3 mono12 le12
  have EI := Lib.hid ei
  go_wp2_with fail
  refine (KM.out).mono ?_
  rintro e w3 ⟨ay, Ay, Sy, rfl, q, hb⟩
  have L3 := Lib.hid ((L2.out.below hb).cons q)
  clear hb q x1 x2 lx u0 u1 u2
  obtain ⟨x1, x2, _, _, _, lx⟩ := L3.out.get (.tail _ (.head _))
  obtain ⟨y1, y2, _, _, _, ly⟩ := L3.out.get (.head _)
  go_wp2_with fail
  refine (KB.out _ _ _ _ (L3.out.get (.head _)).ix).mono ?_
  rintro e w4 ⟨ab, Ab, Sb, rfl, q, hb⟩
  have L4 := Lib.hid ((L3.out.below hb).cons q)
  clear hb q x1 x2 lx y1 y2 ly
  obtain ⟨x1, x2, _, _, _, lx⟩ := L4.out.get (.tail _ (.tail _ (.head _)))
  go_wp2_with fail
  refine (KV.out _ _ _ _ (L4.out.get (.tail _ (.tail _ (.head _)))).ix).mono ?_
  rintro e w5 ⟨ar, Ar, Sr, rfl, q, hb⟩
  have L5 := Lib.hid ((L4.out.below hb).cons q)
  clear hb q x1 x2 lx
  go_wp2_with fail
  refine (KT1.out _ (L5.out.see (.head _))).mono ?_
  rintro e w6 ⟨rfl, rfl⟩
  go_wp2_with fail
  refine (KT2.out _ (L5.out.see (.head _))).mono ?_
  rintro e w6 ⟨rfl, rfl⟩
  have wr4 : IntKind.i64.wrap (T1 - T2) = T1 - T2 := wr1
  go_wp2_with fail
  generalize ixw w5 ar Ar Sr.length = w9 at L5 ⊢
  have D9 : Hid (Below w9.heap.size w9 w9.drew) := (Below.refl _ _).drew
  have L9 := Lib.hid (L5.out.drawn (w' := w9.drew) ⟨1, rfl⟩)
  obtain ⟨r1, r2, _, _, _, l1⟩ := L5.out.get (.head _)
  obtain ⟨b1, b2, _, _, _, l2⟩ := L5.out.get (.tail _ (.head _))
  obtain ⟨y1, y2, _, _, _, l3⟩ := L5.out.get (.tail _ (.tail _ (.head _)))
  obtain ⟨x1, x2, _, _, _, l4⟩ := L5.out.get (.tail _ (.tail _ (.tail _ (.head _))))
  have KS := Lib.hid (fun W (h : LX w W [(w5.heap.size, ar, Ar, Sr, Rr), (w4.heap.size, ab, Ab, Sb, R), (w3.heap.size, ay, Ay, Sy, Ry), (w2.heap.size, a, A', S, R)] [(A1, R)]) => same_any W ab Ab Sb R (h.get (.tail _ (.head _))).ix A1 c1 _ (h.see (.head _)) (Nat.le_refl _) 0 ⟨by omega, by omega⟩)
  rw [← EM.out] at KS
  refine wp_region_plan [(false, 0), (false, 1), (false, 2), (false, 3), (false, 5), (false, 6), (true, 4), (false, 7), (false, 8), (false, 9), (false, 10), (false, 11), (false, 12), (false, 14), (false, 15), (false, 16), (true, 13), (true, 17), (false, 18), (false, 19), (false, 20), (false, 21), (false, 22), (false, 23), (true, 24), (false, 25), (false, 26), (false, 27), (false, 28), (false, 29), (false, 30), (false, 31), (false, 32), (false, 33), (false, 35), (false, 36), (false, 37), (false, 39), (true, 34), (true, 38), (false, 40), (false, 41), (false, 42), (false, 43), (true, 44), (false, 45), (false, 46)] (Below w9.heap.size w9) (by kernel_rfl) (by kernel_rfl) (D9.out) _ (by simp only [pickH, List.getElem?_toArray, List.getElem?_cons_succ, List.getElem?_cons_zero]; rfl) ?_
  repeat (refine HWalk.step (fun K hK => ?_); first | (apply held_yes; (focus rfl); (focus (intro w' hw; obtain ⟨hc', hf'⟩ := below_cells hw; go_simp; rfl)); (go_simp; refine hK _ ?_; clear hK K)) | (refine ite_no (by decide) ?_; go_simp; refine hK _ ?_; clear hK K))
  -- a mark of the last region: KLy.out _ _ _ _ (L9.out.get (.tail _ (.tail _ (.head _)))).ix contract; L9 old holder; L10 new; D9 old Below; D10 new; w10 world
  refine HWalk.mark ?_
  go_wp2_with fail
  refine (KLy.out _ _ _ _ (L9.out.get (.tail _ (.tail _ (.head _)))).ix).mono ?_
  rintro e w10 ⟨rfl, hb⟩
  have L10 := Lib.hid (L9.out.below hb)
  have D10 := Lib.hid (D9.out.trans (hb.mono D9.out.size))
  clear hb
  go_wp2_with fail
  refine ⟨D10.out, ?_⟩
  repeat (refine HWalk.step (fun K hK => ?_); first | (apply held_yes; (focus rfl); (focus (intro w' hw; obtain ⟨hc', hf'⟩ := below_cells hw; go_simp; rfl)); (go_simp; refine hK _ ?_; clear hK K)) | (refine ite_no (by decide) ?_; go_simp; refine hK _ ?_; clear hK K))
  -- a mark of the last region: KTy.out _ _ _ _ (L10.out.get (.tail _ (.tail _ (.head _)))).ix contract; L10 old holder; L11 new; D10 old Below; D11 new; w11 world
  refine HWalk.mark ?_
  go_wp2_with fail
  refine (KTy.out _ _ _ _ (L10.out.get (.tail _ (.tail _ (.head _)))).ix).mono ?_
  rintro e w11 ⟨rfl, hb⟩
  have L11 := Lib.hid (L10.out.below hb)
  have D11 := Lib.hid (D10.out.trans (hb.mono D10.out.size))
  clear hb
  go_wp2_with fail
  refine ⟨D11.out, ?_⟩
  repeat (refine HWalk.step (fun K hK => ?_); first | (apply held_yes; (focus rfl); (focus (intro w' hw; obtain ⟨hc', hf'⟩ := below_cells hw; go_simp; rfl)); (go_simp; refine hK _ ?_; clear hK K)) | (refine ite_no (by decide) ?_; go_simp; refine hK _ ?_; clear hK K))
  -- a mark of the last region: KTx.out _ _ _ _ (L11.out.get (.tail _ (.tail _ (.tail _ (.head _))))).ix contract; L11 old holder; L12 new; D11 old Below; D12 new; w12 world
  refine HWalk.mark ?_
  go_wp2_with fail
  refine (KTx.out _ _ _ _ (L11.out.get (.tail _ (.tail _ (.tail _ (.head _))))).ix).mono ?_
  rintro e w12 ⟨rfl, hb⟩
  have L12 := Lib.hid (L11.out.below hb)
  have D12 := Lib.hid (D11.out.trans (hb.mono D11.out.size))
  clear hb
  go_wp2_with fail
  refine ⟨D12.out, ?_⟩
  repeat (refine HWalk.step (fun K hK => ?_); first | (apply held_yes; (focus rfl); (focus (intro w' hw; obtain ⟨hc', hf'⟩ := below_cells hw; go_simp; rfl)); (go_simp; refine hK _ ?_; clear hK K)) | (refine ite_no (by decide) ?_; go_simp; refine hK _ ?_; clear hK K))
  -- a mark of the last region: KS.out _ L12.out contract; L12 old holder; L13 new; D12 old Below; D13 new; w13 world
  refine HWalk.mark ?_
  go_wp2_with fail
  refine (KS.out _ L12.out).mono ?_
  rintro e w13 ⟨rfl, hb⟩
  have L13 := Lib.hid (L12.out.below hb)
  have D13 := Lib.hid (D12.out.trans (hb.mono D12.out.size))
  clear hb
  go_wp2_with fail
  refine ⟨D13.out, ?_⟩
  repeat (refine HWalk.step (fun K hK => ?_); first | (apply held_yes; (focus rfl); (focus (intro w' hw; obtain ⟨hc', hf'⟩ := below_cells hw; go_simp; rfl)); (go_simp; refine hK _ ?_; clear hK K)) | (refine ite_no (by decide) ?_; go_simp; refine hK _ ?_; clear hK K))
  -- a mark of the last region: KTr.out _ _ _ _ (L13.out.get (.head _)).ix contract; L13 old holder; L14 new; D13 old Below; D14 new; w14 world
  refine HWalk.mark ?_
  go_wp2_with fail
  refine (KTr.out _ _ _ _ (L13.out.get (.head _)).ix).mono ?_
  rintro e w14 ⟨rfl, hb⟩
  have L14 := Lib.hid (L13.out.below hb)
  have D14 := Lib.hid (D13.out.trans (hb.mono D13.out.size))
  clear hb
  go_wp2_with fail
  refine ⟨D14.out, ?_⟩
  repeat (refine HWalk.step (fun K hK => ?_); first | (apply held_yes; (focus rfl); (focus (intro w' hw; obtain ⟨hc', hf'⟩ := below_cells hw; go_simp; rfl)); (go_simp; refine hK _ ?_; clear hK K)) | (refine ite_no (by decide) ?_; go_simp; refine hK _ ?_; clear hK K))
  -- a mark of the last region: KTx.out _ _ _ _ (L14.out.get (.tail _ (.tail _ (.tail _ (.head _))))).ix contract; L14 old holder; L15 new; D14 old Below; D15 new; w15 world
  refine HWalk.mark ?_
  go_wp2_with fail
  refine (KTx.out _ _ _ _ (L14.out.get (.tail _ (.tail _ (.tail _ (.head _))))).ix).mono ?_
  rintro e w15 ⟨rfl, hb⟩
  have L15 := Lib.hid (L14.out.below hb)
  have D15 := Lib.hid (D14.out.trans (hb.mono D14.out.size))
  clear hb
  go_wp2_with fail
  refine ⟨D15.out, ?_⟩
  repeat (refine HWalk.step (fun K hK => ?_); first | (apply held_yes; (focus rfl); (focus (intro w' hw; obtain ⟨hc', hf'⟩ := below_cells hw; go_simp; rfl)); (go_simp; refine hK _ ?_; clear hK K)) | (refine ite_no (by decide) ?_; go_simp; refine hK _ ?_; clear hK K))
  -- a mark of the last region: lives_yes _ contract; L15 old holder; L16 new; D15 old Below; D16 new; w16 world
  refine HWalk.mark ?_
  go_wp2_with fail
  refine (lives_yes _).mono ?_
  rintro e w16 ⟨rfl, hb⟩
  have L16 := Lib.hid (L15.out.below hb)
  have D16 := Lib.hid (D15.out.trans (hb.mono D15.out.size))
  clear hb
  go_wp2_with fail
  refine ⟨D16.out, ?_⟩
  repeat (refine HWalk.step (fun K hK => ?_); first | (apply held_yes; (focus rfl); (focus (intro w' hw; obtain ⟨hc', hf'⟩ := below_cells hw; go_simp; rfl)); (go_simp; refine hK _ ?_; clear hK K)) | (refine ite_no (by decide) ?_; go_simp; refine hK _ ?_; clear hK K))
  refine HWalk.done ?_
  go_wp2_with fail
  go_ret
  exact ⟨rfl, L16.out.bl⟩
end Go.Proofs.Ytngbaiijdgmpoaa

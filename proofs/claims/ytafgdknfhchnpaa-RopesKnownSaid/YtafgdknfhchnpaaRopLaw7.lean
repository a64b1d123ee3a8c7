/-
  The walk of the law RopesKnown.
-/
import Derived.Test.YtafgdknfhchnpaaRopLS2
import Derived.Lib.JoinLaws
namespace Go.Proofs.Ytafgdknfhchnpaa
open Go.RowKit
set_option linter.unusedVariables false
set_option linter.unusedSimpArgs false

/-- 0, 1, 2, 3, 4, 0, 1 .. -/
def m5 : Nat → Int := fun j => ((j % 5 : Nat) : Int)
theorem m5_bd (k : Nat) : 0 ≤ m5 k ∧ m5 k ≤ 4 := by unfold m5; omega
def l5 (n : Nat) : List Int := toL m5 n
theorem l5_len (n : Nat) : (l5 n).length = n := toL_len m5 n
theorem l5_at (n j : Nat) (h : j < n) : lf (l5 n) j = m5 j := lf_toL m5 n j h
theorem l5_mem {n : Nat} : ∀ x ∈ l5 n, 0 ≤ x ∧ x ≤ 4 := fun x hx => by
  obtain ⟨j, hj, rfl⟩ := List.mem_iff_getElem.1 hx
  rw [← lf_get _ hj, l5_at _ _ (by rw [l5_len] at hj; exact hj)]
  exact m5_bd j
theorem sum_le4 : ∀ {L : List Int}, (∀ x ∈ L, 0 ≤ x ∧ x ≤ 4) → 0 ≤ L.sum ∧ L.sum ≤ 4 * L.length
  | [], _ => by simp
  | x :: L, h => by
    have := sum_le4 (L := L) (fun y hy => h y (by simp [hy]))
    have := h x (by simp)
    rw [List.sum_cons, List.length_cons]
    omega
theorem l5_ok {n : Nat} (hn : n ≤ 5000) : LOk (l5 n) := ⟨fun x hx => (l5_mem x hx).1, by rw [l5_len]; omega, by have := (sum_le4 (l5_mem (n := n))).2; rw [l5_len] at this; omega⟩
theorem l5_chk {n : Nat} (hn : n ≤ 4096) : chkL (l5 n) = 0 := by
  unfold chkL chk
  rw [if_neg (by rw [l5_len]; omega)]
  exact chk_of_ok (l5_ok (by omega)) (fun x hx => by have := l5_mem x hx; omega) _ (Nat.le_refl _)
theorem mov_rot {L : List Int} (h : L.length = 4096) : movErr L 0 2000 2096 = 0 ∧ movTo L 0 2000 2096 = L.drop 2000 ++ L.take 2000 := by
  have e : movErr L 0 2000 2096 = 0 := by unfold movErr; rw [if_neg (by omega)]
  refine ⟨e, ?_⟩
  unfold movTo
  rw [if_pos e]
  show movL L 0 2000 2096 = _
  have hd : (L.drop 2000).length = 2096 := by rw [List.length_drop]; omega
  unfold movL remL
  rw [List.take_zero, List.drop_zero, List.nil_append, List.take_of_length_le (show (L.drop 2000).length ≤ 2096 by omega), List.drop_of_length_le (show (L.drop 2000).length ≤ 2096 by omega), List.append_nil]
theorem mov_rot2 {A B : List Int} (ha : A.length = 2000) (hb : B.length = 2096) : movErr (B ++ A) 2096 2000 0 = 0 ∧ movTo (B ++ A) 2096 2000 0 = A ++ B := by
  have hl : (B ++ A).length = 4096 := by rw [List.length_append]; omega
  have e : movErr (B ++ A) 2096 2000 0 = 0 := by unfold movErr; rw [if_neg (by omega)]
  refine ⟨e, ?_⟩
  unfold movTo
  rw [if_pos e]
  show movL (B ++ A) 2096 2000 0 = _
  unfold movL remL
  rw [List.take_zero, List.drop_zero, List.nil_append, ← hb, List.drop_left, List.take_left, List.take_of_length_le (show A.length ≤ 2000 by omega), List.drop_of_length_le (show A.length ≤ 2000 by omega), List.append_nil]
theorem rem_ends {S : List Int} (h : S.length = 4096) : cutErr S 1 4094 = 0 ∧ remTo S 1 4094 = [lf S 0, lf S 4095] := by
  have e : cutErr S 1 4094 = 0 := by unfold cutErr; rw [if_neg (by omega)]
  refine ⟨e, ?_⟩
  unfold remTo
  rw [if_pos e]
  show remL S 1 4094 = _
  have hl : (remL S 1 4094).length = 2 := by rw [remL_len _ _ _ (by omega)]; omega
  have h0 : lf (remL S 1 4094) 0 = lf S 0 := by
    unfold remL
    rw [lf_app, List.length_take, if_pos (by omega), lf_take (by omega)]
  have h1 : lf (remL S 1 4094) 1 = lf S 4095 := by
    unfold remL
    rw [lf_app, List.length_take, if_neg (by omega), lf_drop, lf_drop, show 1 + (4094 + (1 - min 1 S.length)) = 4095 from by omega]
  match hR : remL S 1 4094, hl with
  | [a, b], _ =>
    rw [hR] at h0 h1
    rw [← h0, ← h1]
    rfl
theorem depth_16 {d n : Nat} (h : FF d ≤ n) (hn : n ≤ 4096) : ¬ (16 : Int) < (d : Int) := by
  rcases Nat.lt_or_ge 16 d with c | c
  · have := FF_mono (show 17 ≤ d from c)
    have : FF 17 = 4180 := by decide
    omega
  · omega

theorem make_i64 (n : Nat) (x : Int) (hx : x = (n : Int)) (hn : n ≤ 1000000) (W : World) :
    (Instr.makeSlice 22 (.int .i64 x) (.int .i64 x)).run Try.prog W = .ok (.slice (some ⟨W.heap.size, 0, none⟩) n n) (W.alloc (.cells (madeCells #[.int .i64 0] n) 2)) := by
  subst hx
  exact run_make_row' 22 2 (.int .i64 0) 8 Try.underlying22 infoOf rfl .i64 .i64 n (by omega) (by omega) W
/-- Of, of a literal of great sizes. -/
theorem of_big (w : World) (L : List Int) (h : chkL L = 0) (hl : L.length ≤ 100) (hf : ∀ x ∈ L, -4611686018427387904 ≤ x ∧ x ≤ 4611686018427387904) :
    Calls Try.prog 11 #[.slice (some ⟨w.heap.size, 0, none⟩) L.length L.length] (w.alloc (.cells ((L.map (fun x => Value.int .i64 x)).toArray) 2)) (RPost (w.alloc (.cells ((L.map (fun x => Value.int .i64 x)).toArray) 2)) L 0) := by
  have := of_any _ _ L.length _ L (litL w L) (by rw [World.size_alloc]; omega) (Nat.le_refl _) (by simp only [maxLen]; omega) (by omega) (fun x hx => ⟨by have := (hf x hx).1; omega, by have := (hf x hx).2; omega⟩)
  rw [if_pos h, h] at this
  exact this
set_option maxRecDepth 100000 in
set_option maxHeartbeats 12800000 in
theorem law_known (w : World) :
    Calls Try.prog 7 #[] w fun e w' => e = .returned (.bool true) ∧ Below w.heap.size w w' := by
  have hmk := make_i64 4097 4097 (by omega) (by omega) w
  go_enter Try.func7, Try.ntmps7
  go_wp2_with fail
  clear hmk
  have hst : Hid ((w.alloc (.cells (madeCells #[.int .i64 0] 4097) 2)).rowIs w.heap.size 2 4097 (fun j => .int .i64 (if j < 0 then m5 j else 0))) := World.rowIs_made w _ 4097 _
  have hbl : Hid (Below w.heap.size w (w.alloc (.cells (madeCells #[.int .i64 0] 4097) 2))) := (Below.refl _ w).alloc (Nat.le_refl _) _
  go_loopw [2] (fun i wr => ∃ k : Nat, k ≤ 4097 ∧ i = .int .i64 k ∧ Hid (wr.rowIs w.heap.size 2 4097 (fun j => .int .i64 (if j < k then m5 j else 0))) ∧ Hid (Below w.heap.size w wr)) (fun i _ => 4097 - (intOf i).toNat)
  case atStart => exact ⟨0, Nat.zero_le _, rfl, hst, hbl⟩
  case round =>
    obtain ⟨k, hk, rfl, hR, hB⟩ := hrel
    clear hst hbl
    by_cases hlt : k < 4097
    · have hc := hR.out.cell (i := k) hlt
      rw [if_neg (Nat.lt_irrefl k)] at hc
      have hf := hR.out.frozen k
      have hki : (k : Int) < 4097 := by omega
      have hmod : (k : Int) % 5 = m5 k := by unfold m5; omega
      go_wp2_with fail
      go_roundw
      case rel =>
        refine ⟨k + 1, by omega, by go_num, (hR.out.set k _).congr fun j hj => ?_, ?_⟩
        · show (if j = k then _ else _) = _
          by_cases c : j = k
          · subst c; rw [if_pos rfl, if_pos (by omega)]
          · rw [if_neg c]
            by_cases d : j < k
            · rw [if_pos d, if_pos (by omega)]
            · rw [if_neg d, if_neg (by omega)]
        · exact hB.out.setCell (p := ⟨w.heap.size, k, none⟩) (Nat.le_refl _) _
      case measure => simp [intOf]; omega
    obtain rfl : k = 4097 := by omega
    have S : ∀ n, n ≤ 4097 → SeesL wr wr.heap.size (some ⟨w.heap.size, 0, none⟩) (l5 n) := fun n hn _ => by
      rw [l5_len]
      refine ⟨w.heap.size, 0, rfl, hR.out.lt, fun j hj => ?_⟩
      have := hR.out.cell (i := j) (by omega)
      rw [if_pos (by omega)] at this
      rw [Nat.zero_add, this, i64s_at, l5_at _ _ hj]
    have X0 : Hid (LS w wr [] [(some ⟨w.heap.size, 0, none⟩, l5 4096), (some ⟨w.heap.size, 0, none⟩, l5 4097), (some ⟨w.heap.size, 0, none⟩, l5 1)]) := (((LS.start hB.out).add (S 1 (by omega))).add (S 4097 (by omega))).add (S 4096 (by omega))
    have lL := l5_len 4096
    have OL : Hid (LOk (l5 4096)) := l5_ok (by omega)
    have ck := l5_chk (n := 4096) (by omega)
    have fL : ∀ n, ∀ x ∈ l5 n, Fits x := fun n x hx => by have := l5_mem x hx; exact ⟨by omega, by omega⟩
    have K1 := of_any wr (some ⟨w.heap.size, 0, none⟩) 4097 _ (l5 4096) (X0.out.see (.head _)) (Nat.le_refl _) (by rw [lL]; omega) (by simp only [maxLen]; omega) (by rw [lL]; omega) (fL _)
    rw [if_pos ck, ck, lL] at K1
    have HK1 := Lib.hid K1
    have m1 : m5 2000 = 0 := by unfold m5; omega
    have m2 : m5 1999 = 4 := by unfold m5; omega
    have a1 := l5_at 4096 2000 (by omega)
    have a2 := l5_at 4096 1999 (by omega)
    rw [m1] at a1
    rw [m2] at a2
    obtain ⟨L, eL⟩ : ∃ L, L = l5 4096 := ⟨_, rfl⟩
    rw [← eL] at X0 lL OL HK1 a1 a2
    have LL := Lib.hid lL
    have A1 := Lib.hid a1
    have A2 := Lib.hid a2
    have FL := Lib.hid fL
    clear hR hk hlt hB S ck K1 eL lL m1 m2 a1 a2 fL
    go_wp2_with fail
    refine (HK1.out).mono ?_
    rintro e w1 ⟨r, rfl, p1, hb⟩
    have X1 := Lib.hid ((X0.out.below hb).cons p1)
    have K2 := of_any (w1.alloc (.cells #[.pointer r] 27)) (some ⟨w.heap.size, 0, none⟩) 4097 _ (l5 4097) (X1.out.see (.tail _ (.head _))) (Nat.le_refl _) (by rw [l5_len]; omega) (by simp only [maxLen]; omega) (by rw [l5_len]; omega) (FL.out _)
    rw [show chkL (l5 4097) = 3 from by unfold chkL chk; rw [if_pos (by rw [l5_len]; omega)], if_neg (by decide), l5_len] at K2
    have HK2 := Lib.hid K2
    clear K2 hb p1 HK1 X0
    go_wp2_with fail
    refine (HK2.out).mono ?_
    rintro e w2 ⟨r2, rfl, p1, hb⟩
    have X2 := Lib.hid ((X1.out.below hb).cons p1)
    have K3 := of_any (w2.alloc (.cells #[.pointer r2] 27)) (some ⟨w.heap.size, 0, none⟩) 4097 _ (l5 1) (X2.out.see (.tail _ (.tail _ (.head _)))) (Nat.le_refl _) (by rw [l5_len]; omega) (by simp only [maxLen]; omega) (by rw [l5_len]; omega) (FL.out _)
    rw [if_pos (l5_chk (by omega)), l5_chk (by omega), l5_len] at K3
    have HK3 := Lib.hid K3
    clear K3 hb p1 HK2 X1 FL
    go_wp2_with fail
    refine (HK3.out).mono ?_
    rintro e w3 ⟨one, rfl, p1, hb⟩
    have X3 := Lib.hid (((X2.out.below hb).cons p1).sub (qs' := [(some ⟨w.heap.size, 0, none⟩, L)]) (fun _ h => h) (fun v hv => by rcases List.mem_cons.1 hv with rfl | h; exact .head _; cases h))
    have g1 := X3.out.get (.tail _ (.tail _ (.head _)))
    have g2 := X3.out.get (.head _)
    have d1 := g1.c
    have d2 := g2.c
    have K4 := Lib.hid (rjoin_any _ r one L (l5 1) g1.r g2.r OL.out (l5_ok (by omega)))
    rw [show joinErr L (l5 1) = 3 from by unfold joinErr; rw [if_pos (by rw [LL.out, l5_len]; omega)], if_neg (by decide)] at K4
    clear hb p1 HK3 X2 g1 g2
    go_wp2_with fail
    refine (K4.out).mono ?_
    rintro e w4 ⟨r4, rfl, p1, hb⟩
    have X4 := Lib.hid ((X3.out.below hb).cons p1)
    have g1 := X4.out.get (.tail _ (.tail _ (.tail _ (.head _))))
    have d3 := g1.c
    have lw : Below (w4.alloc (.cells #[.pointer r4] 27)).heap.size (w4.alloc (.cells #[.pointer r4] 27)) ((w4.alloc (.cells #[.pointer r4] 27)).alloc (.cells #[.int .i64 1] 2)) := (Below.refl _ _).alloc (Nat.le_refl _) _
    have K5 := Lib.hid (rinsert_any ((w4.alloc (.cells #[.pointer r4] 27)).alloc (.cells #[.int .i64 1] 2)) r L (g1.r.below lw) OL.out 9 (some ⟨(w4.alloc (.cells #[.pointer r4] 27)).heap.size, 0, none⟩) 1 ((w4.alloc (.cells #[.pointer r4] 27)).heap.size + 1) [1] (litL (w4.alloc (.cells #[.pointer r4] 27)) [1]) (by simp only [World.size_alloc]; omega) (Nat.le_refl _) (by simp only [maxLen]; omega) (by decide) (fun x hx => fits_small (by revert x; decide)))
    rw [World.size_alloc] at K5
    have hi5 : insErr L 9 [1] = 3 := by
      unfold insErr
      rw [if_neg (by have := LL.out; omega), if_neg (by decide)]
      unfold joinErr
      rw [if_pos (by rw [LL.out]; decide)]
    rw [show insTo L 9 [1] = [] from by unfold insTo; rw [hi5]; rfl, hi5] at K5
    have X5' := Lib.hid (X4.out.alloc (.cells #[.int .i64 1] 2))
    clear hb p1 K4 X3 g1 d1 d2 lw hi5 X4
    go_wp2_with fail
    refine (K5.out).mono ?_
    rintro e w5 ⟨r5, rfl, p1, hb⟩
    have X5 := (X5'.out.below hb).cons p1
    clear hb p1 K5 X5'
    go_wp2_with fail
    obtain ⟨wc, ewc⟩ : ∃ wc, wc = w5.alloc (.cells #[.pointer r5] 27) := ⟨_, rfl⟩
    rw [← ewc] at X5 ⊢
    have X6 := Lib.hid X5
    have g1 := X6.out.get (.tail _ (.tail _ (.tail _ (.tail _ (.head _)))))
    have d1 := g1.c
    have l1 := g1.lt
    have S1 : Hid (Below wc.heap.size wc wc.drew) := (Below.refl _ _).drew
    have KA : Hid (∀ W, Below wc.heap.size wc W → Calls Try.prog 12 #[.agg #[.pointer r], .int .i64 0, .slice (some ⟨w.heap.size, 0, none⟩) 4096 4097, .int .i64 0] W fun e w' => e = .returned (.bool true) ∧ Below W.heap.size W w') := fun W hW => by
      have h := X6.out.below hW
      have := same_any W r (some ⟨w.heap.size, 0, none⟩) L 4097 _ 0 0 rfl (h.get (.tail _ (.tail _ (.tail _ (.tail _ (.head _)))))).r OL.out (h.see (.head _)) (Nat.le_refl _)
      rwa [LL.out] at this
    have KB : Hid (∀ W, Below wc.heap.size wc W → Calls Try.prog 27 #[.agg #[.pointer r]] W (DepthPost W L)) := fun W hW => rdepth_any W r L ((X6.out.below hW).get (.tail _ (.tail _ (.tail _ (.tail _ (.head _)))))).r
    clear X5 ewc g1 d3
    refine wp_region_plan [(false, 0), (false, 1), (false, 2), (false, 3), (true, 4), (false, 5), (false, 6), (false, 7), (true, 8), (false, 9), (false, 10), (false, 11), (false, 12), (false, 13), (false, 14), (false, 15), (false, 16), (false, 17), (false, 18), (false, 19), (false, 20), (false, 21), (false, 22), (false, 23), (false, 24), (false, 25), (false, 26)] (Below wc.heap.size wc) (by kernel_rfl) (by kernel_rfl) (S1.out) _ (by simp only [pickH, List.getElem?_toArray, List.getElem?_cons_succ, List.getElem?_cons_zero]; rfl) ?_
    repeat (refine HWalk.step (fun K hK => ?_); first | (apply held_yes; (focus rfl); (focus (intro w' hw; obtain ⟨hc', hf'⟩ := below_cells hw; go_simp; rfl)); (go_simp; refine hK _ ?_; clear hK K)) | (refine ite_no (by decide) ?_; go_simp; refine hK _ ?_; clear hK K))
    refine HWalk.mark ?_
    go_wp2_with fail
    refine (KA.out _ S1.out).mono ?_
    rintro e w6 ⟨rfl, hb⟩
    have B6 : Hid (Below wc.heap.size wc w6) := S1.out.trans hb
    clear hb KA
    go_wp2_with fail
    refine ⟨B6.out, ?_⟩
    repeat (refine HWalk.step (fun K hK => ?_); first | (apply held_yes; (focus rfl); (focus (intro w' hw; obtain ⟨hc', hf'⟩ := below_cells hw; go_simp; rfl)); (go_simp; refine hK _ ?_; clear hK K)) | (refine ite_no (by decide) ?_; go_simp; refine hK _ ?_; clear hK K))
    refine HWalk.mark ?_
    go_wp2_with fail
    refine (KB.out _ B6.out).mono ?_
    rintro e w7 ⟨d, rfl, f1, f2, hb⟩
    have B7 : Hid (Below wc.heap.size wc w7) := B6.out.trans (hb.mono B6.out.size)
    have hd := depth_16 f1 (by rw [LL.out]; omega)
    have hd' : decide ((16 : Int) < (d : Int)) = false := decide_eq_false hd
    clear hb KB f1 f2
    go_wp2_with fail
    refine ⟨B7.out, ?_⟩
    repeat (refine HWalk.step (fun K hK => ?_); first | (apply held_yes; (focus rfl); (focus (intro w' hw; obtain ⟨hc', hf'⟩ := below_cells hw; go_simp; rfl)); (go_simp; refine hK _ ?_; clear hK K)) | (refine ite_no (by decide) ?_; go_simp; refine hK _ ?_; clear hK K))
    have X7 := Lib.hid (X6.out.below B7.out)
    have g1 := X7.out.get (.tail _ (.tail _ (.tail _ (.tail _ (.head _)))))
    have d2 := g1.c
    have K8 := Lib.hid (rmove_any _ r L g1.r OL.out 0 2000 2096 ⟨by omega, by omega⟩)
    rw [(mov_rot LL.out).1, (mov_rot LL.out).2] at K8
    clear g1 d1 l1 X6 B6 B7 S1
    refine HWalk.done ?_
    go_wp2_with fail
    clear hd hd'
    refine (K8.out).mono ?_
    rintro e w8 ⟨s, rfl, p1, hb⟩
    have X8 := Lib.hid (((X7.out.below hb).cons p1).sub (ps' := [(w8.heap.size, s, L.drop 2000 ++ L.take 2000), (w1.heap.size, r, L)]) (fun v hv => by rcases List.mem_cons.1 hv with rfl | h; exact .head _; rcases List.mem_cons.1 h with rfl | h; exact (.tail _ (.tail _ (.tail _ (.tail _ (.tail _ (.head _)))))); cases h) (fun _ h => h))
    have g1 := X8.out.get (.head _)
    have d1 := g1.c
    have hA : Hid ((L.take 2000).length = 2000) := by show _ = _; rw [List.length_take, LL.out]; omega
    have hB : Hid ((L.drop 2000).length = 2096) := by show _ = _; rw [List.length_drop, LL.out]
    have hlS : Hid ((L.drop 2000 ++ L.take 2000).length = 4096) := by show _ = _; rw [List.length_append, hA.out, hB.out]
    have OS : Hid (LOk (L.drop 2000 ++ L.take 2000)) := by
      have := movTo_ok OL.out 0 2000 2096
      rwa [(mov_rot LL.out).2] at this
    have K9 := Lib.hid (rmove_any _ s _ g1.r OS.out 2096 2000 0 ⟨by omega, by omega⟩)
    rw [(mov_rot2 hA.out hB.out).1, (mov_rot2 hA.out hB.out).2, List.take_append_drop] at K9
    have hr : remTo (L.drop 2000 ++ L.take 2000) 1 4094 = [0, 4] := by
      rw [(rem_ends hlS.out).2, lf_app, if_pos (by rw [hB.out]; omega), lf_app, if_neg (by rw [hB.out]; omega), lf_drop, hB.out, lf_take (by omega), A1.out]
      rw [show 4095 - 2096 = 1999 from rfl, A2.out]
    have hr0 := (rem_ends hlS.out).1
    obtain ⟨S, eS⟩ : ∃ S, S = L.drop 2000 ++ L.take 2000 := ⟨_, rfl⟩
    rw [← eS] at X8 OS hlS hr hr0
    have HR := Lib.hid hr
    have HR0 := Lib.hid hr0
    clear hb p1 K8 X7 g1 d2 eS hr hr0 A1 A2 hA hB
    go_wp2_with fail
    refine (K9.out).mono ?_
    rintro e w9 ⟨t, rfl, p1, hb⟩
    have X9 := Lib.hid ((X8.out.below hb).cons p1)
    have g1 := X9.out.get (.tail _ (.head _))
    have d2 := g1.c
    have K10 := Lib.hid (rremove_any _ s _ g1.r OS.out 1 4094)
    rw [HR0.out, HR.out] at K10
    clear hb p1 K9 X8 g1 d1 HR HR0
    go_wp2_with fail
    refine (K10.out).mono ?_
    rintro e w10 ⟨u, rfl, p1, hb⟩
    have X10' := (X9.out.below hb).cons p1
    clear hb p1 K10 X9 d2
    go_wp2_with fail
    obtain ⟨wd, ewd⟩ : ∃ wd, wd = w10.alloc (.cells #[.pointer u] 27) := ⟨_, rfl⟩
    rw [← ewd] at X10' ⊢
    have X10 := Lib.hid X10'
    have gu := X10.out.get (.head _)
    have gt := X10.out.get (.tail _ (.head _))
    have gs := X10.out.get (.tail _ (.tail _ (.head _)))
    have d1 := gu.c
    have d2 := gt.c
    have d3 := gs.c
    have l1 := gu.lt
    have l2 := gt.lt
    have l3 := gs.lt
    have S1 : Hid (Below wd.heap.size wd wd.drew) := (Below.refl _ _).drew
    have KA : Hid (∀ W, Below wd.heap.size wd W → Calls Try.prog 12 #[.agg #[.pointer t], .int .i64 0, .slice (some ⟨w.heap.size, 0, none⟩) 4096 4097, .int .i64 0] W fun e w' => e = .returned (.bool true) ∧ Below W.heap.size W w') := fun W hW => by
      have h := X10.out.below hW
      have := same_any W t (some ⟨w.heap.size, 0, none⟩) L 4097 _ 0 0 rfl (h.get (.tail _ (.head _))).r OL.out (h.see (.head _)) (Nat.le_refl _)
      rwa [LL.out] at this
    have KB : Hid (∀ W, Below wd.heap.size wd W → Calls Try.prog 12 #[.agg #[.pointer u], .int .i64 0, .slice (some ⟨W.heap.size, 0, none⟩) 2 2, .int .i64 0] (W.alloc (.cells #[.int .i64 0, .int .i64 4] 2)) fun e w' => e = .returned (.bool true) ∧ Below W.heap.size W w') := fun W hW => same_lit W u [0, 4] 0 0 rfl ((X10.out.below hW).get (.head _)).r (LOk.of_chk (by decide))
    have KC : Hid (∀ W, Below wd.heap.size wd W → Calls Try.prog 27 #[.agg #[.pointer s]] W (DepthPost W S)) := fun W hW => rdepth_any W s S ((X10.out.below hW).get (.tail _ (.tail _ (.head _)))).r
    clear X10' ewd gu gt gs
    refine wp_region_plan [(false, 0), (false, 1), (false, 2), (false, 3), (true, 4), (false, 5), (false, 6), (false, 7), (false, 8), (true, 9), (true, 10), (false, 11), (false, 12), (false, 13), (false, 14), (false, 15), (false, 16), (false, 17), (false, 18), (true, 19), (false, 20), (false, 21)] (Below wd.heap.size wd) (by kernel_rfl) (by kernel_rfl) (S1.out) _ (by simp only [pickH, List.getElem?_toArray, List.getElem?_cons_succ, List.getElem?_cons_zero]; rfl) ?_
    repeat (refine HWalk.step (fun K hK => ?_); first | (apply held_yes; (focus rfl); (focus (intro w' hw; obtain ⟨hc', hf'⟩ := below_cells hw; go_simp; rfl)); (go_simp; refine hK _ ?_; clear hK K)) | (refine ite_no (by decide) ?_; go_simp; refine hK _ ?_; clear hK K))
    refine HWalk.mark ?_
    go_wp2_with fail
    refine (KA.out _ S1.out).mono ?_
    rintro e w11 ⟨rfl, hb⟩
    have B11 : Hid (Below wd.heap.size wd w11) := S1.out.trans hb
    clear hb KA
    go_wp2_with fail
    refine ⟨B11.out, ?_⟩
    repeat (refine HWalk.step (fun K hK => ?_); first | (apply held_yes; (focus rfl); (focus (intro w' hw; obtain ⟨hc', hf'⟩ := below_cells hw; go_simp; rfl)); (go_simp; refine hK _ ?_; clear hK K)) | (refine ite_no (by decide) ?_; go_simp; refine hK _ ?_; clear hK K))
    refine HWalk.mark ?_
    go_wp2_with fail
    have B12 : Hid (Below wd.heap.size wd (w11.alloc (.cells #[.int .i64 0, .int .i64 4] 2))) := B11.out.alloc B11.out.size _
    refine ⟨B12.out, ?_⟩
    repeat (refine HWalk.step (fun K hK => ?_); first | (apply held_yes; (focus rfl); (focus (intro w' hw; obtain ⟨hc', hf'⟩ := below_cells hw; go_simp; rfl)); (go_simp; refine hK _ ?_; clear hK K)) | (refine ite_no (by decide) ?_; go_simp; refine hK _ ?_; clear hK K))
    refine HWalk.mark ?_
    go_wp2_with fail
    refine (KB.out _ B11.out).mono ?_
    rintro e w12 ⟨rfl, hb⟩
    have B13 : Hid (Below wd.heap.size wd w12) := B11.out.trans (hb.mono B11.out.size)
    clear hb KB B12
    go_wp2_with fail
    refine ⟨B13.out, ?_⟩
    repeat (refine HWalk.step (fun K hK => ?_); first | (apply held_yes; (focus rfl); (focus (intro w' hw; obtain ⟨hc', hf'⟩ := below_cells hw; go_simp; rfl)); (go_simp; refine hK _ ?_; clear hK K)) | (refine ite_no (by decide) ?_; go_simp; refine hK _ ?_; clear hK K))
    refine HWalk.mark ?_
    go_wp2_with fail
    refine (KC.out _ B13.out).mono ?_
    rintro e w13 ⟨d, rfl, f1, f2, hb⟩
    have B14 : Hid (Below wd.heap.size wd w13) := B13.out.trans (hb.mono B13.out.size)
    have hd := depth_16 f1 (by rw [hlS.out]; omega)
    have hd' : decide ((16 : Int) < (d : Int)) = false := decide_eq_false hd
    clear hb KC f1 f2
    go_wp2_with fail
    refine ⟨B14.out, ?_⟩
    repeat (refine HWalk.step (fun K hK => ?_); first | (apply held_yes; (focus rfl); (focus (intro w' hw; obtain ⟨hc', hf'⟩ := below_cells hw; go_simp; rfl)); (go_simp; refine hK _ ?_; clear hK K)) | (refine ite_no (by decide) ?_; go_simp; refine hK _ ?_; clear hK K))
    have X14 := Lib.hid (((X10.out.below B14.out).alloc (.cells #[.int .i64 2305843009213693952, .int .i64 2305843009213693952] 2)).sub (ps' := []) (qs' := []) (fun _ h => nomatch h) (fun _ h => nomatch h))
    have K14 := Lib.hid (of_big w13 [2305843009213693952, 2305843009213693952] (by decide) (by decide) (by decide))
    clear d1 d2 d3 l1 l2 l3 X10 B11 B13 B14 S1
    refine HWalk.done ?_
    go_wp2_with fail
    clear hd hd'
    refine (K14.out).mono ?_
    rintro e w14 ⟨a, rfl, p1, hb⟩
    have X15 := Lib.hid ((X14.out.below hb).cons p1)
    have X15' := Lib.hid (X15.out.alloc (.cells #[.int .i64 1] 2))
    have K15 := Lib.hid (of_lit (w14.alloc (.cells #[.pointer a] 27)) [1] (by decide) (by decide) (by decide))
    rw [World.size_alloc] at K15
    clear hb p1 K14 X14 X15
    go_wp2_with fail
    refine (K15.out).mono ?_
    rintro e w15 ⟨b, rfl, p1, hb⟩
    have X16 := Lib.hid ((X15'.out.below hb).cons p1)
    have ga := X16.out.get (.tail _ (.head _))
    have gb := X16.out.get (.head _)
    have d1 := ga.c
    have d2 := gb.c
    have K16 := Lib.hid (rjoin_any _ a b [2305843009213693952, 2305843009213693952] [1] ga.r gb.r (LOk.of_chk (by decide)) (LOk.of_chk (by decide)))
    rw [show joinErr [2305843009213693952, 2305843009213693952] [1] = 13 from by decide, if_neg (by decide)] at K16
    clear hb p1 K15 X15' ga gb
    go_wp2_with fail
    refine (K16.out).mono ?_
    rintro e w16 ⟨y1, rfl, _, hb⟩
    have X17 := Lib.hid (X16.out.below hb)
    have ga := X17.out.get (.tail _ (.head _))
    have d1 := ga.c
    have X17' := Lib.hid (X17.out.alloc (.cells #[.int .i64 2305843009213693952] 2))
    have ga' := X17'.out.get (.tail _ (.head _))
    have K17 := Lib.hid (rinsert_any _ a [2305843009213693952, 2305843009213693952] ga'.r (LOk.of_chk (by decide)) 1 (some ⟨w16.heap.size, 0, none⟩) 1 (w16.heap.size + 1) [2305843009213693952] (litL w16 [2305843009213693952]) (by rw [World.size_alloc]; omega) (Nat.le_refl _) (by simp only [maxLen]; omega) (by decide) (fun x hx => by rcases List.mem_cons.1 hx with rfl | h; exact ⟨by decide, by decide⟩; cases h))
    rw [show insTo [2305843009213693952, 2305843009213693952] 1 [2305843009213693952] = [] from by decide, show insErr [2305843009213693952, 2305843009213693952] 1 [2305843009213693952] = 13 from by decide] at K17
    clear hb K16 X16 X17 ga ga' d2
    go_wp2_with fail
    refine (K17.out).mono ?_
    rintro e w17 ⟨y2, rfl, _, hb⟩
    have X18 := Lib.hid (X17'.out.below hb)
    have ga := X18.out.get (.tail _ (.head _))
    have d2 := ga.c
    have X18' := Lib.hid (X18.out.alloc (.cells #[.int .i64 0] 2))
    have ga' := X18'.out.get (.tail _ (.head _))
    have K18 := Lib.hid (rinsert_any _ a [2305843009213693952, 2305843009213693952] ga'.r (LOk.of_chk (by decide)) 1 (some ⟨w17.heap.size, 0, none⟩) 1 (w17.heap.size + 1) [0] (litL w17 [0]) (by rw [World.size_alloc]; omega) (Nat.le_refl _) (by simp only [maxLen]; omega) (by decide) (fun x hx => by rcases List.mem_cons.1 hx with rfl | h; exact ⟨by decide, by decide⟩; cases h))
    rw [show insErr [2305843009213693952, 2305843009213693952] 1 [0] = 0 from by decide] at K18
    clear hb K17 X17' X18 ga ga' d1
    go_wp2_with fail
    refine (K18.out).mono ?_
    rintro e w18 ⟨y3, rfl, _, hb⟩
    have X19 := Lib.hid (X18'.out.below hb)
    have ga := X19.out.get (.tail _ (.head _))
    have d1 := ga.c
    have K19 := Lib.hid (rset_any _ a [2305843009213693952, 2305843009213693952] ga.r (LOk.of_chk (by decide)) 0 2305843009213693951 ⟨by decide, by decide⟩ ⟨by decide, by decide⟩)
    rw [show rsetTo [2305843009213693952, 2305843009213693952] 0 2305843009213693951 = [2305843009213693951, 2305843009213693952] from by decide, show rsetErr [2305843009213693952, 2305843009213693952] 0 2305843009213693951 = 0 from by decide] at K19
    clear hb K18 X18' ga d2
    go_wp2_with fail
    refine (K19.out).mono ?_
    rintro e w19 ⟨c, rfl, p1, hb⟩
    have X20 := Lib.hid ((X19.out.below hb).cons p1)
    have gc := X20.out.get (.head _)
    have d2 := gc.c
    have K20 := Lib.hid (rset_any _ c [2305843009213693951, 2305843009213693952] gc.r (LOk.of_chk (by decide)) 1 2305843009213693953 ⟨by decide, by decide⟩ ⟨by decide, by decide⟩)
    rw [show rsetTo [2305843009213693951, 2305843009213693952] 1 2305843009213693953 = [] from by decide, show rsetErr [2305843009213693951, 2305843009213693952] 1 2305843009213693953 = 12 from by decide] at K20
    clear hb p1 K19 X19 gc d1
    go_wp2_with fail
    refine (K20.out).mono ?_
    rintro e w20 ⟨y4, rfl, p1, hb⟩
    have X21 := Lib.hid ((X20.out.below hb).cons p1)
    have gc := X21.out.get (.tail _ (.head _))
    have gb := X21.out.get (.tail _ (.tail _ (.head _)))
    have d1 := gc.c
    have d3 := gb.c
    have K21 := Lib.hid (rjoin_any _ c b [2305843009213693951, 2305843009213693952] [1] gc.r gb.r (LOk.of_chk (by decide)) (LOk.of_chk (by decide)))
    rw [show joinErr [2305843009213693951, 2305843009213693952] [1] = 0 from by decide, if_pos rfl] at K21
    clear hb p1 K20 X20 gc gb d2
    go_wp2_with fail
    refine (K21.out).mono ?_
    rintro e w21 ⟨dd, rfl, p1, hb⟩
    have X22 := Lib.hid ((X21.out.below hb).cons p1)
    have gd := X22.out.get (.head _)
    have d2 := gd.c
    have K22 := Lib.hid (rtotal_any _ dd _ gd.r)
    rw [show (([2305843009213693951, 2305843009213693952] ++ [1] : List Int)).sum = 4611686018427387904 from by decide] at K22
    clear hb p1 K21 X21 gd d1 d3
    go_wp2_with fail
    refine (K22.out).mono ?_
    rintro e w22 ⟨rfl, hb⟩
    have X23 := Lib.hid (X22.out.below hb)
    have K23 := Lib.hid (same_any w22 none none [] 0 0 0 0 rfl (Rp.nil _) LOk.nil (seesL_nil _ _) (Nat.zero_le _))
    clear hb K22 X22 d2
    go_wp2_with fail
    refine (K23.out).mono ?_
    rintro e w23 ⟨rfl, hb⟩
    have X24 := Lib.hid (X23.out.below hb)
    clear hb K23 X23
    go_wp2_with fail
    refine (lives_yes _).mono ?_
    rintro e w24 ⟨rfl, hb⟩
    have X25 := Lib.hid (X24.out.below hb)
    clear hb X24
    go_wp2_with fail
    go_ret
    exact ⟨rfl, X25.out.v.bl⟩
end Go.Proofs.Ytafgdknfhchnpaa

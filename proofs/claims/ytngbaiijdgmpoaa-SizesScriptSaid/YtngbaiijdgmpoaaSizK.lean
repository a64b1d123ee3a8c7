/-
  Law package 06: I.Of.
-/
import Derived.Test.YtngbaiijdgmpoaaSizJ
namespace Go.Proofs.Ytngbaiijdgmpoaa
open Go.RowKit
set_option linter.unusedVariables false
set_option linter.unusedSimpArgs false

theorem insR_end (R : Rws) {k : Nat} (h : k < R.length) : insR (R.take k) k [(rg R k).1] (rg R k).2 = R.take (k + 1) := by
  have hl : (R.take k).length = k := by rw [List.length_take]; omega
  unfold insR
  rw [List.take_of_length_le (by omega), List.drop_eq_nil_of_le (by omega), List.take_succ_eq_append_getElem h, ← rg_get R h]
  simp
theorem iins_one (R : Rws) (ok : IOk R) {k : Nat} (h : k < R.length) : iinsErr (R.take k) k [(rg R k).1] = 0 ∧ iinsTo (R.take k) k [(rg R k).1] (rg R k).2 = R.take (k + 1) := by
  have hl : (R.take k).length = k := by rw [List.length_take]; omega
  have hk := ok.len
  have hr := rg_fst R h
  have hp := ok.ps (rg R k).1 (by rw [hr]; exact lf_mem _ (by rw [szs_len]; exact h))
  have e : iinsErr (R.take k) k [(rg R k).1] = 0 := by
    unfold iinsErr
    rw [if_neg (by omega), if_neg (by rw [hl]; show ¬ 1024 < k + 1; omega)]
    have hz : ckZ (lf [(rg R k).1]) ([(rg R k).1] : List Int).length = 0 := by
      show ckZ (lf [(rg R k).1]) 1 = 0
      unfold ckZ
      have e1 : ckZ (lf [(rg R k).1]) 0 = 0 := rfl
      have e2 : lf [(rg R k).1] 0 = (rg R k).1 := rfl
      have e3 : psum (lf [(rg R k).1]) 0 = 0 := rfl
      rw [if_pos e1, e2, e3, if_neg (by omega), if_neg (by omega)]
    rw [hz, if_neg (by simp), if_neg]
    have hs := sum_take_succ (szs R) (k := k) (by rw [szs_len]; exact h)
    have hb := (sum_take_bd ok.ok (k + 1)).2
    rw [szs_take]
    have : ([(rg R k).1] : List Int).sum = (rg R k).1 := by simp
    rw [this, hr]
    omega
  refine ⟨e, ?_⟩
  unfold iinsTo
  rw [if_pos e, Int.toNat_natCast, insR_end R h]
theorem lit_i64 (w : World) (x : Int) : SeesL (w.alloc (.cells #[.int .i64 x] 2)) (w.heap.size + 1) (some ⟨w.heap.size, 0, none⟩) [x] := by
  have := Sees.lit w #[.int .i64 x] 2 (i64s (lf [x])) 1 rfl (fun j hj => by
    have h0 : j = 0 := Nat.lt_one_iff.1 hj
    subst h0; rfl)
  rw [World.size_alloc] at this
  exact this
theorem irow_fit {R : Rws} (ok : IOk R) {k : Nat} (h : k < R.length) : Fits (rg R k).1 := by
  have := ok.ps (rg R k).1 (by rw [rg_fst R h]; exact lf_mem _ (by rw [szs_len]; exact h))
  exact ⟨by omega, by omega⟩
set_option maxRecDepth 100000 in
set_option maxHeartbeats 6400000 in
theorem Of_any (w : World) (A : Option Addr) (m c : Nat) (f : Nat → Int) (g : Bool) (hs : Sees w w.heap.size A m (u8r f)) (hf : ∀ j, j < m → 0 ≤ f j ∧ f j ≤ 255) (hm : m ≤ maxLen) :
    Calls Try.prog 9 #[.agg #[.slice A m c, .bool g]] w fun e w' => ∃ a' A' S', e = .returned (ixv a' A' S'.length) ∧ Ix w' a' A' S' (irows f m g) ∧ Below w.heap.size w w' := by
  have OK := Lib.hid (irows_ok f m g)
  have b0 : Below w.heap.size w (w.alloc (.cells #[.slice A m c, .bool g] 24)) := (Below.refl _ w).alloc (Nat.le_refl _) _
  have V0 := Lib.hid ((LX.start b0).cons (Ix.new _))
  have KR := Lib.hid (Rows_any ((w.alloc (.cells #[.slice A m c, .bool g] 24)).alloc (.cells #[.pointer none, .slice none 0 0] 34)) A m c f g ((hs.below (b0.alloc (by rw [World.size_alloc]; omega) _)).more (by rw [World.size_alloc, World.size_alloc]; omega)) hf hm)
  clear hs hf b0
  rw [World.size_alloc] at V0
  generalize irows f m g = R at KR OK ⊢
  go_enter Try.func9, Try.ntmps9
  go_wp2_with fail
  refine (KR.out).mono ?_
  rintro e w1 ⟨A1, c1, rfl, p1, p2, p3, p4⟩
  have V1 := Lib.hid ((V0.out.below p2).add p1)
  have hlen := OK.out.len
  obtain ⟨n, en⟩ : ∃ n, n = R.length := ⟨_, rfl⟩
  have EN := Lib.hid en
  rw [← en] at hlen p3 ⊢
  clear p1 p2 en V0
  go_wp2_with fail
  refine (new_any w1).mono ?_
  rintro e w2 ⟨rfl, hb⟩
  have V2 := Lib.hid ((V1.out.below hb).cons (Ix.new _))
  have l0 := Nat.lt_of_lt_of_le (V1.out.get (.head _)).lt hb.size
  clear hb V1
  go_wp2_with fail
  go_loopw [5] (fun i wr => ∃ (k : Nat) (a : Option Addr) (A' : Option Addr) (S : Sp), k ≤ n ∧ i = .int .i64 k ∧ Hid (LX w wr [(w2.heap.size, a, A', S, R.take k), (w.heap.size + 1, none, none, [], [])] [(A1, R)])) (fun i _ => n - (intOf i).toNat)
  case atStart => exact ⟨0, none, none, [], Nat.zero_le _, rfl, V2⟩
  case round =>
    obtain ⟨k, a, A', S, hk, rfl, V3⟩ := hrel
    clear V2
    by_cases hlt : k < n
    · have hkR : k < R.length := by rw [← EN.out]; exact hlt
      obtain ⟨b, o, rfl, hb0, c0, c1⟩ := (V3.out.see (.head _)).cells hkR
      obtain ⟨x1, x2, f1, f2, ix, l1⟩ := V3.out.get (.head _)
      obtain ⟨i1, i2⟩ := iins_one R OK.out hkR
      have hp := irow_fit OK.out hkR
      have KI := Lib.hid (fun W Al (hW : Below wr.heap.size wr W) (h : SeesL W W.heap.size Al [(rg R k).1]) => iinsert_any W a A' S (R.take k) (ix.below hW) k Al 1 W.heap.size [(rg R k).1] (rg R k).2 ⟨by omega, by omega⟩ h (Nat.le_refl _) (Nat.le_refl _) (by unfold maxLen; decide) (by show 1 ≤ 1000000000000000; decide) (fun x hx => by rw [List.mem_singleton.1 hx]; exact hp))
      rw [i1, i2] at KI
      obtain ⟨vs, hvs⟩ : ∃ v, v = (rg R k).1 := ⟨_, rfl⟩
      obtain ⟨vk, hvk⟩ : ∃ v, v = (rg R k).2 := ⟨_, rfl⟩
      rw [← hvs] at c0 KI
      rw [← hvk] at c1 KI
      obtain ⟨R1, hR1⟩ : ∃ r, r = R.take (k + 1) := ⟨_, rfl⟩
      rw [← hR1] at KI
      have HR1 := Lib.hid hR1
      clear hvs hvk hkR i1 i2 hp ix hR1
      have S1 : Hid (Below wr.heap.size wr wr.drew) := (Below.refl _ _).drew
      have S2 : Hid (∀ o, Below wr.heap.size wr (wr.drew.alloc o)) := fun o => S1.out.alloc (Nat.le_refl _) _
      have S3 : Hid (∀ o o', Below wr.heap.size wr ((wr.drew.alloc o).alloc o')) := fun o o' => (S2.out o).alloc (by rw [World.size_alloc]; show wr.heap.size ≤ wr.heap.size + 1; omega) _
      have S4 : Hid (∀ o, Below wr.heap.size wr ((wr.alloc o).drew)) := fun o => ((Below.refl _ wr).alloc (Nat.le_refl _) _).drew
      have S6 : Hid (∀ o o', Below wr.heap.size wr (((wr.alloc o).alloc o').drew)) := fun o o' => (((Below.refl _ wr).alloc (Nat.le_refl _) _).alloc (by rw [World.size_alloc]; exact Nat.le_succ _) _).drew
      have L3 : Hid (SeesL (((wr.alloc (.cells #[.pointer none, .slice none 0 0] 34)).alloc (.cells #[.int .i64 vs] 2)).drew) (((wr.alloc (.cells #[.pointer none, .slice none 0 0] 34)).alloc (.cells #[.int .i64 vs] 2)).drew).heap.size (some ⟨wr.heap.size + 1, 0, none⟩) [vs]) := by
        have h1 := lit_i64 (wr.alloc (.cells #[.pointer none, .slice none 0 0] 34)) vs
        have h2 : (((wr.alloc (.cells #[.pointer none, .slice none 0 0] 34)).alloc (.cells #[.int .i64 vs] 2)).drew).heap.size = (wr.alloc (.cells #[.pointer none, .slice none 0 0] 34)).heap.size + 1 := World.size_alloc _ _
        rw [h2]
        rw [World.size_alloc] at h1 ⊢
        exact h1
      have V30 := Lib.hid (((V3.out.cons (Ix.new _)).alloc (.cells #[.int .i64 vs] 2)).drawn (w' := ((wr.alloc (.cells #[.pointer none, .slice none 0 0] 34)).alloc (.cells #[.int .i64 vs] 2)).drew) ⟨1, rfl⟩)
      have VD := Lib.hid (V3.out.drawn (w' := wr.drew) ⟨1, rfl⟩)
      go_wp2_with fail
      refine wp_region_tree ((PT.pures [0, 1, 2, 3, 4, 5, 6, 8, 9, 10, 11, 12] (.two 7 17 (.two 13 17 (.pures [14, 15, 16] (.mark 17 (.mark 18 (.pure 19 .fin)))) (.mark 13 (.pures [14, 15, 16] (.mark 18 (.pure 19 .fin))))) (.mark 7 (.mark 13 (.pures [14, 15, 16] (.mark 18 (.pure 19 .fin)))))))) (Below wr.heap.size wr) (by kernel_rfl) (by kernel_rfl) (S1.out) ?_
      repeat (refine HT.pure (by simp only [List.getElem?_toArray, List.getElem?_cons_succ, List.getElem?_cons_zero]; rfl) (fun K hK => ?_); first | (apply held_yes; (focus rfl); (focus (intro w' hw; obtain ⟨hc', hf'⟩ := below_cells hw; go_simp; rfl)); (go_simp; refine hK _ ?_; clear hK K)) | (refine ite_no (by decide) ?_; go_simp; refine hK _ ?_; clear hK K))
      refine HT.two (by simp only [List.getElem?_toArray, List.getElem?_cons_succ, List.getElem?_cons_zero]; rfl) (by simp only [List.getElem?_toArray, List.getElem?_cons_succ, List.getElem?_cons_zero]; rfl) ?_ ?_
      · go_wp2_with fail
        refine ⟨(S2.out _), ?_⟩
        repeat (refine HT.pure (by simp only [List.getElem?_toArray, List.getElem?_cons_succ, List.getElem?_cons_zero]; rfl) (fun K hK => ?_); first | (apply held_yes; (focus rfl); (focus (intro w' hw; obtain ⟨hc', hf'⟩ := below_cells hw; go_simp; rfl)); (go_simp; refine hK _ ?_; clear hK K)) | (refine ite_no (by decide) ?_; go_simp; refine hK _ ?_; clear hK K))
        refine HT.two (by simp only [List.getElem?_toArray, List.getElem?_cons_succ, List.getElem?_cons_zero]; rfl) (by simp only [List.getElem?_toArray, List.getElem?_cons_succ, List.getElem?_cons_zero]; rfl) ?_ ?_
        · go_wp2_with fail
          refine (KI.out _ _ (S2.out _) ((lit_i64 wr.drew vs).more (by rw [World.size_alloc]; exact Nat.le_refl _))).mono ?_
          rintro e w5 ⟨a5, A5, S5, rfl, q1, q2⟩
          have B5 : Hid (Below wr.heap.size wr w5) := (S2.out _).trans (q2.mono (by rw [World.size_alloc]; show wr.heap.size ≤ wr.heap.size + 1; omega))
          have B6 : Hid (∀ u, Below wr.heap.size wr (w5.alloc u)) := fun u => B5.out.alloc B5.out.size _
          have V6 := Lib.hid (((VD.out.alloc (.cells #[.int .i64 vs] 2)).below q2).cons q1)
          clear q1 q2
          go_wp2_with fail
          refine ⟨B5.out, ?_⟩
          repeat (refine HT.pure (by simp only [List.getElem?_toArray, List.getElem?_cons_succ, List.getElem?_cons_zero]; rfl) (fun K hK => ?_); first | (apply held_yes; (focus rfl); (focus (intro w' hw; obtain ⟨hc', hf'⟩ := below_cells hw; go_simp; rfl)); (go_simp; refine hK _ ?_; clear hK K)) | (refine ite_no (by decide) ?_; go_simp; refine hK _ ?_; clear hK K))
          refine HT.mark (by simp only [List.getElem?_toArray, List.getElem?_cons_succ, List.getElem?_cons_zero]; rfl) ?_
          go_wp2_with fail
          refine ⟨(B6.out _), ?_⟩
          repeat (refine HT.pure (by simp only [List.getElem?_toArray, List.getElem?_cons_succ, List.getElem?_cons_zero]; rfl) (fun K hK => ?_); first | (apply held_yes; (focus rfl); (focus (intro w' hw; obtain ⟨hc', hf'⟩ := below_cells hw; go_simp; rfl)); (go_simp; refine hK _ ?_; clear hK K)) | (refine ite_no (by decide) ?_; go_simp; refine hK _ ?_; clear hK K))
          refine HT.mark (by simp only [List.getElem?_toArray, List.getElem?_cons_succ, List.getElem?_cons_zero]; rfl) ?_
          go_wp2_with fail
          refine ⟨(B6.out _), ?_⟩
          repeat (refine HT.pure (by simp only [List.getElem?_toArray, List.getElem?_cons_succ, List.getElem?_cons_zero]; rfl) (fun K hK => ?_); first | (apply held_yes; (focus rfl); (focus (intro w' hw; obtain ⟨hc', hf'⟩ := below_cells hw; go_simp; rfl)); (go_simp; refine hK _ ?_; clear hK K)) | (refine ite_no (by decide) ?_; go_simp; refine hK _ ?_; clear hK K))
          -- V6 holds next, x and the result
          obtain ⟨x1, x2, f1, f2, ix6, l1⟩ := V6.out.get (.head _)
          obtain ⟨y1, y2, f3, f4, _, l2⟩ := V6.out.get (.tail _ (.head _))
          have V7 := Lib.hid (V6.out.put (.tail _ (.head _)) ix6 [(w.heap.size + 1, none, none, [], [])] (by
            intro z hz
            simp only [List.mem_cons, List.not_mem_nil, or_false] at hz
            subst hz
            exact ⟨.tail _ (.tail _ (.head _)), by show w.heap.size + 1 ≠ w2.heap.size; omega⟩))
          clear ix6
          refine HT.fin ?_
          go_wp2_with fail
          go_roundw
          case rel => exact ⟨k + 1, _, _, _, by omega, by go_num, by rw [← HR1.out]; exact V7⟩
          case measure => simp [intOf]; omega
        · go_wp2_with fail
          refine ⟨(S3.out _ _), ?_⟩
          repeat (refine HT.pure (by simp only [List.getElem?_toArray, List.getElem?_cons_succ, List.getElem?_cons_zero]; rfl) (fun K hK => ?_); first | (apply held_yes; (focus rfl); (focus (intro w' hw; obtain ⟨hc', hf'⟩ := below_cells hw; go_simp; rfl)); (go_simp; refine hK _ ?_; clear hK K)) | (refine ite_no (by decide) ?_; go_simp; refine hK _ ?_; clear hK K))
          refine HT.mark (by simp only [List.getElem?_toArray, List.getElem?_cons_succ, List.getElem?_cons_zero]; rfl) ?_
          go_wp2_with fail
          refine (KI.out _ _ (S3.out _ _) (((lit_i64 wr.drew vs).below ((Below.refl _ _).alloc (by rw [World.size_alloc]; exact Nat.le_refl _) _)).more (by rw [World.size_alloc, World.size_alloc]; exact Nat.le_succ _))).mono ?_
          rintro e w5 ⟨a5, A5, S5, rfl, q1, q2⟩
          have V5 : Hid (LX w w5 [(wr.heap.size + 1, none, none, [], []), (w2.heap.size, a, A', S, R.take k), (w.heap.size + 1, none, none, [], [])] [(some ⟨b, o, none⟩, R)]) := by
            have := ((VD.out.alloc (.cells #[.int .i64 vs] 2)).cons (Ix.new _)).below q2
            rw [World.size_alloc] at this
            exact this
          -- w5: behind the call, next's variable (wr.heap.size + 1) laid ahead of it; V5 holds it
          have B5 : Hid (Below wr.heap.size wr w5) := (S3.out _ _).trans (q2.mono (S3.out _ _).size)
          obtain ⟨y1, y2, y3, y4, l5⟩ := V5.out.get0 (.head _)
          have V6 := Lib.hid (V5.out.put (.head _) q1 [(w2.heap.size, a, A', S, R.take k), (w.heap.size + 1, none, none, [], [])] (by
            intro z hz
            simp only [List.mem_cons, List.not_mem_nil, or_false] at hz
            have h1 := (VD.out.get (.head _)).lt
            have h2 := (VD.out.get (.tail _ (.head _))).lt
            have h3 : wr.drew.heap.size = wr.heap.size := rfl
            rcases hz with rfl | rfl
            · refine ⟨.tail _ (.head _), ?_⟩
              show w2.heap.size ≠ _
              try rw [World.size_alloc]
              omega
            · refine ⟨.tail _ (.tail _ (.head _)), ?_⟩
              show w.heap.size + 1 ≠ _
              try rw [World.size_alloc]
              omega))
          have B6 : Hid (∀ v v', Below wr.heap.size wr ((w5.setCell ⟨wr.heap.size + 1, 0, none⟩ v).setCell ⟨wr.heap.size + 1, 1, none⟩ v')) := fun v v' => (B5.out.setCell (p := ⟨wr.heap.size + 1, 0, none⟩) (by show wr.heap.size ≤ wr.heap.size + 1; omega) v).setCell (p := ⟨wr.heap.size + 1, 1, none⟩) (by show wr.heap.size ≤ wr.heap.size + 1; omega) v'
          clear q1 q2
          go_wp2_with fail
          refine ⟨B5.out, ?_⟩
          repeat (refine HT.pure (by simp only [List.getElem?_toArray, List.getElem?_cons_succ, List.getElem?_cons_zero]; rfl) (fun K hK => ?_); first | (apply held_yes; (focus rfl); (focus (intro w' hw; obtain ⟨hc', hf'⟩ := below_cells hw; go_simp; rfl)); (go_simp; refine hK _ ?_; clear hK K)) | (refine ite_no (by decide) ?_; go_simp; refine hK _ ?_; clear hK K))
          refine HT.mark (by simp only [List.getElem?_toArray, List.getElem?_cons_succ, List.getElem?_cons_zero]; rfl) ?_
          go_wp2_with fail
          refine ⟨(B6.out _ _), ?_⟩
          repeat (refine HT.pure (by simp only [List.getElem?_toArray, List.getElem?_cons_succ, List.getElem?_cons_zero]; rfl) (fun K hK => ?_); first | (apply held_yes; (focus rfl); (focus (intro w' hw; obtain ⟨hc', hf'⟩ := below_cells hw; go_simp; rfl)); (go_simp; refine hK _ ?_; clear hK K)) | (refine ite_no (by decide) ?_; go_simp; refine hK _ ?_; clear hK K))
          -- V6 holds next, x and the result
          obtain ⟨x1, x2, f1, f2, ix6, l1⟩ := V6.out.get (.head _)
          obtain ⟨y1, y2, f3, f4, _, l2⟩ := V6.out.get (.tail _ (.head _))
          have V7 := Lib.hid (V6.out.put (.tail _ (.head _)) ix6 [(w.heap.size + 1, none, none, [], [])] (by
            intro z hz
            simp only [List.mem_cons, List.not_mem_nil, or_false] at hz
            subst hz
            exact ⟨.tail _ (.tail _ (.head _)), by show w.heap.size + 1 ≠ w2.heap.size; omega⟩))
          clear ix6
          refine HT.fin ?_
          go_wp2_with fail
          go_roundw
          case rel => exact ⟨k + 1, _, _, _, by omega, by go_num, by rw [← HR1.out]; exact V7⟩
          case measure => simp [intOf]; omega
      · go_wp2_with fail
        refine ⟨(S4.out _), ?_⟩
        repeat (refine HT.pure (by simp only [List.getElem?_toArray, List.getElem?_cons_succ, List.getElem?_cons_zero]; rfl) (fun K hK => ?_); first | (apply held_yes; (focus rfl); (focus (intro w' hw; obtain ⟨hc', hf'⟩ := below_cells hw; go_simp; rfl)); (go_simp; refine hK _ ?_; clear hK K)) | (refine ite_no (by decide) ?_; go_simp; refine hK _ ?_; clear hK K))
        refine HT.mark (by simp only [List.getElem?_toArray, List.getElem?_cons_succ, List.getElem?_cons_zero]; rfl) ?_
        go_wp2_with fail
        refine ⟨(S6.out _ _), ?_⟩
        repeat (refine HT.pure (by simp only [List.getElem?_toArray, List.getElem?_cons_succ, List.getElem?_cons_zero]; rfl) (fun K hK => ?_); first | (apply held_yes; (focus rfl); (focus (intro w' hw; obtain ⟨hc', hf'⟩ := below_cells hw; go_simp; rfl)); (go_simp; refine hK _ ?_; clear hK K)) | (refine ite_no (by decide) ?_; go_simp; refine hK _ ?_; clear hK K))
        refine HT.mark (by simp only [List.getElem?_toArray, List.getElem?_cons_succ, List.getElem?_cons_zero]; rfl) ?_
        go_wp2_with fail
        refine (KI.out _ _ (S6.out _ _) L3.out).mono ?_
        rintro e w5 ⟨a5, A5, S5, rfl, q1, q2⟩
        have V5 : Hid (LX w w5 [(wr.heap.size, none, none, [], []), (w2.heap.size, a, A', S, R.take k), (w.heap.size + 1, none, none, [], [])] [(some ⟨b, o, none⟩, R)]) := V30.out.below q2
        -- w5: behind the call, next's variable (wr.heap.size) laid ahead of it; V5 holds it
        have B5 : Hid (Below wr.heap.size wr w5) := (S6.out _ _).trans (q2.mono (S6.out _ _).size)
        obtain ⟨y1, y2, y3, y4, l5⟩ := V5.out.get0 (.head _)
        have V6 := Lib.hid (V5.out.put (.head _) q1 [(w2.heap.size, a, A', S, R.take k), (w.heap.size + 1, none, none, [], [])] (by
          intro z hz
          simp only [List.mem_cons, List.not_mem_nil, or_false] at hz
          have h1 := (VD.out.get (.head _)).lt
          have h2 := (VD.out.get (.tail _ (.head _))).lt
          have h3 : wr.drew.heap.size = wr.heap.size := rfl
          rcases hz with rfl | rfl
          · refine ⟨.tail _ (.head _), ?_⟩
            show w2.heap.size ≠ _
            try rw [World.size_alloc]
            omega
          · refine ⟨.tail _ (.tail _ (.head _)), ?_⟩
            show w.heap.size + 1 ≠ _
            try rw [World.size_alloc]
            omega))
        have B6 : Hid (∀ v v', Below wr.heap.size wr ((w5.setCell ⟨wr.heap.size, 0, none⟩ v).setCell ⟨wr.heap.size, 1, none⟩ v')) := fun v v' => (B5.out.setCell (p := ⟨wr.heap.size, 0, none⟩) (by show wr.heap.size ≤ wr.heap.size; omega) v).setCell (p := ⟨wr.heap.size, 1, none⟩) (by show wr.heap.size ≤ wr.heap.size; omega) v'
        clear q1 q2
        go_wp2_with fail
        refine ⟨B5.out, ?_⟩
        repeat (refine HT.pure (by simp only [List.getElem?_toArray, List.getElem?_cons_succ, List.getElem?_cons_zero]; rfl) (fun K hK => ?_); first | (apply held_yes; (focus rfl); (focus (intro w' hw; obtain ⟨hc', hf'⟩ := below_cells hw; go_simp; rfl)); (go_simp; refine hK _ ?_; clear hK K)) | (refine ite_no (by decide) ?_; go_simp; refine hK _ ?_; clear hK K))
        refine HT.mark (by simp only [List.getElem?_toArray, List.getElem?_cons_succ, List.getElem?_cons_zero]; rfl) ?_
        go_wp2_with fail
        refine ⟨(B6.out _ _), ?_⟩
        repeat (refine HT.pure (by simp only [List.getElem?_toArray, List.getElem?_cons_succ, List.getElem?_cons_zero]; rfl) (fun K hK => ?_); first | (apply held_yes; (focus rfl); (focus (intro w' hw; obtain ⟨hc', hf'⟩ := below_cells hw; go_simp; rfl)); (go_simp; refine hK _ ?_; clear hK K)) | (refine ite_no (by decide) ?_; go_simp; refine hK _ ?_; clear hK K))
        -- V6 holds next, x and the result
        obtain ⟨x1, x2, f1, f2, ix6, l1⟩ := V6.out.get (.head _)
        obtain ⟨y1, y2, f3, f4, _, l2⟩ := V6.out.get (.tail _ (.head _))
        have V7 := Lib.hid (V6.out.put (.tail _ (.head _)) ix6 [(w.heap.size + 1, none, none, [], [])] (by
          intro z hz
          simp only [List.mem_cons, List.not_mem_nil, or_false] at hz
          subst hz
          exact ⟨.tail _ (.tail _ (.head _)), by show w.heap.size + 1 ≠ w2.heap.size; omega⟩))
        clear ix6
        refine HT.fin ?_
        go_wp2_with fail
        go_roundw
        case rel => exact ⟨k + 1, _, _, _, by omega, by go_num, by rw [← HR1.out]; exact V7⟩
        case measure => simp [intOf]; omega
    · obtain rfl : k = n := by omega
      have hR : R.take k = R := List.take_of_length_le (by rw [← EN.out]; exact Nat.le_refl _)
      rw [hR] at V3
      obtain ⟨x1, x2, f1, f2, ix, l1⟩ := V3.out.get (.head _)
      obtain ⟨y1, y2, y3, y4, l2⟩ := V3.out.get0 (.tail _ (.head _))
      have V4 := Lib.hid (V3.out.put1 (.tail _ (.head _)) ix)
      obtain ⟨z1, z2, _, _, _, _⟩ := V4.out.get (.head _)
      clear ix hR
      go_wp2_with fail
      exact bodyPost_ret (v := ixv a A' S.length) (by simp [results, Try.results9, go_sem, z1, z2]) rfl ⟨a, A', S, rfl, (V4.out.get (.head _)).ix, V4.out.bl⟩
end Go.Proofs.Ytngbaiijdgmpoaa

/-
  SizesKnown.
-/
import Derived.Test.YtngbaiijdgmpoaaSizKp
namespace Go.Proofs.Ytngbaiijdgmpoaa
open Go.RowKit
set_option linter.unusedVariables false
set_option linter.unusedSimpArgs false

theorem infoI64 : (Try.prog.info? 2).map (fun i => (i.zero, i.size, i.bytes)) = some (some (.int .i64 0), 1, 8) := by kernel_rfl
theorem make_i64 (n : Nat) (x : Int) (hx : x = (n : Int)) (hn : n ≤ 1000000) (W : World) :
    (Instr.makeSlice 54 (.int .i64 x) (.int .i64 x)).run Try.prog W = .ok (.slice (some ⟨W.heap.size, 0, none⟩) n n) (W.alloc (.cells (madeCells #[.int .i64 0] n) 2)) := by
  subst hx
  exact run_make_row' 54 2 (.int .i64 0) 8 Try.underlying54 infoI64 rfl .i64 .i64 n (by omega) (by omega) W
theorem zs3_fit (n : Nat) : ∀ x ∈ zs3 n, Fits x := fun x hx => by
  obtain ⟨j, hj, rfl⟩ := List.mem_iff_getElem.1 hx
  rw [← lf_get _ hj, zs3_lf n j (by rw [zs3_len] at hj; exact hj)]
  unfold m3
  constructor <;> omega
theorem kins1 (W : World) (l : Option Addr) (h : SeesL W W.heap.size l (zs3 1024)) : Calls Try.prog 20 #[ixv none none 0, .int .i64 0, .slice l 1024 1025, .bool false] W (IPost W (rk 0) 0) := by
  have := iinsert_any W none none [] [] (Ix.new W) 0 l 1025 W.heap.size (zs3 1024) false ⟨by omega, by omega⟩ h (Nat.le_refl _) (by rw [zs3_len]; omega) (by simp only [maxLen]; omega) (by rw [zs3_len]; omega) (zs3_fit _)
  rw [iins_rk0.1, iins_rk0.2, zs3_len] at this
  exact this
theorem kins2 (W : World) (l : Option Addr) (h : SeesL W W.heap.size l (zs3 1025)) : Calls Try.prog 20 #[ixv none none 0, .int .i64 0, .slice l 1025 1025, .bool false] W (IPost W [] 3) := by
  have := iinsert_any W none none [] [] (Ix.new W) 0 l 1025 W.heap.size (zs3 1025) false ⟨by omega, by omega⟩ h (Nat.le_refl _) (by rw [zs3_len]; omega) (by simp only [maxLen]; omega) (by rw [zs3_len]; omega) (zs3_fit _)
  have e : iinsTo [] 0 (zs3 1025) false = [] := by unfold iinsTo; rw [iins_long]; rfl
  rw [e, iins_long, zs3_len] at this
  exact this
theorem kins3 (W : World) (a A : Option Addr) (S : Sp) (g : Ix W a A S (rk 0)) (l : Option Addr) (h : SeesL W W.heap.size l (zs3 1)) : Calls Try.prog 20 #[ixv a A S.length, .int .i64 0, .slice l 1 1025, .bool true] W (IPost W [] 3) := by
  have := iinsert_any W a A S (rk 0) g 0 l 1025 W.heap.size (zs3 1) true ⟨by omega, by omega⟩ h (Nat.le_refl _) (by rw [zs3_len]; omega) (by simp only [maxLen]; omega) (by rw [zs3_len]; omega) (zs3_fit _)
  have e0 : iinsErr (rk 0) 0 (zs3 1) = 3 := by unfold iinsErr; rw [if_neg (by rw [rk_len]; omega), if_pos (by rw [rk_len, zs3_len]; omega)]
  have e : iinsTo (rk 0) 0 (zs3 1) true = [] := by unfold iinsTo; rw [e0]; rfl
  rw [e, e0, zs3_len] at this
  exact this
theorem kins4 (W : World) (a A : Option Addr) (S : Sp) (g : Ix W a A S (rk 0)) : Calls Try.prog 20 #[ixv a A S.length, .int .i64 1024, .slice none 0 0, .bool true] W (IPost W (rk 0) 0) := by
  have := iinsert_any W a A S (rk 0) g 1024 none 0 W.heap.size [] true ⟨by omega, by omega⟩ (fun h => absurd h (by simp)) (Nat.le_refl _) (Nat.le_refl _) (by simp only [maxLen]; omega) (by simp) (fun x hx => (nomatch hx))
  rw [(iins_nil 0).1, (iins_nil 0).2] at this
  exact this
theorem kset (W : World) (a A : Option Addr) (S : Sp) (k : Nat) (g : Ix W a A S (rk k)) (h : k < 1024) (he : k % 2 = 0) : Calls Try.prog 22 #[ixv a A S.length, .int .i64 k, .int .i64 7, .bool true] W (IPost W (rk (k + 2)) 0) := by
  have := iset_any W a A S (rk k) g k 7 true ⟨by omega, by omega⟩ ⟨by omega, by omega⟩
  rw [(rk_iset h he).1, (rk_iset h he).2] at this
  exact this
def bigL : List Int := [2305843009213693952, 2305843009213693951, 1]
def bigR : Rws := [(2305843009213693952, true), (2305843009213693951, true), (1, true)]
def bigQ : Rws := [(2305843009213693951, false), (2305843009213693951, true), (1, true)]
def bigQ2 : Rws := [(2305843009213693951, false), (2305843009213693951, true), (2, true)]
theorem kb (W : World) (l : Option Addr) (L : List Int) (R : Rws) (er : Int) (hl : L.length ≤ 10) (h : SeesL W W.heap.size l L) (hf : ∀ x ∈ L, Fits x) (e1 : iinsErr [] 0 L = er) (e2 : iinsTo [] 0 L true = R) : Calls Try.prog 20 #[ixv none none 0, .int .i64 0, .slice l L.length L.length, .bool true] W (IPost W R er) := by
  have := iinsert_any W none none [] [] (Ix.new W) 0 l L.length W.heap.size L true ⟨by omega, by omega⟩ h (Nat.le_refl _) (Nat.le_refl _) (by simp only [maxLen]; omega) (by omega) hf
  rw [e1, e2] at this
  exact this
theorem kunk1 (W : World) (a A : Option Addr) (S : Sp) (g : Ix W a A S (rk 1024)) : Calls Try.prog 18 #[ixv a A S.length, .int .i64 1000, .int .i64 1024] W fun e w' => e = .returned (.tuple #[.int .i64 1001, .int .i64 0]) ∧ Below W.heap.size W w' :=
  liv6 W a A S (rk 1024) g 1000 1024 1001 0 ⟨by omega, by omega⟩ ⟨by omega, by omega⟩ 1001 (by rw [rk_len]; omega) (by omega) (fun j h1 h2 => by
    have : j = 1000 := by omega
    subst this
    rw [rk_kn _ (by omega)]
    exact decide_eq_true (by omega)) (by rw [rk_kn _ (by omega)]; exact decide_eq_false (by omega)) (by simp) (by simp)
def rkm : Rws := movR (rk 1024) 0 1 1023
theorem rkm_len : rkm.length = 1024 := by unfold rkm; rw [len_movR _ (by rw [rk_len]; omega) (by rw [rk_len]; omega), rk_len]
theorem rkm_kn0 : kn rkm 0 = false := by
  unfold rkm
  rw [kn_movR _ (by rw [rk_len]; omega) (by rw [rk_len]; omega)]
  unfold insF remF
  rw [if_pos (by omega), if_neg (by omega), rk_kn _ (by omega)]
  simp
theorem rkm_kn1 : kn rkm 1023 = true := by
  unfold rkm
  rw [kn_movR _ (by rw [rk_len]; omega) (by rw [rk_len]; omega)]
  have : kn (rk 1024) (0 + (1023 - 1023)) = true := by rw [rk_kn _ (by omega)]; exact decide_eq_true (by omega)
  rw [this]
  simp
theorem kmov (W : World) (a A : Option Addr) (S : Sp) (g : Ix W a A S (rk 1024)) : Calls Try.prog 23 #[ixv a A S.length, .int .i64 0, .int .i64 1, .int .i64 1023] W (IPost W rkm 0) :=
  imove_ok W a A S (rk 1024) g 0 1 1023 (by rw [rk_len]; omega) (by rw [rk_len]; omega)
theorem kunk2 (W : World) (a A : Option Addr) (S : Sp) (g : Ix W a A S rkm) : Calls Try.prog 18 #[ixv a A S.length, .int .i64 0, .int .i64 1024] W fun e w' => e = .returned (.tuple #[.int .i64 0, .int .i64 0]) ∧ Below W.heap.size W w' :=
  liv6 W a A S rkm g 0 1024 0 0 ⟨by omega, by omega⟩ ⟨by omega, by omega⟩ 0 (by rw [rkm_len]; omega) (by omega) (fun j h1 h2 => by omega) rkm_kn0 (by simp) (by simp)
theorem kkno (W : World) (a A : Option Addr) (S : Sp) (g : Ix W a A S rkm) : Calls Try.prog 15 #[ixv a A S.length, .int .i64 1023] W fun e w' => e = .returned (.tuple #[.bool true, .int .i64 0]) ∧ Below W.heap.size W w' := by
  have := iknown_any W a A S rkm g 1023 ⟨by omega, by omega⟩
  have e1 : knVal rkm 1023 = true := by unfold knVal; rw [rkm_len, if_neg (by omega)]; exact rkm_kn1
  have e2 : knErr rkm 1023 = 0 := by unfold knErr; rw [rkm_len, if_neg (by omega)]
  rw [e1, e2] at this
  exact this
def bL1 (w : World) : World := w.alloc (.cells #[.int .i64 2305843009213693952, .int .i64 2305843009213693951, .int .i64 1] 2)
theorem kb1 (w : World) : Calls Try.prog 20 #[ixv none none 0, .int .i64 0, .slice (some ⟨w.heap.size, 0, none⟩) 3 3, .bool true] (w.alloc (.cells #[.int .i64 2305843009213693952, .int .i64 2305843009213693951, .int .i64 1] 2)) (IPost (w.alloc (.cells #[.int .i64 2305843009213693952, .int .i64 2305843009213693951, .int .i64 1] 2)) bigR 0) :=
  kb _ _ bigL bigR 0 (by decide) (litL w bigL) (by unfold Fits; decide) (by decide) (by decide)
theorem kb2 (w : World) : Calls Try.prog 20 #[ixv none none 0, .int .i64 0, .slice (some ⟨w.heap.size, 0, none⟩) 3 3, .bool true] (w.alloc (.cells #[.int .i64 2305843009213693952, .int .i64 2305843009213693952, .int .i64 1] 2)) (IPost (w.alloc (.cells #[.int .i64 2305843009213693952, .int .i64 2305843009213693952, .int .i64 1] 2)) [] 13) :=
  kb _ _ [2305843009213693952, 2305843009213693952, 1] [] 13 (by decide) (litL w [2305843009213693952, 2305843009213693952, 1]) (by unfold Fits; decide) (by decide) (by decide)
theorem kb3 (w : World) : Calls Try.prog 20 #[ixv none none 0, .int .i64 0, .slice (some ⟨w.heap.size, 0, none⟩) 3 3, .bool true] (w.alloc (.cells #[.int .i64 2305843009213693952, .int .i64 2305843009213693952, .int .i64 0] 2)) (IPost (w.alloc (.cells #[.int .i64 2305843009213693952, .int .i64 2305843009213693952, .int .i64 0] 2)) [] 12) :=
  kb _ _ [2305843009213693952, 2305843009213693952, 0] [] 12 (by decide) (litL w [2305843009213693952, 2305843009213693952, 0]) (by unfold Fits; decide) (by decide) (by decide)
theorem kc1 (W : World) (a A : Option Addr) (S : Sp) (g : Ix W a A S bigR) : Calls Try.prog 22 #[ixv a A S.length, .int .i64 2, .int .i64 2, .bool true] W (IPost W [] 13) :=
  (iset_any W a A S bigR g 2 2 true ⟨by omega, by omega⟩ ⟨by omega, by omega⟩).mono fun e w' hp => hp.cast (by decide) (by decide)
theorem kc2 (W : World) (a A : Option Addr) (S : Sp) (g : Ix W a A S bigR) : Calls Try.prog 22 #[ixv a A S.length, .int .i64 0, .int .i64 2305843009213693951, .bool false] W (IPost W bigQ 0) :=
  (iset_any W a A S bigR g 0 2305843009213693951 false ⟨by omega, by omega⟩ ⟨by omega, by omega⟩).mono fun e w' hp => hp.cast (by decide) (by decide)
theorem kc3 (W : World) (a A : Option Addr) (S : Sp) (g : Ix W a A S bigQ) : Calls Try.prog 22 #[ixv a A S.length, .int .i64 2, .int .i64 2, .bool true] W (IPost W bigQ2 0) :=
  (iset_any W a A S bigQ g 2 2 true ⟨by omega, by omega⟩ ⟨by omega, by omega⟩).mono fun e w' hp => hp.cast (by decide) (by decide)
theorem kc4 (W : World) (a A : Option Addr) (S : Sp) (l : Option Addr) (g : Ix W a A S bigQ) (h : SeesL W W.heap.size l [1, 1]) : Calls Try.prog 20 #[ixv a A S.length, .int .i64 3, .slice l 2 2, .bool false] W (IPost W [] 13) :=
  (iinsert_any W a A S bigQ g 3 l 2 W.heap.size [1, 1] false ⟨by omega, by omega⟩ h (Nat.le_refl _) (Nat.le_refl _) (by simp only [maxLen]; omega) (by decide) (by unfold Fits; decide)).mono fun e w' hp => hp.cast (by decide) (by decide)
def Dep (q : Nat) (a A : Option Addr) (S : Sp) : Prop := q = q ∧ a = a ∧ A = A ∧ S = S
theorem Dep.yes (q : Nat) (a A : Option Addr) (S : Sp) : Dep q a A S := ⟨rfl, rfl, rfl, rfl⟩
/-- Behind a region with several orders: what they come to. -/
theorem wp_join {P : Program} {c : Code} {Q : Exit → Act → World → Prop} {a : Act} {w : World} {T : Nat → Option Addr → Option Addr → Sp → Act} (X : Nat → Option Addr → Option Addr → Sp → World → Prop)
    (h1 : c.wp P (fun e x y => e = .normal ∧ ∃ q a A S, x = T q a A S ∧ X q a A S y) a w) (h2 : ∀ q a A S y, X q a A S y → Q .normal (T q a A S) y) : c.wp P Q a w :=
  Code.wp_mono (fun e x y h => by
    obtain ⟨rfl, q, a, A, S, rfl, h⟩ := h
    exact h2 q a A S y h) h1
set_option maxRecDepth 100000 in
set_option maxHeartbeats 12800000 in
theorem law_known (w : World) : Calls Try.prog 5 #[] w fun e w' => e = .returned (.bool true) ∧ Below w.heap.size w w' := by
  have hmk := make_i64 1025 1025 (by omega) (by omega) w
  go_enter Try.func5, Try.ntmps5
  go_wp2_with fail
  clear hmk
  have hst : Hid ((w.alloc (.cells (madeCells #[.int .i64 0] 1025) 2)).rowIs w.heap.size 2 1025 (fun j => .int .i64 (if j < 0 then m3 j else 0))) := World.rowIs_made w _ 1025 _
  have hbl : Hid (Below w.heap.size w (w.alloc (.cells (madeCells #[.int .i64 0] 1025) 2))) := (Below.refl _ w).alloc (Nat.le_refl _) _
  go_loopw [2] (fun i wr => ∃ k : Nat, k ≤ 1025 ∧ i = .int .i64 k ∧ Hid (wr.rowIs w.heap.size 2 1025 (fun j => .int .i64 (if j < k then m3 j else 0))) ∧ Hid (Below w.heap.size w wr)) (fun i _ => 1025 - (intOf i).toNat)
  case atStart => exact ⟨0, Nat.zero_le _, rfl, hst, hbl⟩
  case round =>
    obtain ⟨k, hk, rfl, hR, hB⟩ := hrel
    clear hst hbl
    by_cases hlt : k < 1025
    · have hc := hR.out.cell (i := k) hlt
      rw [if_neg (Nat.lt_irrefl k)] at hc
      have hf := hR.out.frozen k
      have hki : (k : Int) < 1025 := by omega
      have hmod : 1 + (k : Int) % 3 = m3 k := rfl
      go_wp2_with fail
      go_roundw
      case rel =>
        refine ⟨k + 1, by omega, by go_num, (hR.out.set k _).congr fun j hj => ?_, ?_⟩
        · show (if j = k then _ else _) = _
          by_cases c : j = k
          · subst c; rw [if_pos rfl, if_pos (by omega)]
          · rw [if_neg c]
            by_cases d : j < k
            · rw [if_pos d, if_pos (by omega)]
            · rw [if_neg d, if_neg (by omega)]
        · exact hB.out.setCell (p := ⟨w.heap.size, k, none⟩) (Nat.le_refl _) _
      case measure => simp [intOf]; omega
    obtain rfl : k = 1025 := by omega
    have SL : Hid (∀ W n, Below wr.heap.size wr W → n ≤ 1025 → SeesL W W.heap.size (some ⟨w.heap.size, 0, none⟩) (zs3 n)) := fun W n hW hn _ => by
      rw [zs3_len]
      refine ⟨w.heap.size, 0, rfl, Nat.lt_of_lt_of_le hR.out.lt hW.size, fun j hj => ?_⟩
      have := hR.out.cell (i := j) (by omega)
      rw [if_pos (by omega)] at this
      rw [Nat.zero_add, i64s_at, zs3_lf _ _ hj]
      exact (hW.cell (p := ⟨w.heap.size, j, none⟩) hR.out.lt).trans this
    have E1 := slL_h (some ⟨w.heap.size, 0, none⟩) 1025 1025 1024 (by omega)
    have E3 := slL_h (some ⟨w.heap.size, 0, none⟩) 1025 1025 1 (by omega)
    have D1 : Hid (Below wr.heap.size wr wr.drew) := (Below.refl _ _).drew
    have BE : Hid (∀ o, Below wr.heap.size wr ((wr.alloc o).drew)) := fun o => ((Below.refl _ wr).alloc (Nat.le_refl _) _).drew
    have LB := Lib.hid (LX.start hB.out)
    clear hR hk hlt
    go_wp2_with fail
    apply wp_join (X := fun q a A S y => LX w y [(q, a, A, S, rk 0)] [] ∧ Below wr.heap.size wr y)
    case h1 =>
      refine wp_region_tree ((PT.pures [1, 2] (.two 0 7 (.two 3 7 (.pures [4, 5, 6] (.mark 7 (.mark 8 (.pure 9 .fin)))) (.mark 3 (.pures [4, 5, 6] (.mark 8 (.pure 9 .fin))))) (.mark 0 (.mark 3 (.pures [4, 5, 6] (.mark 8 (.pure 9 .fin)))))))) (Below wr.heap.size wr) (by kernel_rfl) (by kernel_rfl) (D1.out) ?_
      repeat (refine HT.pure (by simp only [List.getElem?_toArray, List.getElem?_cons_succ, List.getElem?_cons_zero]; rfl) (fun K hK => ?_); first | (apply held_yes; (focus rfl); (focus (intro w' hw; obtain ⟨hc', hf'⟩ := below_cells hw; go_simp; rfl)); (go_simp; refine hK _ ?_; clear hK K)) | (refine ite_no (by decide) ?_; go_simp; refine hK _ ?_; clear hK K))
      refine HT.two (by simp only [List.getElem?_toArray, List.getElem?_cons_succ, List.getElem?_cons_zero]; rfl) (by simp only [List.getElem?_toArray, List.getElem?_cons_succ, List.getElem?_cons_zero]; rfl) ?_ ?_
      · go_wp2_with fail
        refine (new_any _).mono ?_
        rintro e wa ⟨rfl, hb⟩
        have BA : Hid (Below wr.heap.size wr wa) := D1.out.trans hb
        have BD : Hid (∀ o, Below wr.heap.size wr (wa.alloc o)) := fun o => BA.out.alloc BA.out.size _
        clear hb
        go_wp2_with fail
        refine ⟨BA.out, ?_⟩
        repeat (refine HT.pure (by simp only [List.getElem?_toArray, List.getElem?_cons_succ, List.getElem?_cons_zero]; rfl) (fun K hK => ?_); first | (apply held_yes; (focus rfl); (focus (intro w' hw; obtain ⟨hc', hf'⟩ := below_cells hw; go_simp; rfl)); (go_simp; refine hK _ ?_; clear hK K)) | (refine ite_no (by decide) ?_; go_simp; refine hK _ ?_; clear hK K))
        refine HT.two (by simp only [List.getElem?_toArray, List.getElem?_cons_succ, List.getElem?_cons_zero]; rfl) (by simp only [List.getElem?_toArray, List.getElem?_cons_succ, List.getElem?_cons_zero]; rfl) ?_ ?_
        · go_wp2_with fail
          refine (kins1 wa _ (SL.out wa 1024 BA.out (by omega))).mono ?_
          rintro e wb ⟨a, A, S, rfl, p, hb⟩
          have BB : Hid (Below wr.heap.size wr wb) := BA.out.trans (hb.mono BA.out.size)
          have L1 := Lib.hid ((LB.out.below BB.out).cons p)
          have BC : Hid (∀ o, Below wr.heap.size wr (wb.alloc o)) := fun o => BB.out.alloc BB.out.size _
          clear hb p
          go_wp2_with fail
          refine ⟨BB.out, ?_⟩
          repeat (refine HT.pure (by simp only [List.getElem?_toArray, List.getElem?_cons_succ, List.getElem?_cons_zero]; rfl) (fun K hK => ?_); first | (apply held_yes; (focus rfl); (focus (intro w' hw; obtain ⟨hc', hf'⟩ := below_cells hw; go_simp; rfl)); (go_simp; refine hK _ ?_; clear hK K)) | (refine ite_no (by decide) ?_; go_simp; refine hK _ ?_; clear hK K))
          refine HT.mark (by simp only [List.getElem?_toArray, List.getElem?_cons_succ, List.getElem?_cons_zero]; rfl) ?_
          go_wp2_with fail
          refine ⟨(BC.out _), ?_⟩
          repeat (refine HT.pure (by simp only [List.getElem?_toArray, List.getElem?_cons_succ, List.getElem?_cons_zero]; rfl) (fun K hK => ?_); first | (apply held_yes; (focus rfl); (focus (intro w' hw; obtain ⟨hc', hf'⟩ := below_cells hw; go_simp; rfl)); (go_simp; refine hK _ ?_; clear hK K)) | (refine ite_no (by decide) ?_; go_simp; refine hK _ ?_; clear hK K))
          refine HT.mark (by simp only [List.getElem?_toArray, List.getElem?_cons_succ, List.getElem?_cons_zero]; rfl) ?_
          go_wp2_with fail
          refine ⟨(BC.out _), ?_⟩
          repeat (refine HT.pure (by simp only [List.getElem?_toArray, List.getElem?_cons_succ, List.getElem?_cons_zero]; rfl) (fun K hK => ?_); first | (apply held_yes; (focus rfl); (focus (intro w' hw; obtain ⟨hc', hf'⟩ := below_cells hw; go_simp; rfl)); (go_simp; refine hK _ ?_; clear hK K)) | (refine ite_no (by decide) ?_; go_simp; refine hK _ ?_; clear hK K))
          refine HT.fin ?_
          obtain ⟨q, hq⟩ : ∃ q, q = wb.heap.size := ⟨_, rfl⟩
          have L2 := L1.out
          rw [← hq] at L2 ⊢
          exact ⟨rfl, q, a, A, S, rfl, L2, BC.out _⟩
        · go_wp2_with fail
          refine ⟨(BD.out _), ?_⟩
          repeat (refine HT.pure (by simp only [List.getElem?_toArray, List.getElem?_cons_succ, List.getElem?_cons_zero]; rfl) (fun K hK => ?_); first | (apply held_yes; (focus rfl); (focus (intro w' hw; obtain ⟨hc', hf'⟩ := below_cells hw; go_simp; rfl)); (go_simp; refine hK _ ?_; clear hK K)) | (refine ite_no (by decide) ?_; go_simp; refine hK _ ?_; clear hK K))
          refine HT.mark (by simp only [List.getElem?_toArray, List.getElem?_cons_succ, List.getElem?_cons_zero]; rfl) ?_
          go_wp2_with fail
          refine (kins1 _ _ (SL.out _ 1024 (BD.out _) (by omega))).mono ?_
          rintro e wb ⟨a, A, S, rfl, p, hb⟩
          have BB : Hid (Below wr.heap.size wr wb) := (BD.out _).trans (hb.mono (BD.out _).size)
          have L1 := Lib.hid (((LB.out.below BA.out).cons (Ix.new _)).below hb)
          obtain ⟨y1, y2, y3, y4, l1⟩ := L1.out.get0 (.head _)
          have L2 := Lib.hid (L1.out.put1 (.head _) p)
          have lq := BA.out.size
          have BC : Hid (∀ v v', Below wr.heap.size wr ((wb.setCell ⟨wa.heap.size, 0, none⟩ v).setCell ⟨wa.heap.size, 1, none⟩ v')) := fun v v' => (BB.out.setCell (p := ⟨wa.heap.size, 0, none⟩) lq v).setCell (p := ⟨wa.heap.size, 1, none⟩) lq v'
          clear hb p lq
          go_wp2_with fail
          refine ⟨BB.out, ?_⟩
          repeat (refine HT.pure (by simp only [List.getElem?_toArray, List.getElem?_cons_succ, List.getElem?_cons_zero]; rfl) (fun K hK => ?_); first | (apply held_yes; (focus rfl); (focus (intro w' hw; obtain ⟨hc', hf'⟩ := below_cells hw; go_simp; rfl)); (go_simp; refine hK _ ?_; clear hK K)) | (refine ite_no (by decide) ?_; go_simp; refine hK _ ?_; clear hK K))
          refine HT.mark (by simp only [List.getElem?_toArray, List.getElem?_cons_succ, List.getElem?_cons_zero]; rfl) ?_
          go_wp2_with fail
          refine ⟨(BC.out _ _), ?_⟩
          repeat (refine HT.pure (by simp only [List.getElem?_toArray, List.getElem?_cons_succ, List.getElem?_cons_zero]; rfl) (fun K hK => ?_); first | (apply held_yes; (focus rfl); (focus (intro w' hw; obtain ⟨hc', hf'⟩ := below_cells hw; go_simp; rfl)); (go_simp; refine hK _ ?_; clear hK K)) | (refine ite_no (by decide) ?_; go_simp; refine hK _ ?_; clear hK K))
          refine HT.fin ?_
          obtain ⟨q, hq⟩ : ∃ q, q = wa.heap.size := ⟨_, rfl⟩
          have L3 := L2.out
          have B3 := BC.out (.pointer a) (.slice A S.length S.length)
          rw [← hq] at L3 B3 ⊢
          exact ⟨rfl, q, a, A, S, rfl, L3, B3⟩
      · go_wp2_with fail
        refine ⟨(BE.out _), ?_⟩
        repeat (refine HT.pure (by simp only [List.getElem?_toArray, List.getElem?_cons_succ, List.getElem?_cons_zero]; rfl) (fun K hK => ?_); first | (apply held_yes; (focus rfl); (focus (intro w' hw; obtain ⟨hc', hf'⟩ := below_cells hw; go_simp; rfl)); (go_simp; refine hK _ ?_; clear hK K)) | (refine ite_no (by decide) ?_; go_simp; refine hK _ ?_; clear hK K))
        refine HT.mark (by simp only [List.getElem?_toArray, List.getElem?_cons_succ, List.getElem?_cons_zero]; rfl) ?_
        go_wp2_with fail
        refine (new_any _).mono ?_
        rintro e wa ⟨rfl, hb⟩
        have BA : Hid (Below wr.heap.size wr wa) := (BE.out _).trans (hb.mono (BE.out _).size)
        have L1 := Lib.hid (((LB.out.cons (Ix.new _)).drawn (w' := (wr.alloc (.cells #[.pointer none, .slice none 0 0] 34)).drew) ⟨1, rfl⟩).below hb)
        clear hb
        go_wp2_with fail
        refine ⟨BA.out, ?_⟩
        repeat (refine HT.pure (by simp only [List.getElem?_toArray, List.getElem?_cons_succ, List.getElem?_cons_zero]; rfl) (fun K hK => ?_); first | (apply held_yes; (focus rfl); (focus (intro w' hw; obtain ⟨hc', hf'⟩ := below_cells hw; go_simp; rfl)); (go_simp; refine hK _ ?_; clear hK K)) | (refine ite_no (by decide) ?_; go_simp; refine hK _ ?_; clear hK K))
        refine HT.mark (by simp only [List.getElem?_toArray, List.getElem?_cons_succ, List.getElem?_cons_zero]; rfl) ?_
        go_wp2_with fail
        refine (kins1 _ _ (SL.out _ 1024 BA.out (by omega))).mono ?_
        rintro e wb ⟨a, A, S, rfl, p, hb⟩
        have BB : Hid (Below wr.heap.size wr wb) := BA.out.trans (hb.mono BA.out.size)
        have L2 := Lib.hid (L1.out.below hb)
        obtain ⟨y1, y2, y3, y4, l1⟩ := L2.out.get0 (.head _)
        have L3 := Lib.hid (L2.out.put1 (.head _) p)
        have BC : Hid (∀ v v', Below wr.heap.size wr ((wb.setCell ⟨wr.heap.size, 0, none⟩ v).setCell ⟨wr.heap.size, 1, none⟩ v')) := fun v v' => (BB.out.setCell (p := ⟨wr.heap.size, 0, none⟩) (Nat.le_refl _) v).setCell (p := ⟨wr.heap.size, 1, none⟩) (Nat.le_refl _) v'
        clear hb p
        go_wp2_with fail
        refine ⟨BB.out, ?_⟩
        repeat (refine HT.pure (by simp only [List.getElem?_toArray, List.getElem?_cons_succ, List.getElem?_cons_zero]; rfl) (fun K hK => ?_); first | (apply held_yes; (focus rfl); (focus (intro w' hw; obtain ⟨hc', hf'⟩ := below_cells hw; go_simp; rfl)); (go_simp; refine hK _ ?_; clear hK K)) | (refine ite_no (by decide) ?_; go_simp; refine hK _ ?_; clear hK K))
        refine HT.mark (by simp only [List.getElem?_toArray, List.getElem?_cons_succ, List.getElem?_cons_zero]; rfl) ?_
        go_wp2_with fail
        refine ⟨(BC.out _ _), ?_⟩
        repeat (refine HT.pure (by simp only [List.getElem?_toArray, List.getElem?_cons_succ, List.getElem?_cons_zero]; rfl) (fun K hK => ?_); first | (apply held_yes; (focus rfl); (focus (intro w' hw; obtain ⟨hc', hf'⟩ := below_cells hw; go_simp; rfl)); (go_simp; refine hK _ ?_; clear hK K)) | (refine ite_no (by decide) ?_; go_simp; refine hK _ ?_; clear hK K))
        refine HT.fin ?_
        obtain ⟨q, hq⟩ : ∃ q, q = wr.heap.size := ⟨_, rfl⟩
        have L4 := L3.out
        have B3 := BC.out (.pointer a) (.slice A S.length S.length)
        exact ⟨rfl, wr.heap.size, a, A, S, rfl, L4, B3⟩
    case h2 =>
      rintro q a A S y ⟨L, HB⟩
      have L1 := Lib.hid L
      have B1 := Lib.hid HB
      clear L HB E1 D1 BE LB
      go_wp2_with fail
      refine (new_any _).mono ?_
      rintro e w2 ⟨rfl, hb⟩
      have L2 := Lib.hid (L1.out.below hb)
      have B2 := Lib.hid (B1.out.trans (hb.mono B1.out.size))
      clear hb L1 B1
      go_wp2_with fail
      refine (kins2 _ _ (SL.out _ 1025 B2.out (by omega))).mono ?_
      rintro e w3 ⟨a3, A3, S3, rfl, _, hb⟩
      have L3 := Lib.hid ((L2.out.below hb).alloc (.cells #[.pointer a3, .slice A3 S3.length S3.length] 34))
      have B30 : Below wr.heap.size wr w3 := B2.out.trans (hb.mono B2.out.size)
      have B3 := Lib.hid (B30.alloc B30.size (.cells #[.pointer a3, .slice A3 S3.length S3.length] 34))
      clear hb L2 B2 B30
      go_wp2_with fail
      generalize w3.alloc (.cells #[.pointer a3, .slice A3 S3.length S3.length] 34) = w4 at L3 B3 ⊢
      obtain ⟨x1, x2, x3, x4, _, lx⟩ := L3.out.get (.head _)
      have D4 : Hid (Below w4.heap.size w4 w4.drew) := (Below.refl _ _).drew
      have BE : Hid (∀ o, Below w4.heap.size w4 ((w4.alloc o).drew)) := fun o => ((Below.refl _ w4).alloc (Nat.le_refl _) _).drew
      apply wp_join (X := fun q' a' A' S' y => LX w y [(q, a, A, S, rk 0)] [] ∧ Below wr.heap.size wr y ∧ Dep q' a' A' S')
      case h1 =>
        refine wp_region_tree ((PT.pures [0, 1, 2] (.two 3 7 (.pures [4, 5, 6] (.mark 7 (.mark 8 (.pure 9 .fin)))) (.mark 3 (.pures [4, 5, 6] (.mark 8 (.pure 9 .fin))))))) (Below w4.heap.size w4) (by kernel_rfl) (by kernel_rfl) (D4.out) ?_
        repeat (refine HT.pure (by simp only [List.getElem?_toArray, List.getElem?_cons_succ, List.getElem?_cons_zero]; rfl) (fun K hK => ?_); first | (apply held_yes; (focus rfl); (focus (intro w' hw; obtain ⟨hc', hf'⟩ := below_cells hw; go_simp; rfl)); (go_simp; refine hK _ ?_; clear hK K)) | (refine ite_no (by decide) ?_; go_simp; refine hK _ ?_; clear hK K))
        refine HT.two (by simp only [List.getElem?_toArray, List.getElem?_cons_succ, List.getElem?_cons_zero]; rfl) (by simp only [List.getElem?_toArray, List.getElem?_cons_succ, List.getElem?_cons_zero]; rfl) ?_ ?_
        · go_wp2_with fail
          refine (kins3 _ _ _ _ ((L3.out.below D4.out).get (.head _)).ix _ (SL.out _ 1 (B3.out.trans (D4.out.mono B3.out.size)) (by omega))).mono ?_
          rintro e wb ⟨ab, Ab, Sb, rfl, p, hb⟩
          have BB : Hid (Below w4.heap.size w4 wb) := D4.out.trans hb
          have BC : Hid (∀ o, Below w4.heap.size w4 (wb.alloc o)) := fun o => BB.out.alloc BB.out.size _
          clear hb p
          go_wp2_with fail
          refine ⟨BB.out, ?_⟩
          repeat (refine HT.pure (by simp only [List.getElem?_toArray, List.getElem?_cons_succ, List.getElem?_cons_zero]; rfl) (fun K hK => ?_); first | (apply held_yes; (focus rfl); (focus (intro w' hw; obtain ⟨hc', hf'⟩ := below_cells hw; go_simp; rfl)); (go_simp; refine hK _ ?_; clear hK K)) | (refine ite_no (by decide) ?_; go_simp; refine hK _ ?_; clear hK K))
          refine HT.mark (by simp only [List.getElem?_toArray, List.getElem?_cons_succ, List.getElem?_cons_zero]; rfl) ?_
          go_wp2_with fail
          refine ⟨(BC.out _), ?_⟩
          repeat (refine HT.pure (by simp only [List.getElem?_toArray, List.getElem?_cons_succ, List.getElem?_cons_zero]; rfl) (fun K hK => ?_); first | (apply held_yes; (focus rfl); (focus (intro w' hw; obtain ⟨hc', hf'⟩ := below_cells hw; go_simp; rfl)); (go_simp; refine hK _ ?_; clear hK K)) | (refine ite_no (by decide) ?_; go_simp; refine hK _ ?_; clear hK K))
          refine HT.mark (by simp only [List.getElem?_toArray, List.getElem?_cons_succ, List.getElem?_cons_zero]; rfl) ?_
          go_wp2_with fail
          refine ⟨(BC.out _), ?_⟩
          repeat (refine HT.pure (by simp only [List.getElem?_toArray, List.getElem?_cons_succ, List.getElem?_cons_zero]; rfl) (fun K hK => ?_); first | (apply held_yes; (focus rfl); (focus (intro w' hw; obtain ⟨hc', hf'⟩ := below_cells hw; go_simp; rfl)); (go_simp; refine hK _ ?_; clear hK K)) | (refine ite_no (by decide) ?_; go_simp; refine hK _ ?_; clear hK K))
          refine HT.fin ?_
          have L5 := L3.out.below (BC.out (.cells #[.pointer ab, .slice Ab Sb.length Sb.length] 34))
          have B5 := B3.out.trans ((BC.out (.cells #[.pointer ab, .slice Ab Sb.length Sb.length] 34)).mono B3.out.size)
          obtain ⟨qq, hq⟩ : ∃ q, q = wb.heap.size := ⟨_, rfl⟩
          rw [← hq]
          exact ⟨rfl, qq, ab, Ab, Sb, rfl, L5, B5, Dep.yes _ _ _ _⟩
        · go_wp2_with fail
          refine ⟨(BE.out _), ?_⟩
          repeat (refine HT.pure (by simp only [List.getElem?_toArray, List.getElem?_cons_succ, List.getElem?_cons_zero]; rfl) (fun K hK => ?_); first | (apply held_yes; (focus rfl); (focus (intro w' hw; obtain ⟨hc', hf'⟩ := below_cells hw; go_simp; rfl)); (go_simp; refine hK _ ?_; clear hK K)) | (refine ite_no (by decide) ?_; go_simp; refine hK _ ?_; clear hK K))
          refine HT.mark (by simp only [List.getElem?_toArray, List.getElem?_cons_succ, List.getElem?_cons_zero]; rfl) ?_
          go_wp2_with fail
          refine (kins3 _ _ _ _ ((L3.out.below (BE.out _)).get (.head _)).ix _ (SL.out _ 1 (B3.out.trans ((BE.out _).mono B3.out.size)) (by omega))).mono ?_
          rintro e wb ⟨ab, Ab, Sb, rfl, p, hb⟩
          have BB : Hid (Below w4.heap.size w4 wb) := (BE.out _).trans (hb.mono (BE.out _).size)
          have LV := ((LX.start (B3.out.mono (LX.start (Below.refl _ wr)).bl.size) : LX wr w4 [] []).cons (Ix.new _))
          have L6 := Lib.hid ((LV.drawn (w' := (w4.alloc (.cells #[.pointer none, .slice none 0 0] 34)).drew) ⟨1, rfl⟩).below hb)
          obtain ⟨y1, y2, y3, y4, l1⟩ := L6.out.get0 (.head _)
          have BC : Hid (∀ v v', Below w4.heap.size w4 ((wb.setCell ⟨w4.heap.size, 0, none⟩ v).setCell ⟨w4.heap.size, 1, none⟩ v')) := fun v v' => (BB.out.setCell (p := ⟨w4.heap.size, 0, none⟩) (Nat.le_refl _) v).setCell (p := ⟨w4.heap.size, 1, none⟩) (Nat.le_refl _) v'
          clear hb p LV
          go_wp2_with fail
          refine ⟨BB.out, ?_⟩
          repeat (refine HT.pure (by simp only [List.getElem?_toArray, List.getElem?_cons_succ, List.getElem?_cons_zero]; rfl) (fun K hK => ?_); first | (apply held_yes; (focus rfl); (focus (intro w' hw; obtain ⟨hc', hf'⟩ := below_cells hw; go_simp; rfl)); (go_simp; refine hK _ ?_; clear hK K)) | (refine ite_no (by decide) ?_; go_simp; refine hK _ ?_; clear hK K))
          refine HT.mark (by simp only [List.getElem?_toArray, List.getElem?_cons_succ, List.getElem?_cons_zero]; rfl) ?_
          go_wp2_with fail
          refine ⟨(BC.out _ _), ?_⟩
          repeat (refine HT.pure (by simp only [List.getElem?_toArray, List.getElem?_cons_succ, List.getElem?_cons_zero]; rfl) (fun K hK => ?_); first | (apply held_yes; (focus rfl); (focus (intro w' hw; obtain ⟨hc', hf'⟩ := below_cells hw; go_simp; rfl)); (go_simp; refine hK _ ?_; clear hK K)) | (refine ite_no (by decide) ?_; go_simp; refine hK _ ?_; clear hK K))
          refine HT.fin ?_
          have L5 := L3.out.below (BC.out (.pointer ab) (.slice Ab Sb.length Sb.length))
          have B5 := B3.out.trans ((BC.out (.pointer ab) (.slice Ab Sb.length Sb.length)).mono B3.out.size)
          exact ⟨rfl, w4.heap.size, ab, Ab, Sb, rfl, L5, B5, Dep.yes _ _ _ _⟩
      case h2 =>
        rintro _ _ _ _ y5 ⟨L, HB, _⟩
        have L4 := Lib.hid L
        clear L HB
        obtain ⟨x1, x2, x3, x4, _, lx⟩ := L4.out.get (.head _)
        go_wp2_with fail
        refine (kins4 _ _ _ _ (L4.out.get (.head _)).ix).mono ?_
        rintro e w6 ⟨a6, A6, S6, rfl, p, hb⟩
        have L6 := Lib.hid ((L4.out.below hb).cons p)
        clear hb p x1 x2 x3 x4 lx
        obtain ⟨x1, x2, x3, x4, _, lx⟩ := L6.out.get (.head _)
        have KT := Lib.hid (fun W a A S (g : Ix W a A S (rk 0)) => rtotal_any W a (szs (rk 0)) g.rp)
        rw [rk0_sum] at KT
        go_wp2_with fail
        refine (KT.out _ _ _ _ (L6.out.get (.head _)).ix).mono ?_
        rintro e w7 ⟨rfl, hb⟩
        have L7 := Lib.hid (L6.out.below hb)
        clear hb x1 x2 x3 x4 lx
        obtain ⟨x1, x2, x3, x4, _, lx⟩ := L7.out.get (.tail _ (.head _))
        go_wp2_with fail
        refine (KT.out _ _ _ _ (L7.out.get (.tail _ (.head _))).ix).mono ?_
        rintro e w8 ⟨rfl, hb⟩
        have L8 : Hid (LX w w8 [(q, a, A, S, rk 0)] []) := (L7.out.below hb).sub (fun z hz => by
          rw [List.mem_singleton.1 hz]
          exact .tail _ (.head _)) (fun z hz => hz)
        clear hb x1 x2 x3 x4 lx KT L6 L7 L4
        go_wp2_with fail
        go_loopw [11] (fun i wv => ∃ (k : Nat) (a : Option Addr) (A : Option Addr) (S : Sp), k ≤ 1024 ∧ k % 2 = 0 ∧ i = .int .i64 k ∧ Hid (LX w wv [(q, a, A, S, rk k)] [])) (fun i _ => 1024 - (intOf i).toNat)
        case atStart => exact ⟨0, a, A, S, by omega, rfl, rfl, L8⟩
        case round =>
          obtain ⟨k, a, A, S, hk, he, rfl, L9⟩ := hrel
          clear L8
          obtain ⟨x1, x2, x3, x4, _, lx⟩ := L9.out.get (.head _)
          by_cases hlt : k < 1024
          · have KS := Lib.hid (kset _ _ _ _ k (L9.out.get (.head _)).ix hlt he)
            have hk2 : (k : Int) < 1024 := by omega
            have he2 : (k + 2) % 2 = 0 := by omega
            have HE := Lib.hid he2
            clear he he2
            go_wp2_with fail
            refine (KS.out).mono ?_
            rintro e wa ⟨a1, A1, S1, rfl, p, hb⟩
            have LA := Lib.hid (L9.out.below hb)
            clear x1 x2 x3 x4 lx
            obtain ⟨x1, x2, x3, x4, _, lx⟩ := LA.out.get (.head _)
            have LC := Lib.hid (LA.out.put1 (.head _) p)
            clear hb p KS
            go_wp2_with fail
            go_roundw
            case rel => exact ⟨k + 2, a1, A1, S1, by have := HE.out; omega, HE.out, by go_num, LC⟩
            case measure => simp [intOf]; omega
          · obtain rfl : k = 1024 := by omega
            clear he hlt hk
            go_wp2_with fail
            refine (kunk1 _ _ _ _ (L9.out.get (.head _)).ix).mono ?_
            rintro e w10 ⟨rfl, hb⟩
            have L10 := Lib.hid (L9.out.below hb)
            clear hb x1 x2 x3 x4 lx
            obtain ⟨x1, x2, x3, x4, _, lx⟩ := L10.out.get (.head _)
            go_wp2_with fail
            refine (kmov _ _ _ _ (L10.out.get (.head _)).ix).mono ?_
            rintro e w11 ⟨ay, Ay, Sy, rfl, p, hb⟩
            have L11 := Lib.hid ((LX.start ((L10.out.below hb).bl)).cons p)
            clear hb p x1 x2 x3 x4 lx
            obtain ⟨x1, x2, x3, x4, _, lx⟩ := L11.out.get (.head _)
            go_wp2_with fail
            -- kunk2 _ _ _ _ (L11.out.get (.head _)).ix contract; L11 old holder; L12 new; w12 world: a call that returns plain values
            refine (kunk2 _ _ _ _ (L11.out.get (.head _)).ix).mono ?_
            rintro e w12 ⟨rfl, hb⟩
            have L12 := Lib.hid (L11.out.below hb)
            clear hb x1 x2 x3 x4 lx
            obtain ⟨x1, x2, x3, x4, _, lx⟩ := L12.out.get (.head _)
            go_wp2_with fail
            refine (kkno _ _ _ _ (L12.out.get (.head _)).ix).mono ?_
            rintro e w13 ⟨rfl, hb⟩
            have L13 := Lib.hid (LX.start ((L12.out.below hb).bl))
            clear hb x1 x2 x3 x4 lx
            go_wp2_with fail
            refine (new_any _).mono ?_
            rintro e w14 ⟨rfl, hb⟩
            have L14 := Lib.hid (L13.out.below hb)
            clear hb
            go_wp2_with fail
            refine (kb1 w14).mono ?_
            rintro e w15 ⟨ap, Ap, Sp', rfl, p, hb⟩
            have L15 := Lib.hid (((L14.out.alloc _).below hb).cons p)
            clear hb p
            go_wp2_with fail
            refine (new_any _).mono ?_
            rintro e w16 ⟨rfl, hb⟩
            have L16 := Lib.hid (L15.out.below hb)
            clear hb
            go_wp2_with fail
            refine (kb2 w16).mono ?_
            rintro e w17 ⟨a17, A17, S17, rfl, _, hb⟩
            have L17 := Lib.hid ((L16.out.alloc _).below hb)
            clear hb
            obtain ⟨x1, x2, x3, x4, _, lx⟩ := L17.out.get (.head _)
            go_wp2_with fail
            refine (kc1 _ _ _ _ (L17.out.get (.head _)).ix).mono ?_
            rintro e w18 ⟨a18, A18, S18, rfl, _, hb⟩
            have L18 := Lib.hid (L17.out.below hb)
            clear hb x1 x2 x3 x4 lx
            obtain ⟨x1, x2, x3, x4, _, lx⟩ := L18.out.get (.head _)
            go_wp2_with fail
            refine (kc2 _ _ _ _ (L18.out.get (.head _)).ix).mono ?_
            rintro e w19 ⟨aq, Aq, Sq, rfl, p, hb⟩
            have L19 := Lib.hid ((L18.out.below hb).cons p)
            clear hb p x1 x2 x3 x4 lx
            obtain ⟨x1, x2, x3, x4, _, lx⟩ := L19.out.get (.head _)
            go_wp2_with fail
            refine (kc3 _ _ _ _ (L19.out.get (.head _)).ix).mono ?_
            rintro e w20 ⟨a20, A20, S20, rfl, p, hb⟩
            have L20 : Hid (LX w (ixw w20 a20 A20 S20.length) [(w19.heap.size, aq, Aq, Sq, bigQ), (w15.heap.size, ap, Ap, Sp', bigR)] []) := ((L19.out.below hb).cons p).sub (fun z hz => .tail _ hz) (fun z hz => hz)
            clear hb p x1 x2 x3 x4 lx
            obtain ⟨x1, x2, x3, x4, _, lx⟩ := L20.out.get (.head _)
            have g21 : Ix ((ixw w20 a20 A20 S20.length).alloc (.cells #[.int .i64 1, .int .i64 1] 2)) aq Aq Sq bigQ := ((L20.out.alloc (.cells #[.int .i64 1, .int .i64 1] 2)).get (.head _)).ix
            have l21 : SeesL ((ixw w20 a20 A20 S20.length).alloc (.cells #[.int .i64 1, .int .i64 1] 2)) ((ixw w20 a20 A20 S20.length).alloc (.cells #[.int .i64 1, .int .i64 1] 2)).heap.size (some ⟨(ixw w20 a20 A20 S20.length).heap.size, 0, none⟩) [1, 1] := litL (ixw w20 a20 A20 S20.length) [1, 1]
            have K21 := Lib.hid (kc4 _ _ _ _ _ g21 l21)
            rw [World.size_alloc] at K21
            have L20a := Lib.hid (L20.out.alloc (.cells #[.int .i64 1, .int .i64 1] 2))
            clear g21 l21
            go_wp2_with fail
            refine (K21.out).mono ?_
            rintro e w21 ⟨a21, A21, S21, rfl, _, hb⟩
            have L21 := Lib.hid ((L20a.out.below hb).alloc (.cells #[.pointer a21, .slice A21 S21.length S21.length] 34))
            clear hb x1 x2 x3 x4 lx K21 L20a
            go_wp2_with fail
            refine (new_any _).mono ?_
            rintro e w22 ⟨rfl, hb⟩
            have L22 := Lib.hid (L21.out.below hb)
            clear hb
            go_wp2_with fail
            refine (kb3 w22).mono ?_
            rintro e w23 ⟨a23, A23, S23, rfl, _, hb⟩
            have L23 := Lib.hid (((L22.out.alloc _).below hb).alloc (.cells #[.pointer a23, .slice A23 S23.length S23.length] 34))
            clear hb
            obtain ⟨x1, x2, x3, x4, _, lx⟩ := L23.out.get (.tail _ (.head _))
            have KT := Lib.hid (rtotal_any _ _ (szs bigR) (L23.out.get (.tail _ (.head _))).ix.rp)
            rw [show (szs bigR).sum = 4611686018427387904 from by decide] at KT
            have ks := fun W => same_any W none none [] [] (Ix.new W) none 0 W.heap.size (fun h => absurd h (by simp)) (Nat.le_refl _) 0 ⟨by omega, by omega⟩
            have KS : Hid (∀ W, Calls Try.prog 10 #[ixv none none 0, .int .i64 0, .slice none 0 0, .int .i64 0] W fun e w' => e = .returned (.bool true) ∧ Below W.heap.size W w') := ks
            have ka := fun W => law_at none 0 0 (fun _ => 0) false 0 0 W (fun h => absurd h (by simp)) (fun _ => ⟨by omega, by omega⟩) (Nat.le_refl _) (Nat.zero_le _) ⟨by omega, by omega⟩ ⟨by omega, by omega⟩
            have KA : Hid (∀ W, Calls Try.prog 3 #[.agg #[.slice none 0 0, .bool false], .int .i64 0, .int .i64 0] W fun e w' => e = .returned (.bool true) ∧ Below W.heap.size W w') := ka
            clear ks ka
            go_wp2_with fail
            refine (KT.out).mono ?_
            rintro e w24 ⟨rfl, hb⟩
            have L24 := Lib.hid (LX.start ((L23.out.below hb).bl))
            clear hb x1 x2 x3 x4 lx KT
            go_wp2_with fail
            refine (KS.out _).mono ?_
            rintro e w25 ⟨rfl, hb⟩
            have L25 := Lib.hid (L24.out.below hb)
            clear hb
            go_wp2_with fail
            refine (KA.out _).mono ?_
            rintro e w26 ⟨rfl, hb⟩
            have L26 := Lib.hid (L25.out.below hb)
            clear hb
            go_wp2_with fail
            refine (lives_yes _).mono ?_
            rintro e w27 ⟨rfl, hb⟩
            have L27 := Lib.hid (L26.out.below hb)
            clear hb
            go_wp2_with fail
            go_ret
            exact ⟨rfl, L27.out.bl⟩
end Go.Proofs.Ytngbaiijdgmpoaa

/-
  Flags: become.
-/
import Derived.Test.YteodkmndghaidaaDoorFlaE
namespace Go.Proofs.YteodkmndghaidaaDoor
open Go.RowKit
set_option linter.unusedVariables false
set_option linter.unusedSimpArgs false

/-- Some slices of bits, one after another. -/
abbrev Lsts := List (Option Addr × Nat × List Bool)
def lg (L : Lsts) (k : Nat) : Option Addr × Nat × List Bool := L.getD k (none, 0, [])
def lsv (L : Lsts) : Nat → Value := fun k => .slice (lg L k).1 (lg L k).2.2.length (lg L k).2.1
def cat (L : Lsts) : List Bool := (L.map fun x => x.2.2).flatten
theorem lg_mem {L : Lsts} {k : Nat} (h : k < L.length) : lg L k ∈ L := by
  unfold lg; rw [List.getD_eq_getElem?_getD, List.getElem?_eq_getElem h]; exact List.getElem_mem h
theorem cat_take {L : Lsts} {k : Nat} (h : k < L.length) : cat (L.take (k + 1)) = cat (L.take k) ++ (lg L k).2.2 := by
  unfold cat lg
  rw [List.take_succ_eq_append_getElem h, List.map_append, List.flatten_append, List.getD_eq_getElem?_getD, List.getElem?_eq_getElem h]
  simp
theorem cat_len_le (L : Lsts) (k : Nat) : (cat (L.take k)).length ≤ (cat L).length := by
  unfold cat
  conv => rhs; rw [← List.take_append_drop k L, List.map_append, List.flatten_append, List.length_append]
  omega
theorem set_next (P : List Bool) (r : Nat) (v : Bool) : (P ++ List.replicate (r + 1) false).set P.length v = (P ++ [v]) ++ List.replicate r false := by
  rw [List.set_append_right _ _ (Nat.le_refl _), Nat.sub_self, List.replicate_succ, List.set_cons_zero, List.append_assoc]; rfl
theorem take_snoc {M : List Bool} {j : Nat} (h : j < M.length) : M.take (j + 1) = M.take j ++ [bt M j] := by
  rw [List.take_succ_eq_append_getElem h, bt_lt h]
theorem zc_one : Tryd.zeroCells56.all (·.oneCell') = true := by
  rw [Array.all_eq_true]
  intro i hi
  have h := zc_at i (by rw [zc_size] at hi; exact hi)
  rw [Array.getElem?_eq_getElem hi] at h
  injection h with h
  rw [h]; split <;> rfl
/-- False bits alone, more of them. -/
theorem Fl.grow {w : World} {p a : Nat} (h : Fl w p (List.replicate a false)) (b : Nat) (hb : b ≤ 4096) : Fl (w.setCell ⟨p, 0, none⟩ (.int .i64 b)) p (List.replicate b false) := by
  refine ⟨World.rowIs.congr (World.rowIs.set h.row 0 (.int .i64 b)) fun j hj => ?_, by simp; exact hb, fun k hk => ?_, h.pos⟩
  · simp only [flc_rep]
    by_cases c : j = 0
    · rw [if_pos c, if_pos c]
    · rw [if_neg c, if_neg c, if_neg c]
  · have := h.pos
    rw [World.cell?_setCell_other]
    · exact h.tab k hk
    · intro e; injection e with e; omega
theorem Fl.clear {w : World} {p : Nat} {l : List Bool} (h : Fl w p l) : Fl (w.setRow p Tryd.zeroCells56) p (List.replicate 0 false) ∧ Fr (fun b => b = p) w (w.setRow p Tryd.zeroCells56) ∧ (Instr.storeAt 56 (.pointer (some ⟨p, 0, none⟩)) (.agg Tryd.zeroCells56)).run Tryd.prog w = .ok () (w.setRow p Tryd.zeroCells56) := by
  obtain ⟨cur, hg, hsz, hc⟩ := h.row
  have hfr : Fr (fun b => b = p) w (w.setRow p Tryd.zeroCells56) := ⟨rfl, rfl, rfl, by simp, fun k _ hk => setRow_other w p k _ hk⟩
  refine ⟨⟨⟨_, setRow_heap w p cur _ _ _ hg, zc_size, fun j hj => ?_⟩, by simp, ?_, h.pos⟩, hfr, ?_⟩
  · rw [zc_at j hj, flc_rep]
    by_cases c : j = 0
    · subst c; rfl
    · by_cases d : j = 1
      · subst d; rfl
      · rw [if_neg (by omega), if_neg c, if_neg d]
  · intro i hi
    have := h.pos
    rw [cell_setRow_other _ _ _ _ (show 0 ≠ p by omega)]
    exact h.tab i hi
  · simp only [Instr.storeAt, Instr.sureAddr, Sem.run_bind, Sem.run_pure, Result.andThen]
    exact run_storeVar_row _ _ 56 56 cur _ hg (by rw [zc_size]; exact infoFl) (by rw [zc_size]; exact hsz) zc_one
set_option maxRecDepth 100000 in
set_option maxHeartbeats 6400000 in
theorem become_any (w : World) (p : Nat) (l0 : List Bool) (h : Fl w p l0) (L : Lsts) (g : Nat) (hG : w.rowIs g 22 L.length (lsv L)) (hgp : g ≠ p) (hL : ∀ x ∈ L, SeesO (fun b => b = p) w x.1 x.2.2.length (bvs x.2.2)) (hN : (cat L).length ≤ 4096) (hm : L.length ≤ 100) :
    Calls Tryd.prog 40 #[.pointer (some ⟨p, 0, none⟩), .slice (some ⟨g, 0, none⟩) L.length L.length] w fun e w' => e = .returned (.tuple #[]) ∧ Fl w' p (cat L) ∧ Fr (fun b => b = p) w w' := by
  obtain ⟨h1, h2, h3⟩ := h.clear
  have F0 := Lib.hid h1
  have R0 := Lib.hid h2
  have ST := Lib.hid h3
  have HG := Lib.hid hG
  have HL := Lib.hid hL
  obtain ⟨N, eN⟩ : ∃ N, N = (cat L).length := ⟨_, rfl⟩
  rw [← eN] at hN
  have EN := Lib.hid eN
  obtain ⟨m, em⟩ : ∃ m, m = L.length := ⟨_, rfl⟩
  rw [← em] at hm HG ⊢
  have EM := Lib.hid em
  clear h1 h2 h3 h hG hL eN em
  go_enter Tryd.func40, Tryd.ntmps40
  go_wp2_with (refine wpList_store_run rfl 56 _ _ rfl _ _ rfl rfl ST.out ?_)
  generalize w.setRow p Tryd.zeroCells56 = w1 at F0 R0 ⊢
  clear ST
  go_loopw [16] (fun i wr => ∃ k : Nat, k ≤ m ∧ i = .int .i64 k ∧ Hid (Fl wr p (List.replicate (cat (L.take k)).length false)) ∧ Hid (Fr (fun b => b = p) w wr)) (fun i _ => m - (intOf i).toNat)
  case atStart => exact ⟨0, Nat.zero_le _, rfl, F0, R0⟩
  case round =>
    obtain ⟨k, hk, rfl, hF, hR⟩ := hrel
    clear F0 R0
    have HG1 := Lib.hid (HG.out.of_block (hR.out.block g HG.out.lt hgp))
    by_cases hlt : k < m
    · have hki : (k : Int) < (m : Int) := by omega
      have hc := HG1.out.cell (i := k) hlt
      obtain ⟨A, eA⟩ : ∃ x, x = (lg L k).1 := ⟨_, rfl⟩
      obtain ⟨q, eq⟩ : ∃ x, x = (lg L k).2.2.length := ⟨_, rfl⟩
      obtain ⟨cc, ecc⟩ : ∃ x, x = (lg L k).2.1 := ⟨_, rfl⟩
      rw [show lsv L k = .slice A q cc from by rw [eA, eq, ecc]; rfl] at hc
      have hct : Hid ((cat (L.take (k + 1))).length = (cat (L.take k)).length + q) := by
        show _ = _; rw [cat_take (by rw [← EM.out]; exact hlt), List.length_append, eq]
      have hle := cat_len_le L (k + 1)
      rw [← EN.out, hct.out] at hle
      have c0 := hF.out.cells.c0
      rw [List.length_replicate] at c0
      have z0 := hF.out.cells.fz 0
      have FG := Lib.hid (hF.out.grow ((cat (L.take k)).length + q) (by omega))
      rw [Int.natCast_add] at FG
      have FR : Hid (∀ v, Fr (fun b => b = p) w (wr.setCell ⟨p, 0, none⟩ v)) := fun v => hR.out.setCell (p := ⟨p, 0, none⟩) rfl v
      generalize (cat (L.take k)).length = a at c0 hct hle FG
      clear eA eq ecc hF hR HG1
      go_wp2_with fail
      go_roundw
      case rel => exact ⟨k + 1, hlt, by go_num, by rw [hct.out]; exact FG, FR.out _⟩
      case measure => simp [intOf]; omega
    · obtain rfl : k = m := by omega
      have F1 : Hid (Fl wr p (cat (L.take 0) ++ List.replicate (N - (cat (L.take 0)).length) false)) := by
        have := hF.out
        rw [EM.out, List.take_length, ← EN.out] at this
        exact this
      have R1 := Lib.hid hR.out
      clear hF hR HG1
      go_wp2_with fail
      go_loopw [6, 32] (fun i o wr => ∃ a : Nat, a ≤ k ∧ i = .int .i64 ((cat (L.take a)).length : Nat) ∧ o = .int .i64 a ∧ Hid (Fl wr p (cat (L.take a) ++ List.replicate (N - (cat (L.take a)).length) false)) ∧ Hid (Fr (fun b => b = p) w wr)) (fun _ o _ => k - (intOf o).toNat)
      case atStart => exact ⟨0, Nat.zero_le _, rfl, rfl, F1, R1⟩
      case round =>
        obtain ⟨a, ha, rfl, rfl, hF, hR⟩ := hrel
        clear F1 R1
        have HG1 := Lib.hid (HG.out.of_block (hR.out.block g HG.out.lt hgp))
        by_cases hlt : a < k
        · have hai : (a : Int) < (k : Int) := by omega
          have hc := HG1.out.cell (i := a) hlt
          have HS := Lib.hid (HL.out _ (lg_mem (show a < L.length by rw [← EM.out]; exact hlt)))
          have hct : Hid (cat (L.take (a + 1)) = cat (L.take a) ++ (lg L a).2.2) := cat_take (by rw [← EM.out]; exact hlt)
          have hle := cat_len_le L (a + 1)
          rw [← EN.out, hct.out, List.length_append] at hle
          obtain ⟨A, M, cc, eL⟩ : ∃ A M cc, lg L a = (A, cc, M) := ⟨_, _, _, rfl⟩
          rw [show lsv L a = .slice A M.length cc from by unfold lsv; rw [eL]] at hc
          rw [eL] at HS hct hle
          clear eL
          obtain ⟨P, eP⟩ : ∃ P, P = cat (L.take a) := ⟨_, rfl⟩
          rw [← eP] at hct hF hle ⊢
          obtain ⟨i0, ei⟩ : ∃ i, i = P.length := ⟨_, rfl⟩
          obtain ⟨q, eq⟩ : ∃ q, q = M.length := ⟨_, rfl⟩
          have hle : i0 + q ≤ N := by rw [ei, eq]; exact hle
          have EI := Lib.hid ei
          have EQ := Lib.hid eq
          rw [← eq] at hc
          rw [← ei]
          clear ei eq eP
          have F2 : Hid (Fl wr p (P ++ M.take 0 ++ List.replicate (N - (i0 + 0)) false)) := by
            have := hF.out
            rw [← EI.out] at this
            show Fl wr p (P ++ [] ++ _)
            rw [List.append_nil]
            exact this
          have R2 := Lib.hid hR.out
          clear hF hR HG1
          go_wp2_with fail
          go_loopw [6, 38] (fun i o wr => ∃ j : Nat, j ≤ q ∧ i = .int .i64 (i0 + j : Nat) ∧ o = .int .i64 j ∧ Hid (Fl wr p (P ++ M.take j ++ List.replicate (N - (i0 + j)) false)) ∧ Hid (Fr (fun b => b = p) w wr)) (fun _ o _ => q - (intOf o).toNat)
          case atStart => exact ⟨0, Nat.zero_le _, rfl, rfl, F2, R2⟩
          case round =>
            obtain ⟨j, hj, rfl, rfl, hF, hR⟩ := hrel
            clear F2 R2 hc
            by_cases hlt2 : j < q
            · have hji : (j : Int) < (q : Int) := by omega
              obtain ⟨b, o, rfl, _, _, hcell⟩ := (HS.out.fr hR.out) (by show 0 < M.length; rw [← EQ.out]; omega)
              have hc := hcell j (by show j < M.length; rw [← EQ.out]; exact hlt2)
              rw [show bvs M j = .bool (bt M j) from rfl] at hc
              have lP : (P ++ M.take j).length = i0 + j := by rw [List.length_append, List.length_take, EI.out, Nat.min_eq_left (by rw [← EQ.out]; exact hj)]
              have KP := fput_any wr p _ hF.out (i0 + j) (by rw [List.length_append, lP, List.length_replicate]; omega) (bt M j)
              rw [show N - (i0 + j) = (N - (i0 + (j + 1))) + 1 from by omega] at KP
              rw [show (P ++ M.take j ++ List.replicate (N - (i0 + (j + 1)) + 1) false).set (i0 + j) (bt M j) = P ++ M.take (j + 1) ++ List.replicate (N - (i0 + (j + 1))) false from by
                rw [← lP, set_next, take_snoc (by rw [← EQ.out]; exact hlt2), List.append_assoc P]] at KP
              have KP := Lib.hid KP
              have hR2 := Lib.hid hR.out
              generalize bt M j = v at hc KP
              have h4 : i0 + j < 4096 := by omega
              clear lP hcell hF hR
              go_wp2_with fail
              refine (KP.out).mono ?_
              rintro e w2 ⟨rfl, k1, k2⟩
              have F3 := Lib.hid k1
              have R3 := Lib.hid (hR2.out.trans k2)
              clear k1 k2 KP hR2 hc
              go_wp2_with fail
              go_roundw
              case rel => exact ⟨j + 1, hlt2, by go_num, by go_num, F3, R3⟩
              case measure => simp [intOf]; omega
            · obtain rfl : j = q := by omega
              have F3 : Hid (Fl wr p (cat (L.take (a + 1)) ++ List.replicate (N - (cat (L.take (a + 1))).length) false)) := by
                have := hF.out
                rw [EQ.out, List.take_length, EI.out] at this
                rw [hct.out, List.length_append]
                exact this
              have hl3 : (cat (L.take (a + 1))).length = i0 + j := by rw [hct.out, List.length_append, EI.out, EQ.out]
              have HL3 := Lib.hid hl3
              have R3 := Lib.hid hR.out
              clear hF hR hl3
              go_wp2_with fail
              go_roundw
              case rel => exact ⟨a + 1, by omega, by rw [HL3.out], by go_num, F3, R3⟩
              case measure => simp [intOf]; omega
        · obtain rfl : a = k := by omega
          have F3 : Hid (Fl wr p (cat L)) := by
            have := hF.out
            rw [EM.out, List.take_length, ← EN.out, Nat.sub_self] at this
            rw [show List.replicate 0 false = [] from rfl, List.append_nil] at this
            exact this
          have R3 := Lib.hid hR.out
          clear hF hR
          go_wp2_with fail
          go_end0
          exact ⟨rfl, F3.out, R3.out⟩
end Go.Proofs.YteodkmndghaidaaDoor

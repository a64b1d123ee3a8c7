/-
  Contracts and plain laws that the walks of the top need, merged by a program out of one text a subject.
-/
import Derived.Test.YtfmfmeiaekknbaaGreatPd
import Derived.LoopTactic
import Derived.BigQuiet
import Derived.WalkMore
import Derived.Scope
import Derived.Test.YtfmfmeiaekknbaaGreatPb
import Derived.Test.YtfmfmeiaekknbaaGreatPc
import Derived.Test.YtfmfmeiaekknbaaGreatPa
import Derived.ProofKit
import Derived.OpenShut
import Derived.ChangeOld
import Derived.Below
import Derived.Lib.SmallJoins
import Derived.Deep.Slices
import Derived.Deep.Fields
import Derived.ChangeSame
import Derived.Test.YtfmfmeiaekknbaaGreatRows
section
/-
  The walk of the law TopOffsets.
-/
namespace Go.Proofs.YtfmfmeiaekknbaaGreat
open Go.RowKit
set_option linter.unusedVariables false
set_option linter.unusedSimpArgs false

theorem own_seesL {w : World} {B c : Nat} {A : Option Addr} {L : List Int} (h : Own w B 2 1 L.length c A (i64s (lf L))) : SeesL w w.heap.size A L := by
  have := h.sees
  rwa [Nat.mul_one] at this
theorem place_any (l : Nat → Int) (x : Int) (h0 : 0 ≤ x) : ∀ n, x < psum l n → ∃ i, i < n ∧ psum l i ≤ x ∧ x < psum l (i + 1)
  | 0, h => absurd h (by show ¬ x < 0; omega)
  | n + 1, h => by
    by_cases c : x < psum l n
    · obtain ⟨i, h1, h2, h3⟩ := place_any l x h0 n c
      exact ⟨i, by omega, h2, h3⟩
    · exact ⟨n, by omega, by omega, h⟩
/-- What the law holds behind the four makers. -/
structure OS (w0 w : World) (qa : Nat) (a A' : Option Addr) (S : Sp) (R : Rws) (Al : Option Addr) (sq : Nat) (r : Option Addr) (p g : Nat) : Prop where
  lx : LX w0 w [(qa, a, A', S, R)] []
  sl : SeesL w w.heap.size Al (szs R)
  rv : Var w sq 27 (.pointer r)
  rp : Rp w r (szs R)
  fn : Fen w 0 p (szs R).length (lf (szs R))
  tp : w.rowIs g 2 ((szs R).length + 1) (i64s (psum (lf (szs R))))
theorem OS.below {w0 w w' : World} {qa : Nat} {a A' : Option Addr} {S : Sp} {R : Rws} {Al : Option Addr} {sq : Nat} {r : Option Addr} {p g : Nat} (h : OS w0 w qa a A' S R Al sq r p g) (hb : Below w.heap.size w w') : OS w0 w' qa a A' S R Al sq r p g :=
  ⟨h.lx.below hb, (h.sl.below hb).more hb.size, h.rv.below hb, h.rp.below hb, h.fn.below hb, h.tp.of_block (hb.block _ h.tp.lt)⟩
theorem irows_chk {R : Rws} (ok : IOk R) : chkL (szs R) = 0 := by
  have h := ok.len
  unfold chkL chk
  rw [if_neg (by rw [szs_len]; omega)]
  exact chk_of_ok ok.ok (fun x hx => (ok.ps x hx).2) _ (Nat.le_refl _)
theorem irows_fit {R : Rws} (ok : IOk R) : ∀ x ∈ szs R, Fits x := fun x hx => by
  have := ok.ps x hx
  exact ⟨by omega, by omega⟩
/-- The variable x of type I, and what it holds. -/
structure XI (w : World) (q : Nat) (A : Option Addr) (n c : Nat) (f : Nat → Int) (g : Bool) : Prop where
  v : w.rowIs q 24 2 (fun j => if j = 0 then .slice A n c else .bool g)
  s : Sees w w.heap.size A n (u8r f)
theorem XI.below {w w' : World} {q : Nat} {A : Option Addr} {n c : Nat} {f : Nat → Int} {g : Bool} (h : XI w q A n c f g) (hb : Below w.heap.size w w') : XI w' q A n c f g := ⟨h.v.of_block (hb.block _ h.v.lt), (h.s.below hb).more hb.size⟩
theorem XI.cells {w : World} {q : Nat} {A : Option Addr} {n c : Nat} {f : Nat → Int} {g : Bool} (h : XI w q A n c f g) : w.cell? ⟨q, 0, none⟩ = some (.slice A n c) ∧ w.cell? ⟨q, 1, none⟩ = some (.bool g) ∧ q < w.heap.size := ⟨h.v.cell (i := 0) (by omega), h.v.cell (i := 1) (by omega), h.v.lt⟩
theorem XI.mk' {w : World} {A : Option Addr} {n c : Nat} {f : Nat → Int} {g : Bool} (hs : Sees w w.heap.size A n (u8r f)) : XI (w.alloc (.cells #[.slice A n c, .bool g] 24)) w.heap.size A n c f g := by
  have b0 : Below w.heap.size w (w.alloc (.cells #[.slice A n c, .bool g] 24)) := (Below.refl _ w).alloc (Nat.le_refl _) _
  exact ⟨World.rowIs_alloc w #[.slice A n c, .bool g] 24 _ (fun j hj => by
    have : j = 0 ∨ j = 1 := by simp at hj; omega
    rcases this with rfl | rfl <;> rfl), (hs.below b0).more b0.size⟩
theorem size_ok {R : Rws} {k : Nat} (h : k < R.length) : atVal (szs R) (k : Int) = lf (szs R) k ∧ atErr (szs R) (k : Int) = 0 := by
  unfold atVal atErr
  rw [szs_len, if_neg (by omega), if_neg (by omega), Int.toNat_natCast]
  exact ⟨rfl, rfl⟩
theorem own_next {w : World} {B c k : Nat} {A : Option Addr} {L : List Int} (h : Own w B 2 1 (k + 1) c A (i64s fun j => if j < k then lf L j else lf L k)) : Own w B 2 1 (k + 1) c A (i64s (lf L)) :=
  h.congr fun j hj => by
    show Value.int .i64 (if j < k then lf L j else lf L k) = Value.int .i64 (lf L j)
    by_cases c : j < k
    · rw [if_pos c]
    · rw [if_neg c, show j = k by omega]
end Go.Proofs.YtfmfmeiaekknbaaGreat
end

section
/-
  Flags: become.
-/
namespace Go.Proofs.YtfmfmeiaekknbaaGreat
open Go.RowKit
set_option linter.unusedVariables false
set_option linter.unusedSimpArgs false

/-- Some slices of bits, one after another. -/
abbrev Lsts := List (Option Addr × Nat × List Bool)
def lg (L : Lsts) (k : Nat) : Option Addr × Nat × List Bool := L.getD k (none, 0, [])
def lsv (L : Lsts) : Nat → Value := fun k => .slice (lg L k).1 (lg L k).2.2.length (lg L k).2.1
def cat (L : Lsts) : List Bool := (L.map fun x => x.2.2).flatten
theorem lg_mem {L : Lsts} {k : Nat} (h : k < L.length) : lg L k ∈ L := by
  unfold lg; rw [List.getD_eq_getElem?_getD, List.getElem?_eq_getElem h]; exact List.getElem_mem h
theorem cat_take {L : Lsts} {k : Nat} (h : k < L.length) : cat (L.take (k + 1)) = cat (L.take k) ++ (lg L k).2.2 := by
  unfold cat lg
  rw [List.take_succ_eq_append_getElem h, List.map_append, List.flatten_append, List.getD_eq_getElem?_getD, List.getElem?_eq_getElem h]
  simp
theorem cat_len_le (L : Lsts) (k : Nat) : (cat (L.take k)).length ≤ (cat L).length := by
  unfold cat
  conv => rhs; rw [← List.take_append_drop k L, List.map_append, List.flatten_append, List.length_append]
  omega
theorem set_next (P : List Bool) (r : Nat) (v : Bool) : (P ++ List.replicate (r + 1) false).set P.length v = (P ++ [v]) ++ List.replicate r false := by
  rw [List.set_append_right _ _ (Nat.le_refl _), Nat.sub_self, List.replicate_succ, List.set_cons_zero, List.append_assoc]; rfl
theorem take_snoc {M : List Bool} {j : Nat} (h : j < M.length) : M.take (j + 1) = M.take j ++ [bt M j] := by
  rw [List.take_succ_eq_append_getElem h, bt_lt h]
theorem zc_one : Tryz.zeroCells152.all (·.oneCell') = true := by
  rw [Array.all_eq_true]
  intro i hi
  have h := zc_at i (by rw [zc_size] at hi; exact hi)
  rw [Array.getElem?_eq_getElem hi] at h
  injection h with h
  rw [h]; split <;> rfl
/-- False bits alone, more of them. -/
theorem Fl.grow {w : World} {p a : Nat} (h : Fl w p (List.replicate a false)) (b : Nat) (hb : b ≤ 4096) : Fl (w.setCell ⟨p, 0, none⟩ (.int .i64 b)) p (List.replicate b false) := by
  refine ⟨World.rowIs.congr (World.rowIs.set h.row 0 (.int .i64 b)) fun j hj => ?_, by simp; exact hb, fun k hk => ?_, h.pos⟩
  · simp only [flc_rep]
    by_cases c : j = 0
    · rw [if_pos c, if_pos c]
    · rw [if_neg c, if_neg c, if_neg c]
  · have := h.pos
    rw [World.cell?_setCell_other]
    · exact h.tab k hk
    · intro e; injection e with e; omega
theorem Fl.clear {w : World} {p : Nat} {l : List Bool} (h : Fl w p l) : Fl (w.setRow p Tryz.zeroCells152) p (List.replicate 0 false) ∧ Fr (fun b => b = p) w (w.setRow p Tryz.zeroCells152) ∧ (Instr.storeAt 152 (.pointer (some ⟨p, 0, none⟩)) (.agg Tryz.zeroCells152)).run Tryz.prog w = .ok () (w.setRow p Tryz.zeroCells152) := by
  obtain ⟨cur, hg, hsz, hc⟩ := h.row
  have hfr : Fr (fun b => b = p) w (w.setRow p Tryz.zeroCells152) := ⟨rfl, rfl, rfl, by simp, fun k _ hk => setRow_other w p k _ hk⟩
  refine ⟨⟨⟨_, setRow_heap w p cur _ _ _ hg, zc_size, fun j hj => ?_⟩, by simp, ?_, h.pos⟩, hfr, ?_⟩
  · rw [zc_at j hj, flc_rep]
    by_cases c : j = 0
    · subst c; rfl
    · by_cases d : j = 1
      · subst d; rfl
      · rw [if_neg (by omega), if_neg c, if_neg d]
  · intro i hi
    have := h.pos
    rw [cell_setRow_other _ _ _ _ (show 0 ≠ p by omega)]
    exact h.tab i hi
  · simp only [Instr.storeAt, Instr.sureAddr, Sem.run_bind, Sem.run_pure, Result.andThen]
    exact run_storeVar_row _ _ 152 152 cur _ hg (by rw [zc_size]; exact infoFl) (by rw [zc_size]; exact hsz) zc_one
set_option maxRecDepth 100000 in
set_option maxHeartbeats 6400000 in
theorem become_any (w : World) (p : Nat) (l0 : List Bool) (h : Fl w p l0) (L : Lsts) (g : Nat) (hG : w.rowIs g 155 L.length (lsv L)) (hgp : g ≠ p) (hL : ∀ x ∈ L, SeesO (fun b => b = p) w x.1 x.2.2.length (bvs x.2.2)) (hN : (cat L).length ≤ 4096) (hm : L.length ≤ 100) :
    Calls Tryz.prog 92 #[.pointer (some ⟨p, 0, none⟩), .slice (some ⟨g, 0, none⟩) L.length L.length] w fun e w' => e = .returned (.tuple #[]) ∧ Fl w' p (cat L) ∧ Fr (fun b => b = p) w w' := by
  obtain ⟨h1, h2, h3⟩ := h.clear
  have F0 := Lib.hid h1
  have R0 := Lib.hid h2
  have ST := Lib.hid h3
  have HG := Lib.hid hG
  have HL := Lib.hid hL
  obtain ⟨N, eN⟩ : ∃ N, N = (cat L).length := ⟨_, rfl⟩
  rw [← eN] at hN
  have EN := Lib.hid eN
  obtain ⟨m, em⟩ : ∃ m, m = L.length := ⟨_, rfl⟩
  rw [← em] at hm HG ⊢
  have EM := Lib.hid em
  clear h1 h2 h3 h hG hL eN em
  go_enter Tryz.func92, Tryz.ntmps92
  go_wp2_with (refine wpList_store_run rfl 152 _ _ rfl _ _ rfl rfl ST.out ?_)
  generalize w.setRow p Tryz.zeroCells152 = w1 at F0 R0 ⊢
  clear ST
  go_loopw [16] (fun i wr => ∃ k : Nat, k ≤ m ∧ i = .int .i64 k ∧ Hid (Fl wr p (List.replicate (cat (L.take k)).length false)) ∧ Hid (Fr (fun b => b = p) w wr)) (fun i _ => m - (intOf i).toNat)
  case atStart => exact ⟨0, Nat.zero_le _, rfl, F0, R0⟩
  case round =>
    obtain ⟨k, hk, rfl, hF, hR⟩ := hrel
    clear F0 R0
    have HG1 := Lib.hid (HG.out.of_block (hR.out.block g HG.out.lt hgp))
    by_cases hlt : k < m
    · have hki : (k : Int) < (m : Int) := by omega
      have hc := HG1.out.cell (i := k) hlt
      obtain ⟨A, eA⟩ : ∃ x, x = (lg L k).1 := ⟨_, rfl⟩
      obtain ⟨q, eq⟩ : ∃ x, x = (lg L k).2.2.length := ⟨_, rfl⟩
      obtain ⟨cc, ecc⟩ : ∃ x, x = (lg L k).2.1 := ⟨_, rfl⟩
      rw [show lsv L k = .slice A q cc from by rw [eA, eq, ecc]; rfl] at hc
      have hct : Hid ((cat (L.take (k + 1))).length = (cat (L.take k)).length + q) := by
        show _ = _; rw [cat_take (by rw [← EM.out]; exact hlt), List.length_append, eq]
      have hle := cat_len_le L (k + 1)
      rw [← EN.out, hct.out] at hle
      have c0 := hF.out.cells.c0
      rw [List.length_replicate] at c0
      have z0 := hF.out.cells.fz 0
      have FG := Lib.hid (hF.out.grow ((cat (L.take k)).length + q) (by omega))
      rw [Int.natCast_add] at FG
      have FR : Hid (∀ v, Fr (fun b => b = p) w (wr.setCell ⟨p, 0, none⟩ v)) := fun v => hR.out.setCell (p := ⟨p, 0, none⟩) rfl v
      generalize (cat (L.take k)).length = a at c0 hct hle FG
      clear eA eq ecc hF hR HG1
      go_wp2_with fail
      go_roundw
      case rel => exact ⟨k + 1, hlt, by go_num, by rw [hct.out]; exact FG, FR.out _⟩
      case measure => simp [intOf]; omega
    · obtain rfl : k = m := by omega
      have F1 : Hid (Fl wr p (cat (L.take 0) ++ List.replicate (N - (cat (L.take 0)).length) false)) := by
        have := hF.out
        rw [EM.out, List.take_length, ← EN.out] at this
        exact this
      have R1 := Lib.hid hR.out
      clear hF hR HG1
      go_wp2_with fail
      go_loopw [6, 32] (fun i o wr => ∃ a : Nat, a ≤ k ∧ i = .int .i64 ((cat (L.take a)).length : Nat) ∧ o = .int .i64 a ∧ Hid (Fl wr p (cat (L.take a) ++ List.replicate (N - (cat (L.take a)).length) false)) ∧ Hid (Fr (fun b => b = p) w wr)) (fun _ o _ => k - (intOf o).toNat)
      case atStart => exact ⟨0, Nat.zero_le _, rfl, rfl, F1, R1⟩
      case round =>
        obtain ⟨a, ha, rfl, rfl, hF, hR⟩ := hrel
        clear F1 R1
        have HG1 := Lib.hid (HG.out.of_block (hR.out.block g HG.out.lt hgp))
        by_cases hlt : a < k
        · have hai : (a : Int) < (k : Int) := by omega
          have hc := HG1.out.cell (i := a) hlt
          have HS := Lib.hid (HL.out _ (lg_mem (show a < L.length by rw [← EM.out]; exact hlt)))
          have hct : Hid (cat (L.take (a + 1)) = cat (L.take a) ++ (lg L a).2.2) := cat_take (by rw [← EM.out]; exact hlt)
          have hle := cat_len_le L (a + 1)
          rw [← EN.out, hct.out, List.length_append] at hle
          obtain ⟨A, M, cc, eL⟩ : ∃ A M cc, lg L a = (A, cc, M) := ⟨_, _, _, rfl⟩
          rw [show lsv L a = .slice A M.length cc from by unfold lsv; rw [eL]] at hc
          rw [eL] at HS hct hle
          clear eL
          obtain ⟨P, eP⟩ : ∃ P, P = cat (L.take a) := ⟨_, rfl⟩
          rw [← eP] at hct hF hle ⊢
          obtain ⟨i0, ei⟩ : ∃ i, i = P.length := ⟨_, rfl⟩
          obtain ⟨q, eq⟩ : ∃ q, q = M.length := ⟨_, rfl⟩
          have hle : i0 + q ≤ N := by rw [ei, eq]; exact hle
          have EI := Lib.hid ei
          have EQ := Lib.hid eq
          rw [← eq] at hc
          rw [← ei]
          clear ei eq eP
          have F2 : Hid (Fl wr p (P ++ M.take 0 ++ List.replicate (N - (i0 + 0)) false)) := by
            have := hF.out
            rw [← EI.out] at this
            show Fl wr p (P ++ [] ++ _)
            rw [List.append_nil]
            exact this
          have R2 := Lib.hid hR.out
          clear hF hR HG1
          go_wp2_with fail
          go_loopw [6, 38] (fun i o wr => ∃ j : Nat, j ≤ q ∧ i = .int .i64 (i0 + j : Nat) ∧ o = .int .i64 j ∧ Hid (Fl wr p (P ++ M.take j ++ List.replicate (N - (i0 + j)) false)) ∧ Hid (Fr (fun b => b = p) w wr)) (fun _ o _ => q - (intOf o).toNat)
          case atStart => exact ⟨0, Nat.zero_le _, rfl, rfl, F2, R2⟩
          case round =>
            obtain ⟨j, hj, rfl, rfl, hF, hR⟩ := hrel
            clear F2 R2 hc
            by_cases hlt2 : j < q
            · have hji : (j : Int) < (q : Int) := by omega
              obtain ⟨b, o, rfl, _, _, hcell⟩ := (HS.out.fr hR.out) (by show 0 < M.length; rw [← EQ.out]; omega)
              have hc := hcell j (by show j < M.length; rw [← EQ.out]; exact hlt2)
              rw [show bvs M j = .bool (bt M j) from rfl] at hc
              have lP : (P ++ M.take j).length = i0 + j := by rw [List.length_append, List.length_take, EI.out, Nat.min_eq_left (by rw [← EQ.out]; exact hj)]
              have KP := fput_any wr p _ hF.out (i0 + j) (by rw [List.length_append, lP, List.length_replicate]; omega) (bt M j)
              rw [show N - (i0 + j) = (N - (i0 + (j + 1))) + 1 from by omega] at KP
              rw [show (P ++ M.take j ++ List.replicate (N - (i0 + (j + 1)) + 1) false).set (i0 + j) (bt M j) = P ++ M.take (j + 1) ++ List.replicate (N - (i0 + (j + 1))) false from by
                rw [← lP, set_next, take_snoc (by rw [← EQ.out]; exact hlt2), List.append_assoc P]] at KP
              have KP := Lib.hid KP
              have hR2 := Lib.hid hR.out
              generalize bt M j = v at hc KP
              have h4 : i0 + j < 4096 := by omega
              clear lP hcell hF hR
              go_wp2_with fail
              refine (KP.out).mono ?_
              rintro e w2 ⟨rfl, k1, k2⟩
              have F3 := Lib.hid k1
              have R3 := Lib.hid (hR2.out.trans k2)
              clear k1 k2 KP hR2 hc
              go_wp2_with fail
              go_roundw
              case rel => exact ⟨j + 1, hlt2, by go_num, by go_num, F3, R3⟩
              case measure => simp [intOf]; omega
            · obtain rfl : j = q := by omega
              have F3 : Hid (Fl wr p (cat (L.take (a + 1)) ++ List.replicate (N - (cat (L.take (a + 1))).length) false)) := by
                have := hF.out
                rw [EQ.out, List.take_length, EI.out] at this
                rw [hct.out, List.length_append]
                exact this
              have hl3 : (cat (L.take (a + 1))).length = i0 + j := by rw [hct.out, List.length_append, EI.out, EQ.out]
              have HL3 := Lib.hid hl3
              have R3 := Lib.hid hR.out
              clear hF hR hl3
              go_wp2_with fail
              go_roundw
              case rel => exact ⟨a + 1, by omega, by rw [HL3.out], by go_num, F3, R3⟩
              case measure => simp [intOf]; omega
        · obtain rfl : a = k := by omega
          have F3 : Hid (Fl wr p (cat L)) := by
            have := hF.out
            rw [EM.out, List.take_length, ← EN.out, Nat.sub_self] at this
            rw [show List.replicate 0 false = [] from rfl, List.append_nil] at this
            exact this
          have R3 := Lib.hid hR.out
          clear hF hR
          go_wp2_with fail
          go_end0
          exact ⟨rfl, F3.out, R3.out⟩
end Go.Proofs.YtfmfmeiaekknbaaGreat
end

section
/-
  The reference of layer 4: Insert, Move.
-/
namespace Go.Proofs.YtfmfmeiaekknbaaGreat
open Go.RowKit
set_option linter.unusedVariables false
set_option linter.unusedSimpArgs false

def fMov (L : List Bool) (k m q : Nat) : List Bool := (fRem L k m).take q ++ (L.drop k).take m ++ (fRem L k m).drop q
theorem fMov_len {L : List Bool} {k m q : Nat} (h : k + m ≤ L.length) (hq : q ≤ L.length - m) : (fMov L k m q).length = L.length := by
  unfold fMov; rw [List.length_append, List.length_append, List.length_take, List.length_drop, List.length_take, List.length_drop, fRem_len h]; omega
end Go.Proofs.YtfmfmeiaekknbaaGreat
end

section
/-
  Flags: Remove, Insert, Move.
-/
namespace Go.Proofs.YtfmfmeiaekknbaaGreat
open Go.RowKit
set_option linter.unusedVariables false
set_option linter.unusedSimpArgs false

theorem become_at (w1 : World) (p : Nat) (l : List Bool) (F1 : Fl w1 p l) (L : Lsts) (cs : Array Value) (hz : cs.size = L.length) (hc : ∀ j, j < L.length → cs[j]? = some (lsv L j)) (hL : ∀ x ∈ L, SeesO (fun b => b = p) w1 x.1 x.2.2.length (bvs x.2.2)) (hN : (cat L).length ≤ 4096) (hm : L.length ≤ 100) :
    Calls Tryz.prog 92 #[.pointer (some ⟨p, 0, none⟩), .slice (some ⟨w1.heap.size, 0, none⟩) L.length L.length] (w1.alloc (.cells cs 155)).drew fun e w' => e = .returned (.tuple #[]) ∧ Fl w' p (cat L) ∧ Fr (fun b => b = p) w1 w' := by
  have hf : Fr (fun b => b = p) w1 (w1.alloc (.cells cs 155)).drew := ((Fr.refl _ w1).alloc _).drawn ⟨1, rfl⟩
  have hb : Below w1.heap.size w1 (w1.alloc (.cells cs 155)).drew := ((Below.refl w1.heap.size w1).alloc (Nat.le_refl _) _).drew
  have hr := World.rowIs_alloc w1 cs 155 (lsv L) (fun j hj => by rw [hc j (by omega)])
  rw [hz] at hr
  refine (become_any _ p l (F1.below hb) L w1.heap.size hr (by have := F1.lt; omega) (fun x hx => (hL x hx).fr hf) hN hm).mono ?_
  rintro e w' ⟨rfl, h1, h2⟩
  exact ⟨rfl, h1, hf.trans h2⟩
theorem row_seesO {w : World} {p g n : Nat} {l : List Bool} (h : w.rowIs g 4 n (bvs l)) (hn : n = l.length) (hgp : g ≠ p) : SeesO (fun b => b = p) w (some ⟨g, 0, none⟩) l.length (bvs l) := by
  intro _
  subst hn
  exact ⟨g, 0, rfl, h.lt, hgp, fun j hj => by rw [Nat.zero_add]; exact h.cell hj⟩
theorem SeesO.first {S : Nat → Prop} {w : World} {A : Option Addr} {l : List Bool} (h : SeesO S w A l.length (bvs l)) (k : Nat) (hk : k ≤ l.length) : SeesO S w A (l.take k).length (bvs (l.take k)) := by
  intro hn
  rw [List.length_take, Nat.min_eq_left hk] at hn
  obtain ⟨b, o, h1, h2, h3, h4⟩ := h (by omega)
  refine ⟨b, o, h1, h2, h3, fun j hj => ?_⟩
  rw [List.length_take, Nat.min_eq_left hk] at hj
  rw [h4 j (by omega), bvs_at, bvs_at, bt_take hj]
theorem SeesO.part {S : Nat → Prop} {w : World} {b o c lo hi : Nat} {l : List Bool} (h : SeesO S w (some ⟨b, o, none⟩) l.length (bvs l)) (hnc : l.length ≤ c) (h1 : lo ≤ hi) (h2 : hi ≤ l.length) : SeesO S w (subA (some ⟨b, o, none⟩) c lo 1) ((l.drop lo).take (hi - lo)).length (bvs ((l.drop lo).take (hi - lo))) := by
  intro hn
  rw [List.length_take, List.length_drop, Nat.min_eq_left (by omega)] at hn
  obtain ⟨b', o', e, h3, h4, h5⟩ := h (by omega)
  injection e with e; injection e with e1 e2
  subst e1; subst e2
  refine ⟨b, o + lo, ?_, h3, h4, fun j hj => ?_⟩
  · unfold subA
    rw [if_neg (by omega)]
    show some (Addr.add _ _) = _
    rw [add_none, Nat.mul_one]
  · rw [List.length_take, List.length_drop, Nat.min_eq_left (by omega)] at hj
    rw [Nat.add_assoc, h5 _ (by omega), bvs_at, bvs_at, bt_take hj, bt_drop]
theorem SeesO.rest {S : Nat → Prop} {w : World} {b o c lo : Nat} {l : List Bool} (h : SeesO S w (some ⟨b, o, none⟩) l.length (bvs l)) (hnc : l.length ≤ c) (h1 : lo ≤ l.length) : SeesO S w (subA (some ⟨b, o, none⟩) c lo 1) (l.drop lo).length (bvs (l.drop lo)) := by
  have := SeesO.part h hnc h1 (Nat.le_refl _)
  rwa [List.take_of_length_le (by rw [List.length_drop]; exact Nat.le_refl _)] at this
theorem Fl.chkErr {w : World} {p : Nat} {l : List Bool} (h : Fl w p l) (i k : Int) : flErr l.length i k = fRemErr l i k := by
  unfold flErr fRemErr; rfl
end Go.Proofs.YtfmfmeiaekknbaaGreat
end

section
/-
  Flags: Move.
-/
namespace Go.Proofs.YtfmfmeiaekknbaaGreat
open Go.RowKit
set_option linter.unusedVariables false
set_option linter.unusedSimpArgs false

theorem subA_some (g c lo : Nat) : subA (some ⟨g, 0, none⟩) c lo 1 = some ⟨g, if c = lo then 0 else lo, none⟩ := by
  unfold subA
  by_cases h : c = lo
  · rw [if_pos h, if_pos h]
  · rw [if_neg h, if_neg h]
    show some (Addr.add _ _) = _
    rw [add_none, Nat.zero_add, Nat.mul_one]
/-- What the list holds behind the two copies. -/
def shut (l : List Bool) (k m : Nat) : List Bool := fRem l k m ++ l.drop (l.length - m)
theorem shut_len {l : List Bool} {k m : Nat} (h : k + m ≤ l.length) : (shut l k m).length = l.length := by
  unfold shut; rw [List.length_append, fRem_len h, List.length_drop]; omega
theorem bt_fRem {l : List Bool} {k m : Nat} (h : k + m ≤ l.length) (j : Nat) : bt (fRem l k m) j = if j < k then bt l j else bt l (j + m) := by
  unfold fRem
  rw [bt_app, List.length_take, Nat.min_eq_left (by omega)]
  by_cases c : j < k
  · rw [if_pos c, if_pos c, bt_take c]
  · rw [if_neg c, if_neg c, bt_drop, show k + m + (j - k) = j + m from by omega]
theorem bt_shut {l : List Bool} {k m : Nat} (h : k + m ≤ l.length) (j : Nat) : bt (shut l k m) j = if k ≤ j ∧ j < k + (l.length - (k + m)) then bt l (j + m) else bt l j := by
  unfold shut
  rw [bt_app, fRem_len h, bt_fRem h, bt_drop]
  by_cases c : j < l.length - m
  · rw [if_pos c]
    by_cases d : j < k
    · rw [if_pos d, if_neg (by omega)]
    · rw [if_neg d, if_pos (by omega)]
  · rw [if_neg c, if_neg (by omega), show l.length - m + (j - (l.length - m)) = j from by omega]
theorem shut_take {l : List Bool} {k m q : Nat} (h : k + m ≤ l.length) (hq : q ≤ l.length - m) : (shut l k m).take q = (fRem l k m).take q := by
  unfold shut; rw [List.take_append_of_le_length (by rw [fRem_len h]; exact hq)]
theorem shut_part {l : List Bool} {k m q : Nat} (h : k + m ≤ l.length) (hq : q ≤ l.length - m) : ((shut l k m).drop q).take (l.length - m - q) = (fRem l k m).drop q := by
  unfold shut
  rw [List.drop_append_of_le_length (by rw [fRem_len h]; exact hq), List.take_append_of_le_length (by rw [List.length_drop, fRem_len h]; exact Nat.le_refl _), List.take_of_length_le (by rw [List.length_drop, fRem_len h]; exact Nat.le_refl _)]
/-- copy(moved, l[at:]), copy(l[at:], l[at+n:]). -/
theorem two_copies (w : World) (g gm n k m : Nat) (l : List Bool) (hn : n = l.length) (hg : w.rowIs g 4 n (bvs l)) (hm : w.rowIs gm 4 m (fun _ => .bool false)) (hne : g ≠ gm) (hkm : k + m ≤ n) :
    ∃ w1, (∀ ty, (Builtin.copy_ #[155, 155] ty #[.slice (some ⟨gm, 0, none⟩) m m, .slice (subA (some ⟨g, 0, none⟩) n k 1) (n - k) (n - k)]).run Tryz.prog w = .ok (goInt m) w1) ∧
      ∃ w2, (∀ ty, (Builtin.copy_ #[155, 155] ty #[.slice (subA (some ⟨g, 0, none⟩) n k 1) (n - k) (n - k), .slice (subA (some ⟨g, 0, none⟩) n (k + m) 1) (n - (k + m)) (n - (k + m))]).run Tryz.prog w1.drew = .ok (goInt (n - (k + m) : Nat)) w2) ∧
        w2.rowIs g 4 n (bvs (shut l k m)) ∧ w2.rowIs gm 4 m (bvs ((l.drop k).take m)) ∧ Only w w1 gm ∧ Only w1.drew w2 g := by
  have hs : Sees w w.heap.size (some ⟨g, 0, none⟩) (n * 1) (bvs l) := by rw [Nat.mul_one]; exact Sees.row hg (Nat.le_refl _)
  have h1 := sees_sub (sz := 1) (c := n) (lo := k) (hi := n) hs (Nat.le_refl _) (by omega) (Nat.le_refl _)
  rw [Nat.mul_one] at h1
  obtain ⟨w1, r1, m1, o1⟩ := copy_row (P := Tryz.prog) w (dT := 155) (sT := 155) Tryz.underlying155 infoB1 hm 0 m m h1 (fun j => rfl) m (by show m = min (n - k) m; omega) (by omega) (sCap := n - k)
  have hg1 : w1.rowIs g 4 n (bvs l) := o1.row hg hne
  have hgd : w1.drew.rowIs g 4 n (bvs l) := hg1
  have hs2 : Sees w1.drew w1.drew.heap.size (some ⟨g, 0, none⟩) (n * 1) (bvs l) := by rw [Nat.mul_one]; exact Sees.row hgd (Nat.le_refl _)
  have h2 := sees_sub (sz := 1) (c := n) (lo := k + m) (hi := n) hs2 (Nat.le_refl _) (by omega) (Nat.le_refl _)
  rw [Nat.mul_one] at h2
  obtain ⟨w2, r2, m2, o2⟩ := copy_row (P := Tryz.prog) w1.drew (dT := 155) (sT := 155) Tryz.underlying155 infoB1 hgd (if n = k then 0 else k) (n - k) (n - k) h2 (fun j => rfl) (n - (k + m)) (by show _ = min (n - (k + m)) (n - k); omega) (by split <;> omega) (sCap := n - (k + m))
  refine ⟨w1, r1, w2, by rw [subA_some g n k]; exact r2, m2.congr fun j hj => ?_, (o2.row (show w1.drew.rowIs gm _ _ _ from m1) (Ne.symm hne)).congr fun j hj => ?_, o1, o2⟩
  · show (if (if n = k then 0 else k) ≤ j ∧ j < (if n = k then 0 else k) + (n - (k + m)) then Value.bool (bt l ((k + m) * 1 + (j - if n = k then 0 else k))) else Value.bool (bt l j)) = Value.bool (bt (shut l k m) j)
    rw [bt_shut (by omega), ← hn]
    by_cases c0 : n = k
    · rw [if_neg (by omega), if_neg (by omega)]
    · rw [if_neg c0]
      by_cases c : k ≤ j ∧ j < k + (n - (k + m))
      · rw [if_pos c, if_pos c]
        congr 2; omega
      · rw [if_neg c, if_neg c]
  · show (if 0 ≤ j ∧ j < 0 + m then Value.bool (bt l (k * 1 + (j - 0))) else Value.bool false) = Value.bool (bt ((l.drop k).take m) j)
    rw [if_pos (by omega), bt_take hj, bt_drop]
    congr 2; omega
set_option maxRecDepth 100000 in
set_option maxHeartbeats 6400000 in
theorem fmov_ok (w : World) (p : Nat) (l : List Bool) (h : Fl w p l) (k m q : Nat) (hkm : k + m ≤ l.length) (hq : q ≤ l.length - m) :
    Calls Tryz.prog 38 #[.pointer (some ⟨p, 0, none⟩), .int .i64 k, .int .i64 m, .int .i64 q] w fun e w' => e = .returned (.int .i64 0) ∧ Fl w' p (fMov l k m q) ∧ Fr (fun b => b = p) w w' := by
  have hn := h.len
  have KC := Lib.hid (flcheck_any w p l h k m ⟨by omega, by omega⟩ ⟨by omega, by omega⟩)
  rw [flErr_0 (by omega)] at KC
  have KL := Lib.hid (flist_any w p l h)
  have HF := Lib.hid h
  have c0 := h.cells.c0
  obtain ⟨n, en⟩ : ∃ n, n = l.length := ⟨_, rfl⟩
  rw [← en] at hn hkm KL hq c0
  have EN := Lib.hid en
  have hmk := make_F m (by omega)
  have q1 : ¬ (q : Int) < 0 := by omega
  have q2 : ¬ (n : Int) - (m : Int) < (q : Int) := by omega
  clear h en
  go_enter Tryz.func38, Tryz.ntmps38
  go_wp2_with fail
  refine (KC.out).mono ?_
  rintro e w' ⟨rfl, rfl⟩
  go_wp2_with fail
  clear c0 q1 q2 KC
  refine (KL.out).mono ?_
  rintro e w1 ⟨g, rfl, h1, h2, h3⟩
  have F1 := Lib.hid (HF.out.below h3)
  have hgp : g ≠ p := by have := HF.out.lt; omega
  have hg1 := h1.lt
  obtain ⟨W2, e2⟩ : ∃ W, W = w1.alloc (.cells (madeCells #[.bool false] m) 4) := ⟨_, rfl⟩
  have B2 : Hid (Below w1.heap.size w1 W2) := by rw [e2]; exact (Below.refl _ w1).alloc (Nat.le_refl _) _
  have RM : W2.rowIs w1.heap.size 4 m (fun _ => .bool false) := by rw [e2]; exact World.rowIs_made w1 (.bool false) m 4
  have RG : W2.rowIs g 4 n (bvs l) := h1.of_block (B2.out.block g hg1)
  obtain ⟨w3, r3, w4, r4, m3, m4, o3, o4⟩ := two_copies W2 g w1.heap.size n k m l EN.out RG RM (by omega) hkm
  have SA := slF_l (some ⟨g, 0, none⟩) n n k (by omega)
  have SB := slF_l (some ⟨g, 0, none⟩) n n (k + m) hkm
  rw [Int.natCast_add] at SB
  have hi6 : IntKind.i64.wrap ((k : Int) + (m : Int)) = (k : Int) + (m : Int) := IntWalk.i64_in _ (by omega)
  have S0 : Hid (Fr (fun b => b = g) w3 w3.drew) := (Fr.refl _ _).drawn ⟨1, rfl⟩
  have S1 : Hid (Fr (fun b => b = g) w3 w4) := S0.out.trans ⟨o4.os, o4.tape, o4.output, o4.size, fun x hx hn => o4.block x hx (fun e => hn (by injection e))⟩
  have O3 : Hid (Fr (fun b => b = w1.heap.size) W2 w3) := ⟨o3.os, o3.tape, o3.output, o3.size, fun x hx hn => o3.block x hx (fun e => hn (by injection e))⟩
  have B1 := Lib.hid h3
  have M3 := Lib.hid m3
  have M4 := Lib.hid m4
  have HGP := Lib.hid hgp
  have HG2 := Lib.hid h2
  have R3 := Lib.hid r3
  have R4 := Lib.hid r4
  have E2 := Lib.hid e2
  have HSA := Lib.hid SA
  clear KL h1 h2 h3 RM RG m3 m4 o3 o4 r3 r4 e2 hgp SB hi6
  have rc := R3.out
  rw [E2.out] at rc
  go_wp2_with fail
  clear SA rc hmk
  have SA := HSA.out
  have SB := slF_l (some ⟨g, 0, none⟩) n n (k + m) hkm
  rw [Int.natCast_add] at SB
  have hi6 : IntKind.i64.wrap ((k : Int) + (m : Int)) = (k : Int) + (m : Int) := IntWalk.i64_in _ (by omega)
  refine wp_region_plan [(false, 0), (false, 1), (false, 2), (false, 3), (false, 4), (false, 5), (false, 6), (false, 7), (true, 8)] (Fr (fun b => b = g) w3) (by kernel_rfl) (by kernel_rfl) (S0.out) _ (by simp only [pickH, List.getElem?_toArray, List.getElem?_cons_succ, List.getElem?_cons_zero]; rfl) ?_
  repeat (refine HWalk.step (fun K hK => ?_); first | (apply held_yes; (focus rfl); (focus (intro w' hw; have hc' := fr_cells hw; go_simp; rfl)); (go_simp; refine hK _ ?_; clear hK K)) | (refine ite_no (by decide) ?_; go_simp; refine hK _ ?_; clear hK K))
  clear SA SB hi6
  have rc := R4.out
  refine HWalk.mark ?_
  go_wp2_with fail
  clear rc
  refine ⟨S1.out, ?_⟩
  repeat (refine HWalk.step (fun K hK => ?_); first | (apply held_yes; (focus rfl); (focus (intro w' hw; have hc' := fr_cells hw; go_simp; rfl)); (go_simp; refine hK _ ?_; clear hK K)) | (refine ite_no (by decide) ?_; go_simp; refine hK _ ?_; clear hK K))
  refine HWalk.done ?_
  go_wp2_with fail
  have F4 : Hid (Fl w4 p l) := by
    have f2 := F1.out.below B2.out
    have f3 := f2.fr O3.out (by have := F1.out.lt; omega) (fun i hi => by have := F1.out.lt; have := F1.out.pos; omega)
    exact f3.fr S1.out (fun e => HGP.out e.symm) (fun i hi => by have := HG2.out; have := HF.out.lt; have := HF.out.pos; omega)
  have FB : Hid (Fr (fun b => b = p) w w4) := by
    have b1 : Below w.heap.size w W2 := B1.out.trans (B2.out.mono B1.out.size)
    have b2 : Below w.heap.size W2 w3 := O3.out.below b1.size (by rintro b rfl; exact B1.out.size)
    have b3 : Below w.heap.size w3 w4 := S1.out.below (Nat.le_trans b1.size b2.size) (by rintro b rfl; exact HG2.out)
    exact Fr.of_below ((b1.trans b2).trans b3)
  obtain ⟨gm, egm⟩ : ∃ gm, gm = w1.heap.size := ⟨_, rfl⟩
  rw [← egm] at M4 ⊢
  have hgm : gm ≠ p := by have := F1.out.lt; omega
  clear egm R3 R4 E2 HSA S0 S1 O3 B1 B2 F1 HG2 hg1
  have c4 := F4.out.cells.c0
  rw [← EN.out] at c4
  have SA := slF_h (some ⟨g, 0, none⟩) n n q (by omega)
  have SB := slF_lh (some ⟨g, 0, none⟩) n n q (n - m) hq (by omega)
  rw [Int.natCast_sub (show m ≤ n by omega)] at SB
  have hi6 : IntKind.i64.wrap ((n : Int) - (m : Int)) = (n : Int) - (m : Int) := IntWalk.i64_in _ (by omega)
  have hl2 := shut_len (l := l) (k := k) (m := m) (by rw [← EN.out]; exact hkm)
  have hqs : q ≤ l.length - m := by rw [← EN.out]; exact hq
  have hkl : k + m ≤ l.length := by rw [← EN.out]; exact hkm
  have KB := become_at w4 p l F4.out [(some ⟨g, 0, none⟩, n, (fRem l k m).take q), (some ⟨gm, 0, none⟩, m, (l.drop k).take m), (subA (some ⟨g, 0, none⟩) n q 1, n - q, (fRem l k m).drop q)] #[.slice (some ⟨g, 0, none⟩) q n, .slice (some ⟨gm, 0, none⟩) m m, .slice (subA (some ⟨g, 0, none⟩) n q 1) (n - m - q) (n - q)] rfl (fun j hj => by
      have : j = 0 ∨ j = 1 ∨ j = 2 := by simp at hj; omega
      rcases this with rfl | rfl | rfl
      · show some (Value.slice (some ⟨g, 0, none⟩) q n) = some (.slice (some ⟨g, 0, none⟩) ((fRem l k m).take q).length n)
        rw [List.length_take, fRem_len hkl, Nat.min_eq_left hqs]
      · show some (Value.slice (some ⟨gm, 0, none⟩) m m) = some (.slice (some ⟨gm, 0, none⟩) ((l.drop k).take m).length m)
        rw [List.length_take, List.length_drop, Nat.min_eq_left (by omega)]
      · show some (Value.slice _ (n - m - q) _) = some (.slice _ ((fRem l k m).drop q).length _)
        rw [List.length_drop, fRem_len hkl, EN.out]; rfl) (fun x hx => by
      have hs := row_seesO M3.out (EN.out.trans hl2.symm) HGP.out
      simp only [List.mem_cons, List.not_mem_nil, or_false] at hx
      rcases hx with rfl | rfl | rfl
      · have := hs.first q (by rw [hl2]; omega)
        rwa [shut_take hkl hqs] at this
      · exact row_seesO M4.out (by rw [List.length_take, List.length_drop]; omega) hgm
      · have := SeesO.part (c := n) (lo := q) (hi := n - m) hs (by rw [hl2, EN.out]; exact Nat.le_refl _) hq (by rw [hl2, EN.out]; omega)
        rw [EN.out] at this ⊢
        rwa [shut_part hkl hqs] at this) (by
      show ((fRem l k m).take q ++ ((l.drop k).take m ++ ((fRem l k m).drop q ++ []))).length ≤ 4096
      rw [List.append_nil, ← List.append_assoc]
      show (fMov l k m q).length ≤ 4096
      rw [fMov_len hkl hqs, ← EN.out]; exact hn) (by show 3 ≤ 100; omega)
  rw [show cat [(some (⟨g, 0, none⟩ : Addr), n, (fRem l k m).take q), (some ⟨gm, 0, none⟩, m, (l.drop k).take m), (subA (some ⟨g, 0, none⟩) n q 1, n - q, (fRem l k m).drop q)] = fMov l k m q from by unfold cat fMov; simp] at KB
  have KB := Lib.hid KB
  have LM : Hid ((fMov l k m q).length = n) := by show _ = _; rw [fMov_len hkl hqs, EN.out]
  have S0 : Hid (Fr (fun b => b = p) w4 w4.drew ∧ w4.drew.cell? ⟨p, 0, none⟩ = some (.int .i64 n)) := ⟨(Fr.refl _ _).drawn ⟨1, rfl⟩, c4⟩
  have C4 := Lib.hid c4
  have hp4 := F4.out.lt
  clear hl2 hqs hkl hgm
  refine wp_region_plan [(false, 0), (false, 1), (false, 2), (false, 3), (false, 4), (false, 5), (false, 6), (false, 7), (false, 8), (false, 9), (false, 10), (false, 11), (false, 12), (false, 13), (true, 14), (true, 15)] (fun y => Fr (fun b => b = p) w4 y ∧ y.cell? ⟨p, 0, none⟩ = some (.int .i64 n)) (by kernel_rfl) (by kernel_rfl) (S0.out) _ (by simp only [pickH, List.getElem?_toArray, List.getElem?_cons_succ, List.getElem?_cons_zero]; rfl) ?_
  repeat (refine HWalk.step (fun K hK => ?_); first | (apply held_yes; (focus rfl); (focus (intro w' hw; have hc' := hw.2; go_simp; rfl)); (go_simp; refine hK _ ?_; clear hK K)) | (refine ite_no (by decide) ?_; go_simp; refine hK _ ?_; clear hK K))
  clear SA SB hi6
  refine HWalk.mark ?_
  go_wp2_with fail
  refine ⟨((Fr.refl _ w4).alloc _).drawn ⟨1, rfl⟩, ?_⟩
  repeat (refine HWalk.step (fun K hK => ?_); first | (apply held_yes; (focus rfl); (focus (intro w' hw; have hc' := hw.2; go_simp; rfl)); (go_simp; refine hK _ ?_; clear hK K)) | (refine ite_no (by decide) ?_; go_simp; refine hK _ ?_; clear hK K))
  refine HWalk.mark ?_
  go_wp2_with fail
  refine (KB.out).mono ?_
  rintro e w5 ⟨rfl, k1, k2⟩
  have F5 := Lib.hid k1
  have R5 := Lib.hid k2
  have c5 := k1.cells.c0
  rw [LM.out] at c5
  have C5 := Lib.hid c5
  clear k1 k2 c5 c4
  go_wp2_with fail
  refine ⟨⟨R5.out, C5.out⟩, ?_⟩
  repeat (refine HWalk.step (fun K hK => ?_); first | (apply held_yes; (focus rfl); (focus (intro w' hw; have hc' := hw.2; go_simp; rfl)); (go_simp; refine hK _ ?_; clear hK K)) | (refine ite_no (by decide) ?_; go_simp; refine hK _ ?_; clear hK K))
  refine HWalk.done ?_
  go_wp2_with fail
  go_ret
  exact ⟨rfl, F5.out, FB.out.trans R5.out⟩
end Go.Proofs.YtfmfmeiaekknbaaGreat
end

section
/-
  Package rises: Carry.
-/
namespace Go.Proofs.YtfmfmeiaekknbaaGreat
open Go.RowKit Go.Lib
set_option linter.unusedVariables false
set_option linter.unusedSimpArgs false

/-- A row that holds a list as it stands. -/
structure CR (w0 w : World) (g n c : Nat) (v : Nat → Int) : Prop where
  row : ∃ f, w.rowIs g 3 c f ∧ ∀ j, j < n → f j = .int .i64 (v j)
  nc : n ≤ c
  cm : c ≤ maxLen
  gb : w0.heap.size ≤ g
  bl : Below w0.heap.size w0 w
theorem CR.sees {w0 w : World} {g n c : Nat} {v : Nat → Int} (h : CR w0 w g n c v) {k : Nat} (hk : k ≤ n) : Sees w w.heap.size (some ⟨g, 0, none⟩) k (i64s v) := by
  obtain ⟨f, hr, hf⟩ := h.row
  exact (Sees.row hr (by have := h.nc; omega)).congr fun j hj => hf j (by omega)
theorem CR.lt {w0 w : World} {g n c : Nat} {v : Nat → Int} (h : CR w0 w g n c v) : g < w.heap.size := by
  obtain ⟨f, hr, hf⟩ := h.row
  exact hr.lt
theorem CR.below {w0 w w' : World} {g n c : Nat} {v : Nat → Int} (h : CR w0 w g n c v) (hb : Below w.heap.size w w') : CR w0 w' g n c v := by
  obtain ⟨f, hr, hf⟩ := h.row
  exact ⟨⟨f, hr.of_block (hb.block _ hr.lt), hf⟩, h.nc, h.cm, h.gb, h.bl.trans (hb.mono h.bl.size)⟩
theorem CR.congr {w0 w : World} {g n c : Nat} {v u : Nat → Int} (h : CR w0 w g n c v) (e : ∀ j, j < n → v j = u j) : CR w0 w g n c u := by
  obtain ⟨f, hr, hf⟩ := h.row
  exact ⟨⟨f, hr, fun j hj => by rw [hf j hj, e j hj]⟩, h.nc, h.cm, h.gb, h.bl⟩
theorem only_below {w0 w w' : World} {g : Nat} (ho : Only w w' g) (hb : Below w0.heap.size w0 w) (hg : w0.heap.size ≤ g) : Below w0.heap.size w0 w' := hb.trans (ho.below hg hb.size)
/-- Delete of one. -/
theorem cr_del (w0 w : World) (g n c a : Nat) (v : Nat → Int) (h : CR w0 w g n c v) (ha : a < n) (hn : n ≤ 4096) :
    Calls Tryz.prog 106 #[.slice (some ⟨g, 0, none⟩) n c, .int .i64 a, .int .i64 ((a : Int) + 1)] w fun e w' => e = .returned (.slice (some ⟨g, 0, none⟩) (n - 1) c) ∧
      (∃ f, w'.rowIs g 3 c f ∧ (∀ j, j < n → (f j).oneCell' = true) ∧ ∀ j, j < n - 1 → f j = .int .i64 (v (restF a 1 j))) ∧ n ≤ c ∧ c ≤ maxLen ∧ w0.heap.size ≤ g ∧ Below w0.heap.size w0 w' ∧ Only w w' g := by
  obtain ⟨f, hr, hf⟩ := h.row
  refine (sdel_one w g c n c a f hr (fun j hj => by rw [hf j hj]; rfl) h.nc (Nat.le_refl _) (by omega) ha).mono ?_
  rintro e w' ⟨rfl, ⟨f', r, o1, lo, hi⟩, on⟩
  refine ⟨rfl, ⟨f', r, o1, fun j hj => ?_⟩, h.nc, h.cm, h.gb, only_below on h.bl h.gb, on⟩
  unfold restF
  by_cases c1 : j < a
  · rw [if_pos c1, lo j c1, hf j (by omega)]
  · rw [if_neg c1, hi j (by omega) (by omega), hf (j + 1) (by omega)]
/-- Insert of one into what Delete left. -/
theorem cr_ins (w0 w : World) (g n c vb t a : Nat) (x : Int) (v : Nat → Int) (f : Nat → Value) (hr : w.rowIs g 3 c f) (h1 : ∀ j, j < n → (f j).oneCell' = true) (hf : ∀ j, j < n - 1 → f j = .int .i64 (v (restF a 1 j))) (hnc : n ≤ c) (hcm : c ≤ maxLen) (hg : w0.heap.size ≤ g) (hb : Below w0.heap.size w0 w)
    (hn : n ≤ 4096) (ha : a < n) (ht : t < n) (hx : v a = x) (hv : w.rowIs vb 3 1 (fun _ => .int .i64 x)) (hvg : vb ≠ g) :
    Calls Tryz.prog 107 #[.slice (some ⟨g, 0, none⟩) (n - 1) c, .int .i64 t, .slice (some ⟨vb, 0, none⟩) 1 1] w fun e w' => e = .returned (.slice (some ⟨g, 0, none⟩) n c) ∧ CR w0 w' g n c (fun j => v (movF a 1 t j)) := by
  by_cases c1 : t = n - 1
  · subst c1
    refine (sins_end w g c (n - 1) c vb 3 x f hr (fun j hj => h1 j (by omega)) (by omega) (Nat.le_refl _) (by omega) hv).mono ?_
    rintro e w' ⟨rfl, ⟨f', r, o1, lo, at_⟩, on⟩
    refine ⟨by rw [show n - 1 + 1 = n by omega], ⟨⟨f', r, fun j hj => ?_⟩, hnc, hcm, hg, only_below on hb hg⟩⟩
    unfold movF
    by_cases c2 : j < n - 1
    · rw [if_pos c2, lo j c2, hf j c2]
    · rw [if_neg c2, if_pos (by omega), show j = n - 1 by omega, at_, show a + (n - 1) - (n - 1) = a by omega, hx]
  · refine (sins_mid w g c (n - 1) c vb t 3 x f hr (fun j hj => h1 j (by omega)) (by omega) (by omega) (Nat.le_refl _) (by omega) hv hvg).mono ?_
    rintro e w' ⟨rfl, ⟨f', r, o1, lo, at_, hi⟩, on⟩
    refine ⟨by rw [show n - 1 + 1 = n by omega], ⟨⟨f', r, fun j hj => ?_⟩, hnc, hcm, hg, only_below on hb hg⟩⟩
    unfold movF
    by_cases c2 : j < t
    · rw [if_pos c2, lo j c2, hf j (by omega)]
    · rw [if_neg c2]
      by_cases c3 : j < t + 1
      · rw [if_pos c3, show j = t by omega, at_, show a + t - t = a by omega, hx]
      · have := hi (j - 1) (by omega) (by omega)
        rw [show j - 1 + 1 = j by omega] at this
        rw [if_neg c3, this, hf (j - 1) (by omega)]
/-- Where the number ahead stands once the one that moves is taken out. -/
theorem rest_at {n i a k : Nat} (hne : k ≠ a) (hk : k < n) (ha : a < n) (hi : ¬ i + 1 = n) : toF n i a k < n - 1 ∧ restF a 1 (toF n i a k) = k := by
  unfold toF restF
  rw [if_neg hi]
  by_cases c : a < k
  · rw [if_pos c, if_neg (by omega)]; omega
  · rw [if_neg c, if_pos (by omega)]; omega
theorem runF_take {n : Nat} {pos : Nat → Nat} {I : List Nat} {k : Nat} (h : k < I.length) : runF n pos (I.take (k + 1)) = stepF n pos (runF n pos (I.take k)) I[k] := by
  rw [List.take_succ_eq_append_getElem h, runF_snoc]
theorem slice_hx (A : Option Addr) (n c k : Nat) (h1 : k ≤ c) (wx : World) :
    (Instr.sliceAt 54 (.slice A n c) none (some (.int .i64 k)) (some (.int .i64 k))).run Tryz.prog wx = .ok (.slice A k k) wx := by
  have := slice_of_bounds (P := Tryz.prog) (sz := 1) Tryz.underlying54 (by kernel_rfl) A n c none (some (.int .i64 k)) (some (.int .i64 k)) (l := 0) (h := k) (m := k) (fun wx => by simp [Instr.sliceBounds, run_sliceBound, h1]) wx
  rw [subA_zero] at this
  exact this
theorem sclip_any (w : World) (A : Option Addr) (n c : Nat) (h : n ≤ c) : Calls Tryz.prog 108 #[.slice A n c] w fun e w' => e = .returned (.slice A n n) ∧ w = w' := by
  have s1 := slice_hx A n c n h
  go_enter Tryz.func108, Tryz.ntmps108
  go_wp2_with fail
  go_ret
  exact ⟨rfl, rfl⟩
theorem sclone_nil (w : World) (c : Nat) : Calls Tryz.prog 103 #[.slice none 0 c] w fun e w' => e = .returned (.slice none 0 0) ∧ w = w' := by
  have qn := fun W : World => Lib.run_eql_slice_nil (P := Tryz.prog) W 54 3 none 0 c 0 0 Tryz.underlying54
  rw [show (none : Option Addr).isNone = true from rfl] at qn
  go_enter Tryz.func103, Tryz.ntmps103
  go_wp2_with fail
  go_ret
  exact ⟨rfl, rfl⟩
theorem stOf_sg (m : Nat → Int) (n : Nat) (I : List Nat) {k : Nat} (h : k < I.length) : sg (I.map (stOf m n)) k = stOf m n I[k] := by
  unfold sg
  rw [List.getD_eq_getElem?_getD, List.getElem?_map, List.getElem?_eq_getElem h]; rfl
set_option maxRecDepth 100000 in
set_option maxHeartbeats 12800000 in
theorem rcarry_ok (w : World) (A : Option Addr) (n c : Nat) (l : Nat → Int) (hs : Sees w w.heap.size A n (i64s l)) (h0 : n = 0 → A = none) (hn : n ≤ 4096) (ho : Ord l n) (pos : Nat → Nat) (hp : ∀ i, i < n → pos i < n) (hpi : ∀ i k, i < n → k < n → pos i = pos k → i = k)
    (I : List Nat) (hI : ∀ i ∈ I, i < n) (B : Option Addr) (cB : Nat) (hst : SeesP w w.heap.size B (I.map (stOf (fun i => l (pos i)) n))) (hlen : I.length ≤ 4096) :
    Calls Tryz.prog 42 #[.slice A n c, .slice B I.length cB] w fun e w' => ∃ A', e = .returned (.tuple #[.slice A' n n, .int .i64 0]) ∧ Sees w' w'.heap.size A' n (i64s fun i => l ((runF n pos I).1 i)) ∧ Below w.heap.size w w' := by
  have KC := Lib.hid (rcheck_ok w A n c l hs hn ho)
  have hl1 : ¬ (4096 : Int) < (I.length : Int) := by omega
  by_cases n0 : n = 0
  · subst n0
    obtain rfl := h0 rfl
    obtain rfl : I = [] := by
      cases I with
      | nil => rfl
      | cons x I => exact absurd (hI x (.head _)) (by omega)
    clear hs h0 ho hp hpi hI hst hlen hl1
    go_enter Tryz.func42, Tryz.ntmps42
    go_wp2_with fail
    refine (KC.out).mono ?_
    rintro e w1 ⟨rfl, hb⟩
    have HB := Lib.hid hb
    clear hb KC
    go_wp2_with fail
    refine (sclone_nil w1 c).mono ?_
    rintro e w2 ⟨rfl, rfl⟩
    go_wp2_with fail
    go_loopw [24, 7] (fun iv ov wr => iv = .int .i64 0 ∧ ov = .slice none 0 0 ∧ w1 = wr) (fun _ _ _ => 0)
    case atStart => exact ⟨rfl, rfl, rfl⟩
    case round =>
      obtain ⟨rfl, rfl, rfl⟩ := hrel
      go_wp2_with fail
      refine (sclip_any w1 none 0 0 (Nat.le_refl _)).mono ?_
      rintro e w' ⟨rfl, rfl⟩
      go_wp2_with fail
      go_ret2
      exact ⟨none, rfl, fun h => absurd h (by omega), HB.out⟩
  have HO := Lib.hid ho
  have HP := Lib.hid hp
  have HI := Lib.hid hI
  have HPI := Lib.hid hpi
  have HST := Lib.hid hst
  have HSS := Lib.hid hs
  obtain ⟨N, eN⟩ : ∃ N, N = I.length := ⟨_, rfl⟩
  have EN := Lib.hid eN
  rw [← eN] at hlen hl1 ⊢
  clear hs h0 ho hp hI hpi hst eN
  go_enter Tryz.func42, Tryz.ntmps42
  go_wp2_with fail
  refine (KC.out).mono ?_
  rintro e w1 ⟨rfl, hb⟩
  have B1 := Lib.hid hb
  have KL := Lib.hid (sclone_any w1 A n c l ((HSS.out.below hb).more hb.size) (by omega) hn)
  clear hb KC
  go_wp2_with fail
  refine (KL.out).mono ?_
  rintro e w2 ⟨g, c', f, rfl, p1, p2, p3, p4, p5, hb⟩
  have CR0 : Hid (CR w w2 g n c' (fun j => l ((runF n pos (I.take 0)).1 j))) := ⟨⟨f, p4, p5⟩, p1, p2, Nat.le_trans B1.out.size p3, B1.out.trans (hb.mono B1.out.size)⟩
  clear p1 p2 p3 p4 p5 hb KL B1
  go_wp2_with fail
  go_loopw [24, 7] (fun iv ov wr => ∃ k : Nat, k ≤ N ∧ iv = .int .i64 k ∧ ov = .slice (some ⟨g, 0, none⟩) n c' ∧ Hid (CR w wr g n c' (fun j => l ((runF n pos (I.take k)).1 j)))) (fun iv _ _ => N - (intOf iv).toNat)
  case atStart => exact ⟨0, Nat.zero_le _, rfl, rfl, CR0⟩
  case round =>
    obtain ⟨k, hk, rfl, rfl, hR⟩ := hrel
    clear CR0
    by_cases hlt : k < N
    · have hki : (k : Int) < (N : Int) := by omega
      have hkI : k < I.length := by rw [← EN.out]; exact hlt
      obtain ⟨b, o, rfl, hb0, z0, z1⟩ := SeesP.cells (HST.out.below hR.out.bl) (k := k) (by rw [List.length_map]; exact hkI)
      have hi : I[k] < n := HI.out _ (List.getElem_mem hkI)
      have P := runF_pair HP.out (I.take k) fun i hi => HI.out i (List.mem_of_mem_take hi)
      rw [stOf_sg _ _ _ hkI] at z0 z1
      have NX := Lib.hid (runF_take (n := n) (pos := pos) hkI)
      obtain ⟨i, ei⟩ : ∃ i, i = I[k] := ⟨_, rfl⟩
      rw [← ei] at hi z0 z1 NX
      obtain ⟨F, eF⟩ : ∃ F, F = (runF n pos (I.take k)).1 := ⟨_, rfl⟩
      obtain ⟨G, eG⟩ : ∃ G, G = (runF n pos (I.take k)).2 := ⟨_, rfl⟩
      rw [← eF, ← eG] at P
      rw [← eF] at hR
      have ha := P.gl _ (HP.out i hi)
      have hfa := P.fg _ (HP.out i hi)
      have DIFF : Hid (∀ j q, j < n → q < n → F j ≠ q → l (F j) ≠ l q) := fun j q hj hq hne he => hne (HO.out.inj _ _ (P.fl j hj) hq he)
      have hneA : Hid (∀ j, j < G (pos i) → l (F j) ≠ l (pos i)) := fun j hj => DIFF.out j _ (by omega) (HP.out i hi) (fun h => by
        have := congrArg G h
        rw [P.gf j (by omega)] at this
        omega)
      have hx0 := HO.out.pos _ (HP.out i hi)
      have hxv : l (F (G (pos i))) = l (pos i) := by rw [hfa]
      have PH := Lib.hid P
      have NX1 : Hid (∀ j, (runF n pos (I.take (k + 1))).1 j = F (movF (G (pos i)) 1 (toF n i (G (pos i)) (G (pos (i + 1)))) j)) := fun j => by rw [NX.out]; unfold stepF; rw [← eF, ← eG]
      have TL : Hid (toF n i (G (pos i)) (G (pos (i + 1))) < n) := toF_lt (by omega) (fun h1 => P.gl _ (HP.out _ h1)) hi
      obtain ⟨a, ea⟩ : ∃ a, a = G (pos i) := ⟨_, rfl⟩
      obtain ⟨x, ex⟩ : ∃ x, x = l (pos i) := ⟨_, rfl⟩
      rw [← ea] at ha hneA NX1 TL hxv
      rw [← ex] at hneA hx0 hxv
      have EA := Lib.hid ea
      have EX := Lib.hid ex
      have ha0 : ¬ (a : Int) < 0 := by omega
      have hx1 : ¬ x = -1 := by omega
      by_cases hend : i + 1 = n
      · have hst2 : stOf (fun i => l (pos i)) n i = (x, -1) := by unfold stOf; rw [if_pos hend, ex]
        have ht : toF n i a (G (pos (i + 1))) = n - 1 := by unfold toF; rw [if_pos hend]
        rw [ht] at NX1 TL
        rw [hst2] at z0 z1
        clear NX ei hfa eF eG ea ex hst2 ht P hkI
        -- -1 the number ahead
        obtain ⟨q, eq⟩ : ∃ q, q = wr.heap.size := ⟨_, rfl⟩
        obtain ⟨wX, eX⟩ : ∃ W, W = wr.alloc (.cells #[.int .i64 x, .int .i64 (-1)] 69) := ⟨_, rfl⟩
        have bX : Below wr.heap.size wr wX := by rw [eX]; exact (Below.refl _ wr).alloc (Nat.le_refl _) _
        have SX : Hid (wX.rowIs q 69 2 (fun j => if j = 0 then .int .i64 x else .int .i64 (-1))) := by
          rw [eX, eq]
          exact World.rowIs_alloc wr _ _ _ (fun j hj => by
            have : j = 0 ∨ j = 1 := by simp at hj; omega
            rcases this with rfl | rfl <;> rfl)
        have CX := Lib.hid (hR.out.below bX)
        have GQ : Hid (g ≠ q) := by have := hR.out.lt; show _ ≠ _; omega
        have HX := Lib.hid eX
        have HQ := Lib.hid eq
        have K1 := Lib.hid (sidx_any wX wX.heap.size (some ⟨g, 0, none⟩) n c' (fun j => l (F j)) (CX.out.sees (Nat.le_refl _)) x a ha hxv hneA.out (by omega))
        obtain ⟨y0, y1, y2⟩ : wX.cell? ⟨q, 0, none⟩ = some (.int .i64 x) ∧ wX.cell? ⟨q, 1, none⟩ = some (.int .i64 (-1)) ∧ q < wX.heap.size := ⟨SX.out.cell (i := 0) (by omega), SX.out.cell (i := 1) (by omega), SX.out.lt⟩
        clear bX eX eq
        go_wp2_with fail
        rw [← HX.out, ← HQ.out]
        go_wp2_with fail
        refine (K1.out).mono ?_
        rintro e w' ⟨rfl, rfl⟩
        go_wp2_with fail
        clear K1
        have K3 := Lib.hid (cr_del w wX g n c' a (fun j => l (F j)) CX.out ha hn)
        refine (K3.out).mono ?_
        rintro e w3 ⟨rfl, ⟨f3, r3, o3, v3⟩, p1, p2, p3, p4, on⟩
        have R3 := Lib.hid r3
        have O3 := Lib.hid o3
        have V3 := Lib.hid v3
        have B3 := Lib.hid p4
        have PG := Lib.hid p3
        have S3 := Lib.hid (on.row SX.out (fun e => GQ.out e.symm))
        clear y0 y1 y2 K3 r3 o3 v3 p4 p3 on
        obtain ⟨y0, y1, y2⟩ : w3.cell? ⟨q, 0, none⟩ = some (.int .i64 x) ∧ w3.cell? ⟨q, 1, none⟩ = some (.int .i64 (-1)) ∧ q < w3.heap.size := ⟨S3.out.cell (i := 0) (by omega), S3.out.cell (i := 1) (by omega), S3.out.lt⟩
        go_wp2_with fail
        -- (n - 1) the place
        have RB : Hid ((w3.alloc (.cells #[.int .i64 x] 3)).rowIs w3.heap.size 3 1 (fun _ => .int .i64 x)) := World.rowIs_alloc w3 _ _ _ (fun j hj => by
          have : j = 0 := by simp at hj; omega
          subst this; rfl)
        have K5 := Lib.hid (cr_ins w _ g n c' w3.heap.size ((n - 1)) a x (fun j => l (F j)) f3 (row_alloc R3.out (.cells #[.int .i64 x] 3)) O3.out V3.out p1 p2 PG.out (B3.out.alloc B3.out.size _) hn ha TL.out hxv RB.out (fun e => by have := R3.out.lt; omega))
        refine (K5.out).mono ?_
        rintro e w5 ⟨rfl, hC⟩
        have C5 : Hid (CR w w5 g n c' (fun j => l ((runF n pos (I.take (k + 1))).1 j))) := hC.congr fun j hj => by rw [NX1.out]
        clear hC K5
        go_wp2_with fail
        go_roundw
        case rel => exact ⟨k + 1, by omega, by go_num, rfl, C5⟩
        case measure => simp [intOf]; omega
      · have hst2 : stOf (fun i => l (pos i)) n i = (x, l (pos (i + 1))) := by unfold stOf; rw [if_neg hend, ex]
        have hi1 : i + 1 < n := by omega
        have hk1 := P.gl _ (HP.out _ hi1)
        have hf1 := P.fg _ (HP.out _ hi1)
        have hka : G (pos (i + 1)) ≠ a := fun h => by
          have := congrArg F (h.trans EA.out)
          rw [hf1, hfa] at this
          have := HPI.out _ _ hi1 hi this
          omega
        obtain ⟨rt1, rt2⟩ := rest_at hka hk1 ha hend
        have hy0 := HO.out.pos _ (HP.out _ hi1)
        have hne2 : Hid (∀ j, j < G (pos (i + 1)) → l (F j) ≠ l (pos (i + 1))) := fun j hj => DIFF.out j _ (by omega) (HP.out _ hi1) (fun h => by
          have := congrArg G h
          rw [PH.out.gf j (by omega)] at this
          omega)
        have hxy : ¬ x = l (pos (i + 1)) := fun h => by
          have := HO.out.inj _ _ (HP.out _ hi) (HP.out _ hi1) (EX.out.symm.trans h)
          have := HPI.out _ _ hi hi1 this
          omega
        have hne3 : Hid (∀ j, j < toF n i a (G (pos (i + 1))) → l (F (restF a 1 j)) ≠ l (pos (i + 1))) := fun j hj => by
          have hu := restF_up (a := a) (m := 1) hj
          rw [rt2] at hu
          exact DIFF.out _ _ (by omega) (HP.out _ hi1) (fun h => by
            have := congrArg G h
            rw [PH.out.gf _ (by omega)] at this
            omega)
        have hyv : l (F (G (pos (i + 1)))) = l (pos (i + 1)) := by rw [hf1]
        have hyt : l (F (restF a 1 (toF n i a (G (pos (i + 1)))))) = l (pos (i + 1)) := by rw [rt2, hf1]
        generalize toF n i a (G (pos (i + 1))) = t at NX1 TL rt1 rt2 hne3 hyt
        generalize G (pos (i + 1)) = kk at *
        rw [hst2] at z0 z1
        generalize l (pos (i + 1)) = y at *
        have hy1 : ¬ y = -1 := by omega
        clear NX ei hfa hf1 eF eG ea ex hst2 P hka rt2 hkI
        -- y the number ahead
        obtain ⟨q, eq⟩ : ∃ q, q = wr.heap.size := ⟨_, rfl⟩
        obtain ⟨wX, eX⟩ : ∃ W, W = wr.alloc (.cells #[.int .i64 x, .int .i64 (y)] 69) := ⟨_, rfl⟩
        have bX : Below wr.heap.size wr wX := by rw [eX]; exact (Below.refl _ wr).alloc (Nat.le_refl _) _
        have SX : Hid (wX.rowIs q 69 2 (fun j => if j = 0 then .int .i64 x else .int .i64 (y))) := by
          rw [eX, eq]
          exact World.rowIs_alloc wr _ _ _ (fun j hj => by
            have : j = 0 ∨ j = 1 := by simp at hj; omega
            rcases this with rfl | rfl <;> rfl)
        have CX := Lib.hid (hR.out.below bX)
        have GQ : Hid (g ≠ q) := by have := hR.out.lt; show _ ≠ _; omega
        have HX := Lib.hid eX
        have HQ := Lib.hid eq
        have K1 := Lib.hid (sidx_any wX wX.heap.size (some ⟨g, 0, none⟩) n c' (fun j => l (F j)) (CX.out.sees (Nat.le_refl _)) x a ha hxv hneA.out (by omega))
        obtain ⟨y0, y1, y2⟩ : wX.cell? ⟨q, 0, none⟩ = some (.int .i64 x) ∧ wX.cell? ⟨q, 1, none⟩ = some (.int .i64 (y)) ∧ q < wX.heap.size := ⟨SX.out.cell (i := 0) (by omega), SX.out.cell (i := 1) (by omega), SX.out.lt⟩
        clear bX eX eq
        go_wp2_with fail
        rw [← HX.out, ← HQ.out]
        have K2 := Lib.hid (scont_any wX wX.heap.size (some ⟨g, 0, none⟩) n c' (fun j => l (F j)) (CX.out.sees (Nat.le_refl _)) y kk hk1 hyv hne2.out (by omega))
        go_wp2_with fail
        refine (K1.out).mono ?_
        rintro e w' ⟨rfl, rfl⟩
        go_wp2_with fail
        refine (K2.out).mono ?_
        rintro e w' ⟨rfl, rfl⟩
        go_wp2_with fail
        clear K1 K2
        have K3 := Lib.hid (cr_del w wX g n c' a (fun j => l (F j)) CX.out ha hn)
        refine (K3.out).mono ?_
        rintro e w3 ⟨rfl, ⟨f3, r3, o3, v3⟩, p1, p2, p3, p4, on⟩
        have R3 := Lib.hid r3
        have O3 := Lib.hid o3
        have V3 := Lib.hid v3
        have B3 := Lib.hid p4
        have PG := Lib.hid p3
        have S3 := Lib.hid (on.row SX.out (fun e => GQ.out e.symm))
        clear y0 y1 y2 K3 r3 o3 v3 p4 p3 on
        obtain ⟨y0, y1, y2⟩ : w3.cell? ⟨q, 0, none⟩ = some (.int .i64 x) ∧ w3.cell? ⟨q, 1, none⟩ = some (.int .i64 (y)) ∧ q < w3.heap.size := ⟨S3.out.cell (i := 0) (by omega), S3.out.cell (i := 1) (by omega), S3.out.lt⟩
        have K4 := Lib.hid (sidx_any w3 w3.heap.size (some ⟨g, 0, none⟩) (n - 1) c' (fun j => l (F (restF a 1 j))) ((Sees.row R3.out (by omega)).congr V3.out) y t rt1 hyt hne3.out (by omega))
        go_wp2_with fail
        refine (K4.out).mono ?_
        rintro e w' ⟨rfl, rfl⟩
        go_wp2_with fail
        clear K4
        -- t the place
        have RB : Hid ((w3.alloc (.cells #[.int .i64 x] 3)).rowIs w3.heap.size 3 1 (fun _ => .int .i64 x)) := World.rowIs_alloc w3 _ _ _ (fun j hj => by
          have : j = 0 := by simp at hj; omega
          subst this; rfl)
        have K5 := Lib.hid (cr_ins w _ g n c' w3.heap.size (t) a x (fun j => l (F j)) f3 (row_alloc R3.out (.cells #[.int .i64 x] 3)) O3.out V3.out p1 p2 PG.out (B3.out.alloc B3.out.size _) hn ha TL.out hxv RB.out (fun e => by have := R3.out.lt; omega))
        refine (K5.out).mono ?_
        rintro e w5 ⟨rfl, hC⟩
        have C5 : Hid (CR w w5 g n c' (fun j => l ((runF n pos (I.take (k + 1))).1 j))) := hC.congr fun j hj => by rw [NX1.out]
        clear hC K5
        go_wp2_with fail
        go_roundw
        case rel => exact ⟨k + 1, by omega, by go_num, rfl, C5⟩
        case measure => simp [intOf]; omega
    · obtain rfl : N = k := by omega
      have SC := Lib.hid (sclip_any wr (some ⟨g, 0, none⟩) n c' hR.out.nc)
      have FIN : Hid (Sees wr wr.heap.size (some ⟨g, 0, none⟩) n (i64s fun i => l ((runF n pos I).1 i)) ∧ Below w.heap.size w wr) := by
        have h := hR.out
        rw [List.take_of_length_le (by rw [← EN.out]; exact Nat.le_refl _)] at h
        exact ⟨h.sees (Nat.le_refl _), h.bl⟩
      go_wp2_with fail
      refine (SC.out).mono ?_
      rintro e w' ⟨rfl, rfl⟩
      go_wp2_with fail
      go_ret2
      exact ⟨_, rfl, FIN.out⟩
end Go.Proofs.YtfmfmeiaekknbaaGreat
end

section
/-
  Contracts of package ropes, sixteenth: List.
-/
namespace Go.Proofs.YtfmfmeiaekknbaaGreat
open Go.RowKit
set_option linter.unusedVariables false
set_option linter.unusedSimpArgs false

/-- The world in which List calls its closure. -/
def listW (w : World) (n : Nat) : World := ((w.alloc (.cells (madeCells #[.int .i64 0] n) 2)).alloc (.cells #[.slice (some ⟨w.heap.size, 0, none⟩) 0 n] 34)).alloc (.cells #[.func (.func 101) #[] #[.pointer (some ⟨w.heap.size + 1 + 1, 0, none⟩), .pointer (some ⟨w.heap.size + 1, 0, none⟩)]] 171)
theorem listW_all (w : World) (n : Nat) : Clo (listW w n) (w.heap.size + 1 + 1) (w.heap.size + 1) w.heap.size n [] ∧ Below w.heap.size w (listW w n) := by
  have a1 : w.heap.size + 1 = (w.alloc (.cells (madeCells #[.int .i64 0] n) 2)).heap.size := by rw [World.size_alloc]
  have a2 : w.heap.size + 1 + 1 = ((w.alloc (.cells (madeCells #[.int .i64 0] n) 2)).alloc (.cells #[.slice (some ⟨w.heap.size, 0, none⟩) 0 n] 34)).heap.size := by rw [World.size_alloc, World.size_alloc]
  refine ⟨⟨?_, ?_, fun _ => .int .i64 0, World.rowIs.alloc (World.rowIs.alloc (World.rowIs_made w _ _ _) _) _, fun j hj => absurd hj (Nat.not_lt_zero _)⟩, ?_⟩
  · have := Var.mk ((w.alloc (.cells (madeCells #[.int .i64 0] n) 2)).alloc (.cells #[.slice (some ⟨w.heap.size, 0, none⟩) 0 n] 34)) 171 (.func (.func 101) #[] #[.pointer (some ⟨w.heap.size + 1 + 1, 0, none⟩), .pointer (some ⟨w.heap.size + 1, 0, none⟩)])
    rw [← a2] at this
    exact this
  · have := Var.mk (w.alloc (.cells (madeCells #[.int .i64 0] n) 2)) 34 (.slice (some ⟨w.heap.size, 0, none⟩) 0 n)
    rw [← a1] at this
    exact World.rowIs.alloc this _
  · exact (((Below.refl _ w).alloc (Nat.le_refl _) _).alloc (by rw [← a1]; omega) _).alloc (by rw [← a2]; omega) _

set_option maxRecDepth 100000 in
set_option maxHeartbeats 1600000 in
theorem rlist_any (w : World) (a : Option Addr) (L : List Int) (h : Rp w a L) (ok : LOk L) :
    Calls Tryz.prog 41 #[.agg #[.pointer a]] w fun e w' => ∃ A, e = .returned (.slice A L.length L.length) ∧ Own w' w.heap.size 2 1 L.length L.length A (i64s (lf L)) ∧ Below w.heap.size w w' := by
  have B : Hid (Below w.heap.size w (w.alloc (.cells #[.pointer a] 27))) := (Below.refl _ w).alloc (Nat.le_refl _) _
  have hl := ok.len
  obtain ⟨t, h1, hb0, rfl⟩ := h
  cases t with
  | nil =>
    obtain rfl : a = none := h1
    clear hl ok
    go_enter Tryz.func41, Tryz.ntmps41
    go_wp2_with fail
    go_ret
    exact ⟨none, rfl, Own.nil _ _ _ _ _, B.out⟩
  | node l s r =>
    have C := Lib.hid (rlen_any _ a _ ⟨_, h1.below B.out, hb0, rfl⟩)
    have HT := Lib.hid (h1.below B.out)
    have lt0 : w.heap.size < (w.alloc (.cells #[.pointer a] 27)).heap.size := by rw [World.size_alloc]; omega
    obtain ⟨b, al, ar, rfl, _, _, _⟩ := h1
    obtain ⟨t, et⟩ : ∃ t, t = T.node l s r := ⟨_, rfl⟩
    rw [← et] at C HT hl ⊢
    obtain ⟨n, hn⟩ : ∃ n, n = t.l.length := ⟨_, rfl⟩
    rw [← hn] at C hl ⊢
    have HN := Lib.hid hn
    clear ok et hb0 hn
    go_enter Tryz.func41, Tryz.ntmps41
    go_wp2_with fail
    refine (C.out).mono ?_
    rintro e w1 ⟨rfl, hb⟩
    have B1 := Lib.hid (B.out.trans (hb.mono B.out.size))
    have V0 : Hid (Var w1 w.heap.size 27 (.pointer (some ⟨b, 0, none⟩))) := World.rowIs.of_block (Var.mk w 27 (.pointer (some ⟨b, 0, none⟩))) (hb.block _ lt0)
    have d0 := V0.out.c
    have lt1 : w.heap.size < w1.heap.size := Nat.lt_of_lt_of_le lt0 hb.size
    have HT1 := Lib.hid (HT.out.below hb)
    have hmk := fun W => make_room64 n (by omega) W
    obtain ⟨CL, hbl⟩ := listW_all w1 n
    have V1 := Lib.hid (V0.out.below hbl)
    have HT2 := Lib.hid (HT1.out.below hbl)
    have B2 := Lib.hid (B1.out.trans (hbl.mono B1.out.size))
    have d1 := V1.out.c
    unfold listW at d1
    obtain ⟨W, eW⟩ : ∃ W, W = listW w1 n := ⟨_, rfl⟩
    have EW := Lib.hid eW
    rw [← eW] at CL HT2 B2
    have KW := Lib.hid (walk_tr _ _ _ n (by omega) t W _ [] HT2.out CL (by simp; exact Nat.le_of_eq HN.out.symm))
    have x1 : Hid (∀ b, b = w1.heap.size + 1 ∨ b = w1.heap.size → w.heap.size ≤ b) := fun b h => by omega
    clear hb C eW hbl CL
    go_wp2_with fail
    change Calls Tryz.prog _ _ (listW w1 n) _
    rw [← EW.out]
    refine (KW.out).mono ?_
    rintro e w2 ⟨rfl, h1, h2⟩
    rw [List.nil_append] at h1
    have d2 := h1.o.c
    rw [← HN.out] at d2
    have H : Hid (Own w2 w.heap.size 2 1 n n (some ⟨w1.heap.size, 0, none⟩) (i64s (lf t.l)) ∧ Below w.heap.size w w2) := by
      obtain ⟨F, hr, hF⟩ := h1.r
      exact ⟨.inr ⟨Nat.le_refl _, w1.heap.size, F, rfl, by omega, by rw [Nat.mul_one]; exact hr, fun j hj => hF j (by rw [← HN.out]; omega)⟩, B2.out.trans (h2.below B2.out.size x1.out)⟩
    clear h1 h2 d1 d0
    go_wp2_with fail
    go_ret
    exact ⟨_, rfl, H.out⟩
end Go.Proofs.YtfmfmeiaekknbaaGreat
end

section
/-
  Arguments opened by their types' shapes: integers, slices of integers, arrays of two and three integers, a struct of a slice of bytes and a bool. Over any program.
-/
namespace Go.Proofs.YtfmfmeiaekknbaaGreat
open Go.RowKit Go.ChangeShapes Go.WideShapes Go.ChangeAt Go.Joins

section
variable {H : Type} {enc : TypeId × Value → H} {P : Program} {w : World} {r : Reach} {b0 base : Nat} {spare : Nat → Bool} {held : Bool} {t e : TypeId} {v : Value} {d : DataW H} {ps : List MemPlace}

/-- A slice of integers, by its cells. -/
theorem op_ints_cells {k : IntKind} {fuel : Nat} {A : Option Addr} {n c : Nat} {x : DataW H × List MemPlace} (ht : P.underlying t = some (.slice e)) (he : P.underlying e = some (.int k)) (hc : P.cellsOf e = 1) (h0 : (Lit.int k 0).wf = true)
    (hf : DataW.trod enc P w base spare held fuel t [.slice A n c] = some x) :
    ∃ l : Nat → Int, Sees w w.heap.size A n (fun j => .int k (l j)) ∧ (∀ j, (Lit.int k (l j)).wf = true) ∧ n ≤ c ∧ c ≤ maxLen := by
  rcases open_ints ht he hc hf with ⟨hcs, _⟩ | ⟨a, l, cc, zs, hcs, _, hl, hm, hz, _, hcell, hwz⟩
  · simp at hcs
    obtain ⟨rfl, rfl, rfl⟩ := hcs
    exact ⟨fun _ => 0, Sees.nil, fun _ => h0, Nat.le_refl _, Nat.zero_le _⟩
  · simp at hcs
    obtain ⟨rfl, rfl, rfl⟩ := hcs
    have hlen : n ≤ zs.length := by rw [hz]; split <;> omega
    refine ⟨fun j => zs.getD j 0, ?_, fun j => ?_, hl, hm⟩
    · intro hn
      obtain ⟨b, o, spot⟩ := a
      have hc0 := hcell 0 (by omega)
      have hspot : spot = none := by simpa [Addr.add] using World.cell?_spot hc0
      subst hspot
      refine ⟨b, o, rfl, ?_, fun j hj => ?_⟩
      · have := block_lt_of_cell hc0
        simpa [Addr.add] using this
      · have hcj := hcell j (by omega)
        have e : (⟨b, o, none⟩ : Addr).add j = ⟨b, o + j, none⟩ := by
          unfold Addr.add
          by_cases h : j = 0
          · subst h; simp
          · simp [h]
        rw [e] at hcj
        exact hcj
    · by_cases hj : j < zs.length
      · simp only [List.getD_eq_getElem?_getD, List.getElem?_eq_getElem hj, Option.getD_some]
        exact hwz _ (List.getElem_mem hj)
      · have hn : zs[j]? = none := List.getElem?_eq_none (by omega)
        simp only [List.getD_eq_getElem?_getD, hn, Option.getD_none]
        exact h0
theorem okWide_arr' {k : TypeId} {n : Nat} (ht : P.underlying t = some (.array n k)) (h : Value.okWide P w r b0 t v) : ∃ cs, v = .agg cs ∧ cs.size = P.cellsOf t := by
  simp only [Value.okWide, ht] at h
  obtain ⟨cs, h1, h2, _⟩ := h
  exact ⟨cs, h1, h2⟩

/-- An array of integers by value. -/
theorem op_arr {k : IntKind} {n : Nat} (ht : P.underlying t = some (.array n e)) (he : P.underlying e = some (.int k)) (hc : P.cellsOf e = 1) (hC : P.cellsOf t = n) (hv : Value.okWide P w r b0 t v) (hd : DataW.Trod enc P w base spare held t v d ps) :
    ∃ cs : Array Value, v = .agg cs ∧ cs.size = n ∧ ∀ i, i < n → ∃ x, cs[i]? = some (.int k x) ∧ (Lit.int k x).wf = true := by
  obtain ⟨cs, rfl, hsz⟩ := okWide_arr' ht hv
  obtain ⟨fuel, hf⟩ := hd
  obtain ⟨xs, m, _, _, _, hlen, hg⟩ := DataW.trod_array ht hf
  refine ⟨cs, rfl, by omega, fun i hi => ?_⟩
  have h1 := hg i hi
  rw [hc, Nat.mul_one] at h1
  have hl : (Value.cells (.agg cs)).toList = cs.toList := rfl
  rw [hl] at h1
  have hi' : i < cs.toList.length := by simp; omega
  have e1 : (cs.toList.drop i).take 1 = [cs.toList[i]] := by
    rw [List.drop_eq_getElem_cons hi']
    rfl
  rw [e1, List.getElem?_eq_getElem (by omega)] at h1
  obtain ⟨x, hx, _, hw⟩ := DataW.trod_int he h1
  simp only [List.cons.injEq, and_true] at hx
  refine ⟨x, ?_, hw⟩
  rw [← hx]
  simp at hi' ⊢
end
end Go.Proofs.YtfmfmeiaekknbaaGreat
end

section
/-
  For the law TopMoves: moved lists plainly, and what its worlds hold.
-/
namespace Go.Proofs.YtfmfmeiaekknbaaGreat
open Go.RowKit
set_option linter.unusedVariables false
set_option linter.unusedSimpArgs false

theorem mov_get {α : Type} (X : List α) {i k t u : Nat} (h : i + k ≤ X.length) (ht : t + k ≤ X.length) (hu : u < X.length) :
    (((X.take i ++ X.drop (i + k)).take t ++ (X.drop i).take k) ++ (X.take i ++ X.drop (i + k)).drop t)[u]? = X[movF i k t u]? := by
  have hr : ∀ q, (X.take i ++ X.drop (i + k))[q]? = X[restF i k q]? := fun q => by
    unfold restF
    by_cases c : q < i
    · rw [if_pos c, List.getElem?_append_left (by rw [List.length_take]; omega), List.getElem?_take_of_lt c]
    · rw [if_neg c, List.getElem?_append_right (by rw [List.length_take]; omega), List.length_take, Nat.min_eq_left (by omega), List.getElem?_drop, show i + k + (q - i) = q + k by omega]
  have hl : (X.take i ++ X.drop (i + k)).length = X.length - k := by rw [List.length_append, List.length_take, List.length_drop]; omega
  have h1 : ((X.take i ++ X.drop (i + k)).take t).length = t := by rw [List.length_take, hl]; omega
  have h2 : ((X.drop i).take k).length = k := by rw [List.length_take, List.length_drop]; omega
  unfold movF
  by_cases c1 : u < t
  · rw [if_pos c1, List.getElem?_append_left (by rw [List.length_append]; omega), List.getElem?_append_left (by omega), List.getElem?_take_of_lt c1, hr]
  · rw [if_neg c1]
    by_cases c2 : u < t + k
    · rw [if_pos c2, List.getElem?_append_left (by rw [List.length_append]; omega), List.getElem?_append_right (by omega), h1, List.getElem?_take_of_lt (by omega), List.getElem?_drop, show i + (u - t) = i + u - t by omega]
    · rw [if_neg c2, List.getElem?_append_right (by rw [List.length_append]; omega), List.length_append, h1, h2, List.getElem?_drop, hr, show t + (u - (t + k)) = u - k by omega]
theorem movR_get (R : Rws) {i k t u : Nat} (h : i + k ≤ R.length) (ht : t + k ≤ R.length) (hu : u < R.length) : (movR R i k t)[u]? = R[movF i k t u]? := mov_get R h ht hu
theorem lf_movR (R : Rws) {i k t u : Nat} (h : i + k ≤ R.length) (ht : t + k ≤ R.length) (hu : u < R.length) : lf (szs (movR R i k t)) u = lf (szs R) (movF i k t u) := by
  unfold lf szs
  rw [List.getD_eq_getElem?_getD, List.getD_eq_getElem?_getD, List.getElem?_map, List.getElem?_map, movR_get R h ht hu]
theorem tlen_movR (R : Rws) {k m t : Nat} (h : k + m ≤ R.length) (ht : t + m ≤ R.length) : (movR R k m t).length = R.length := by
  have hl := len_remR R h
  unfold movR
  rw [List.length_append, List.length_append, List.length_take, List.length_take, List.length_drop, List.length_drop, hl]
  omega
/-- The rows of an index that are known, as bits. -/
def kl (R : Rws) : List Bool := R.map (·.2)
theorem kl_len (R : Rws) : (kl R).length = R.length := List.length_map _
theorem bt_kl (R : Rws) (j : Nat) : bt (kl R) j = kn R j := by
  unfold bt kl kn
  rw [List.getD_eq_getElem?_getD, List.getD_eq_getElem?_getD, List.getElem?_map]
  cases R[j]? <;> rfl
theorem kl_movR (R : Rws) (i k t : Nat) : fMov (kl R) i k t = kl (movR R i k t) := by
  unfold fMov fRem kl movR remR
  simp only [List.map_append, List.map_take, List.map_drop]
theorem kmade_step (M : List Bool) {j : Nat} (h : j < M.length) : (M.take j ++ List.replicate (M.length - j) false).set j (bt M j) = M.take (j + 1) ++ List.replicate (M.length - (j + 1)) false := by
  have e := set_next (M.take j) (M.length - (j + 1)) (bt M j)
  rw [List.length_take, Nat.min_eq_left (Nat.le_of_lt h), ← take_snoc h] at e
  rw [show M.length - j = M.length - (j + 1) + 1 from by omega]
  exact e
def klTo (R : Rws) (k : Nat) : List Bool := (kl R).take k ++ List.replicate ((kl R).length - k) false
theorem klTo_zero (R : Rws) : klTo R 0 = List.replicate R.length false := by unfold klTo; rw [kl_len]; rfl
theorem klTo_len (R : Rws) {k : Nat} (h : k ≤ R.length) : (klTo R k).length = R.length := by
  unfold klTo
  rw [List.length_append, List.length_take, List.length_replicate, kl_len]; omega
theorem klTo_step (R : Rws) {k : Nat} (h : k < R.length) : (klTo R k).set k (kn R k) = klTo R (k + 1) := by
  have := kmade_step (kl R) (j := k) (by rw [kl_len]; exact h)
  rwa [bt_kl] at this
theorem klTo_all (R : Rws) : klTo R R.length = kl R := by
  unfold klTo
  rw [kl_len, Nat.sub_self, ← kl_len R, List.take_length]; simp
theorem known_ok {R : Rws} {k : Nat} (h : k < R.length) : knVal R (k : Int) = kn R k ∧ knErr R (k : Int) = 0 := by
  unfold knVal knErr
  rw [if_neg (by omega), if_neg (by omega), Int.toNat_natCast]
  exact ⟨rfl, rfl⟩
theorem tu8_wf {x : Int} (h : (Lit.int .u8 x).wf = true) : ∃ a : Nat, x = (a : Int) ∧ a ≤ 255 := by
  have h2 := bounds_u8 h
  have := h2
  exact ⟨x.toNat, by omega, by omega⟩
theorem tagg3_of {k : IntKind} {cs : Array Value} (h : cs.size = 3) (f : ∀ i, i < 3 → ∃ x, cs[i]? = some (.int k x) ∧ (Lit.int k x).wf = true) : ∃ x y z, cs = #[.int k x, .int k y, .int k z] ∧ (Lit.int k x).wf = true ∧ (Lit.int k y).wf = true ∧ (Lit.int k z).wf = true := by
  obtain ⟨x, hx, wx⟩ := f 0 (by omega)
  obtain ⟨y, hy, wy⟩ := f 1 (by omega)
  obtain ⟨z, hz, wz⟩ := f 2 (by omega)
  refine ⟨x, y, z, ?_, wx, wy, wz⟩
  apply Array.ext_getElem?
  intro i
  match i with
  | 0 => exact hx
  | 1 => exact hy
  | 2 => exact hz
  | i + 3 => rw [Array.getElem?_eq_none (by omega), Array.getElem?_eq_none (by simp)]
theorem ktmod (a n : Nat) : ∃ i : Nat, i ≤ n ∧ Int.tmod (a : Int) ((n : Int) + 1) = (i : Int) :=
  ⟨a % (n + 1), Nat.le_of_lt_succ (Nat.mod_lt _ (by omega)), by rw [Int.tmod_eq_emod_of_nonneg (by omega)]; norm_cast⟩
/-- Two orders: the fives, and the fives moved. -/
theorem five_two {m i k t : Nat} (hm : m ≤ 4096) (h : i + k ≤ m) (ht : t + k ≤ m) : Two (fun j => 5 * (j : Int)) (fun j => 5 * (movF i k t j : Int)) m (movF i k t) :=
  ⟨⟨fun j hj => ⟨by omega, by omega⟩, fun a b _ _ e => by omega⟩, ⟨fun j hj => ⟨by omega, by have := movF_lt h ht hj; omega⟩, fun a b ha hb e => movF_inj h ht ha hb (by omega)⟩, fun j hj => ⟨movF_lt h ht hj, rfl⟩⟩

theorem once_movs {n a m t : Nat} (ha : a + m ≤ n) (ht : t + m ≤ n) : Once n n (movF a m t) := ⟨fun i hi => movF_lt ha ht hi, fun i j hi hj e => movF_inj ha ht hi hj e⟩
/-! Slices and blocks apart. -/
theorem own_apart {w : World} {B B' n c n' c' : Nat} {e e' : TypeId} {A A' : Option Addr} {F F' : Nat → Value} (h : Own w B e 1 n c A F) (h' : Own w B' e' 1 n' c' A' F') (he : e ≠ e') : ∀ b, A.map (·.block) = some b → ¬ A'.map (·.block) = some b := by
  intro b hb hb'
  rcases h with ⟨rfl, _⟩ | ⟨_, g, G, rfl, _, hr, _⟩
  · cases hb
  rcases h' with ⟨rfl, _⟩ | ⟨_, g', G', rfl, _, hr', _⟩
  · cases hb'
  injection hb with hb
  injection hb' with hb'
  exact rows_ne hr hr' he (hb.trans hb'.symm)
theorem own_off {w : World} {B n c q k : Nat} {e t : TypeId} {A : Option Addr} {F f : Nat → Value} (h : Own w B e 1 n c A F) (hr : w.rowIs q t k f) (he : e ≠ t) : ∀ b, A.map (·.block) = some b → ¬ b = q := by
  intro b hb
  rcases h with ⟨rfl, _⟩ | ⟨_, g, G, rfl, _, hr', _⟩
  · cases hb
  injection hb with hb
  have hb : g = b := hb
  subst hb
  exact rows_ne hr' hr he
theorem rp_gb {w w' : World} {r : Option Addr} {L : List Int} {p g n : Nat} {v : Nat → Int} (h : Rp w r L) (hg : GB w p g n v) (hl : L.length = n) (hf : Fr (fun b => b = p ∨ b = g) w w') : Rp w' r L := by
  obtain ⟨⟨m, at_, gap, A, F, hb⟩, _⟩ := hg
  by_cases hm : 0 < m
  · have h2 := (hb.hA hm).2.2
    refine rp_frS h hf fun b f hr e => ?_
    rcases e with e | e
    · exact rows_ne hr hb.hp (by decide) e
    · exact rows_ne hr h2 (by decide) e
  · have : n = 0 := by have := hb.hm; omega
    obtain ⟨t, h1, h2, h3⟩ := h
    have h0 : L = [] := List.eq_nil_of_length_eq_zero (by omega)
    subst h0
    cases t with
    | nil =>
      obtain rfl : r = none := h1
      exact Rp.nil w'
    | node l s r' => exact absurd (congrArg List.length h3) (by show ¬ (l.l ++ s :: r'.l).length = 0; rw [List.length_append, List.length_cons]; omega)
theorem gb_any (w : World) (p g n : Nat) (l : Nat → Int) (h : GB w p g n l) (a k t : Nat) (ha : a + k ≤ n) (ht : t + k ≤ n) :
    Calls Tryz.prog 27 #[.pointer (some ⟨p, 0, none⟩), .int .i64 a, .int .i64 k, .int .i64 t] w fun e w' => e = .returned (.int .i64 0) ∧ ∃ g', GB w' p g' n (fun j => l (movF a k t j)) ∧ (g' = g ∨ w.heap.size ≤ g') ∧ Fr (fun b => b = p ∨ b = g) w w' := by
  by_cases hk : 0 < k
  · exact gb_move w p g n l h a k t hk ha ht
  · obtain rfl : k = 0 := by omega
    refine (gb_none w p g n l h a t (by omega) (by omega)).mono ?_
    rintro e w' ⟨rfl, hd⟩
    refine ⟨rfl, g, (h.below (hd.below _)).congr fun j _ => ?_, .inl rfl, Fr.of_below (hd.below _)⟩
    show l j = l (movF a 0 t j)
    congr 1
    unfold movF restF
    split
    · split <;> omega
    · rw [if_neg (by omega)]; split <;> omega

/-! The first loop. -/
structure O1 (W2 wr : World) (pf ji jl jf : Nat) (Ai : Option Addr) (ci : Nat) (Al : Option Addr) (cl : Nat) (R : Rws) : Prop where
  ids : Own wr W2.heap.size 3 1 ji ci Ai (i64s fun q => 5 * (q : Int))
  l : Own wr W2.heap.size 2 1 jl cl Al (i64s (lf (szs R)))
  fl : Fl wr pf (klTo R jf)
  pn : W2.heap.size ≤ pf
  bl : Below W2.heap.size W2 wr
  z : ji = 0 → Ai = none
  ic : ci ≤ maxLen
  lc : cl ≤ maxLen
theorem O1.below {W2 wr w' : World} {pf ji jl jf : Nat} {Ai : Option Addr} {ci : Nat} {Al : Option Addr} {cl : Nat} {R : Rws} (h : O1 W2 wr pf ji jl jf Ai ci Al cl R) (hb : Below wr.heap.size wr w') : O1 W2 w' pf ji jl jf Ai ci Al cl R :=
  ⟨h.ids.below hb, h.l.below hb, h.fl.below hb, h.pn, h.bl.trans (hb.mono h.bl.size), h.z, h.ic, h.lc⟩
theorem O1.pushI {W2 wr : World} {pf ji jl jf : Nat} {Ai : Option Addr} {ci : Nat} {Al : Option Addr} {cl : Nat} {R : Rws} (h : O1 W2 wr pf ji jl jf Ai ci Al cl R) (hm : ji ≤ 100000) :
    ∃ A' c' w', (∀ ty, (Builtin.append_ #[54, 54] ty #[.slice Ai ji ci, .slice (some ⟨wr.heap.size, 0, none⟩) 1 1]).run Tryz.prog (wr.alloc (.cells #[.int .i64 (5 * (ji : Int))] 3)) = .ok (.slice A' (ji + 1) c') w') ∧ O1 W2 w' pf (ji + 1) jl jf A' c' Al cl R := by
  obtain ⟨A', c', w', run, O, fr, _, mx⟩ := push_int wr W2.heap.size h.ids h.bl.size (5 * (ji : Int)) hm
  refine ⟨A', c', w', run, O.congr fun j hj => ?_, h.l.fr fr fun b hb hb' => own_apart h.l h.ids (by decide) b hb hb', h.fl.fr fr (fun hb => own_off h.ids h.fl.row (by decide) _ hb rfl) (fun i hi => absurd hi (by omega)), h.pn, h.bl.trans (fr.below h.bl.size fun q hq => (h.ids.blk q hq).1), fun e => absurd e (by omega), mx h.ic, h.lc⟩
  show Value.int .i64 (if j < ji then 5 * (j : Int) else 5 * (ji : Int)) = .int .i64 (5 * (j : Int))
  by_cases c : j < ji
  · rw [if_pos c]
  · rw [if_neg c, show j = ji by omega]
theorem O1.pushL {W2 wr : World} {pf ji jl jf : Nat} {Ai : Option Addr} {ci : Nat} {Al : Option Addr} {cl : Nat} {R : Rws} (h : O1 W2 wr pf ji jl jf Ai ci Al cl R) (hm : jl ≤ 100000) :
    ∃ A' c' w', (∀ ty, (Builtin.append_ #[34, 34] ty #[.slice Al jl cl, .slice (some ⟨wr.heap.size, 0, none⟩) 1 1]).run Tryz.prog (wr.alloc (.cells #[.int .i64 (lf (szs R) jl)] 2)) = .ok (.slice A' (jl + 1) c') w') ∧ O1 W2 w' pf ji (jl + 1) jf Ai ci A' c' R := by
  obtain ⟨A', c', w', run, O, fr, mx⟩ := push_i64 wr W2.heap.size h.l h.bl.size (lf (szs R) jl) hm
  exact ⟨A', c', w', run, h.ids.fr fr fun b hb hb' => own_apart h.ids h.l (by decide) b hb hb', own_next O, h.fl.fr fr (fun hb => own_off h.l h.fl.row (by decide) _ hb rfl) (fun i hi => absurd hi (by omega)), h.pn, h.bl.trans (fr.below h.bl.size fun q hq => (h.l.blk q hq).1), h.z, h.ic, mx h.lc⟩
theorem O1.put {W2 wr wy : World} {pf ji jl jf jg : Nat} {Ai : Option Addr} {ci : Nat} {Al : Option Addr} {cl : Nat} {R : Rws} (h : O1 W2 wr pf ji jl jf Ai ci Al cl R) (f1 : Fl wy pf (klTo R jg)) (k : Fr (fun b => b = pf) wr wy) : O1 W2 wy pf ji jl jg Ai ci Al cl R :=
  ⟨h.ids.fr k fun b hb e => own_off h.ids h.fl.row (by decide) b hb e, h.l.fr k fun b hb e => own_off h.l h.fl.row (by decide) b hb e, f1, h.pn, h.bl.trans (k.below h.bl.size fun b hb => by rw [hb]; exact h.pn), h.z, h.ic, h.lc⟩

/-! What the moves turn. -/
def TB (qa pf p g sq : Nat) : Nat → Prop := fun b => b = qa ∨ b = pf ∨ b = p ∨ b = g ∨ b = sq
structure OM (N : Nat) (wr : World) (qa pf p g sq qm m : Nat) (Ai Al Am : Option Addr) (F : List Bool) (v : Nat → Int) (r : Option Addr) (rL L : List Int) (M : Nat → Nat) : Prop where
  ids : SeesO (TB qa pf p g sq) wr Ai m (i64s fun j => 5 * (j : Int))
  l : SeesO (TB qa pf p g sq) wr Al m (i64s (lf L))
  ms : SeesO (TB qa pf p g sq) wr Am m (nats M)
  mp : wr.rowIs qm 64 2 (rmc m Am m)
  fl : Fl wr pf F
  gb : GB wr p g m v
  rv : Var wr sq 27 (.pointer r)
  rp : Rp wr r rL
  rl : rL.length = m
  qv : ∃ f, wr.rowIs qa 32 2 f
  ne : g ≠ qa ∧ g ≠ pf ∧ g ≠ sq ∧ g ≠ qm
  lo : N ≤ pf ∧ N ≤ p ∧ N ≤ g ∧ N ≤ sq
section
variable {N : Nat} {wr : World} {qa pf p g sq qm m : Nat} {Ai Al Am : Option Addr} {F : List Bool} {v : Nat → Int} {r : Option Addr} {rL L : List Int} {M : Nat → Nat}
theorem OM.gp (h : OM N wr qa pf p g sq qm m Ai Al Am F v r rL L M) : ∃ f, wr.rowIs p 139 3 f := by
  obtain ⟨⟨m, at_, gap, A, F, hb⟩, _⟩ := h.gb
  exact ⟨_, hb.hp⟩
theorem OM.below {w' : World} (h : OM N wr qa pf p g sq qm m Ai Al Am F v r rL L M) (hb : Below wr.heap.size wr w') : OM N w' qa pf p g sq qm m Ai Al Am F v r rL L M := by
  obtain ⟨f, hq⟩ := h.qv
  exact ⟨h.ids.fr (Fr.of_below hb), h.l.fr (Fr.of_below hb), h.ms.fr (Fr.of_below hb), h.mp.of_block (hb.block _ h.mp.lt), h.fl.below hb, h.gb.below hb, h.rv.below hb, h.rp.below hb, h.rl, ⟨f, hq.of_block (hb.block _ hq.lt)⟩, h.ne, h.lo⟩
theorem OM.m1 {wy : World} {g' : Nat} {u : Nat → Int} (h : OM N wr qa pf p g sq qm m Ai Al Am F v r rL L M) (k : Fr (fun b => b = p ∨ b = g) wr wy) (gb : GB wy p g' m u) (hg : g' = g ∨ wr.heap.size ≤ g') : OM N wy qa pf p g' sq qm m Ai Al Am F u r rL L M := by
  obtain ⟨fq, hq⟩ := h.qv
  obtain ⟨fp, hp⟩ := h.gp
  obtain ⟨n1, n2, n3, n4⟩ := h.ne
  obtain ⟨l1, l2, l3, l4⟩ := h.lo
  have p1 : qa ≠ p := rows_ne hq hp (by decide)
  have p2 : pf ≠ p := rows_ne h.fl.row hp (by decide)
  have p3 : sq ≠ p := rows_ne h.rv hp (by decide)
  have p4 : qm ≠ p := rows_ne h.mp hp (by decide)
  have k' : Fr (TB qa pf p g sq) wr wy := k.mono fun b hb => by
    rcases hb with hb | hb
    · exact .inr (.inr (.inl hb))
    · exact .inr (.inr (.inr (.inl hb)))
  have hT : ∀ b, TB qa pf p g' sq b → TB qa pf p g sq b ∨ wr.heap.size ≤ b := fun b hb => by
    rcases hb with hb | hb | hb | hb | hb
    · exact .inl (.inl hb)
    · exact .inl (.inr (.inl hb))
    · exact .inl (.inr (.inr (.inl hb)))
    · rcases hg with hg | hg
      · exact .inl (.inr (.inr (.inr (.inl (hb.trans hg)))))
      · exact .inr (by omega)
    · exact .inl (.inr (.inr (.inr (.inr hb))))
  have q1 := hq.lt
  have q2 := h.fl.lt
  have q3 := World.rowIs.lt h.rv
  have q4 := h.mp.lt
  have q5 := h.gb.2.1
  refine ⟨seesO_push h.ids k' hT, seesO_push h.l k' hT, seesO_push h.ms k' hT, h.mp.of_block (k.block _ q4 (by omega)), h.fl.fr k (by omega) (fun i hi => absurd hi (by omega)), gb, World.rowIs.of_block h.rv (k.block _ q3 (by omega)), rp_gb h.rp h.gb h.rl k, h.rl, ⟨fq, hq.of_block (k.block _ q1 (by omega))⟩, ?_, ?_⟩
  · rcases hg with hg | hg
    · rw [hg]; exact ⟨n1, n2, n3, n4⟩
    · refine ⟨?_, ?_, ?_, ?_⟩ <;> omega
  · rcases hg with hg | hg
    · rw [hg]; exact ⟨l1, l2, l3, l4⟩
    · refine ⟨?_, ?_, ?_, ?_⟩ <;> omega
theorem OM.m2 {wy : World} {F' : List Bool} (h : OM N wr qa pf p g sq qm m Ai Al Am F v r rL L M) (k : Fr (fun b => b = pf) wr wy) (fl : Fl wy pf F') : OM N wy qa pf p g sq qm m Ai Al Am F' v r rL L M := by
  obtain ⟨fq, hq⟩ := h.qv
  obtain ⟨fp, hp⟩ := h.gp
  obtain ⟨n1, n2, n3, n4⟩ := h.ne
  have p1 : qa ≠ pf := rows_ne hq h.fl.row (by decide)
  have p2 : p ≠ pf := rows_ne hp h.fl.row (by decide)
  have p3 : sq ≠ pf := rows_ne h.rv h.fl.row (by decide)
  have p4 : qm ≠ pf := rows_ne h.mp h.fl.row (by decide)
  have k' : Fr (TB qa pf p g sq) wr wy := k.mono fun b hb => .inr (.inl hb)
  obtain ⟨⟨a1, a2, a3, a4, a5, hb⟩, b1, b2⟩ := h.gb
  refine ⟨h.ids.fr k', h.l.fr k', h.ms.fr k', h.mp.of_block (k.block _ h.mp.lt p4), fl, ⟨⟨a1, a2, a3, a4, a5, hb.keep (k.block _ b1 p2) (fun _ => k.block _ b2 n2)⟩, Nat.lt_of_lt_of_le b1 k.size, Nat.lt_of_lt_of_le b2 k.size⟩, World.rowIs.of_block h.rv (k.block _ (World.rowIs.lt h.rv) p3), rp_frS h.rp k fun b f hr e => rows_ne hr h.fl.row (by decide) e, h.rl, ⟨fq, hq.of_block (k.block _ hq.lt p1)⟩, h.ne, h.lo⟩
theorem OM.m3 {r' : Option Addr} {rL' : List Int} (h : OM N wr qa pf p g sq qm m Ai Al Am F v r rL L M) (rp : Rp wr r' rL') (rl : rL'.length = m) : OM N (wr.setCell ⟨sq, 0, none⟩ (.pointer r')) qa pf p g sq qm m Ai Al Am F v r' rL' L M := by
  obtain ⟨fq, hq⟩ := h.qv
  obtain ⟨fp, hp⟩ := h.gp
  obtain ⟨n1, n2, n3, n4⟩ := h.ne
  have p1 : qa ≠ sq := rows_ne hq h.rv (by decide)
  have p2 : p ≠ sq := rows_ne hp h.rv (by decide)
  have p3 : pf ≠ sq := rows_ne h.fl.row h.rv (by decide)
  have p4 : qm ≠ sq := rows_ne h.mp h.rv (by decide)
  have k : Fr (fun b => b = sq) wr (wr.setCell ⟨sq, 0, none⟩ (.pointer r')) := (Fr.refl _ _).setCell (S := fun b => b = sq) (p := ⟨sq, 0, none⟩) rfl _
  have k' : Fr (TB qa pf p g sq) wr (wr.setCell ⟨sq, 0, none⟩ (.pointer r')) := k.mono fun b hb => .inr (.inr (.inr (.inr hb)))
  obtain ⟨⟨a1, a2, a3, a4, a5, hb⟩, b1, b2⟩ := h.gb
  exact ⟨h.ids.fr k', h.l.fr k', h.ms.fr k', h.mp.of_block (k.block _ h.mp.lt p4), h.fl.fr k p3 (fun i hi => absurd hi (by omega)), ⟨⟨a1, a2, a3, a4, a5, hb.keep (k.block _ b1 p2) (fun _ => k.block _ b2 n3)⟩, Nat.lt_of_lt_of_le b1 k.size, Nat.lt_of_lt_of_le b2 k.size⟩, h.rv.set _, rp.set h.rv (by decide) rfl _, rl, ⟨fq, hq.of_block (k.block _ hq.lt p1)⟩, h.ne, h.lo⟩
theorem OM.m4 (h : OM N wr qa pf p g sq qm m Ai Al Am F v r rL L M) (u1 u2 : Value) : OM N ((wr.setCell ⟨qa, 0, none⟩ u1).setCell ⟨qa, 1, none⟩ u2) qa pf p g sq qm m Ai Al Am F v r rL L M := by
  obtain ⟨fq, hq⟩ := h.qv
  obtain ⟨fp, hp⟩ := h.gp
  obtain ⟨n1, n2, n3, n4⟩ := h.ne
  have p1 : sq ≠ qa := rows_ne h.rv hq (by decide)
  have p2 : p ≠ qa := rows_ne hp hq (by decide)
  have p3 : pf ≠ qa := rows_ne h.fl.row hq (by decide)
  have p4 : qm ≠ qa := rows_ne h.mp hq (by decide)
  have k : Fr (fun b => b = qa) wr ((wr.setCell ⟨qa, 0, none⟩ u1).setCell ⟨qa, 1, none⟩ u2) := ((Fr.refl _ _).setCell (S := fun b => b = qa) (p := ⟨qa, 0, none⟩) rfl _).setCell (p := ⟨qa, 1, none⟩) rfl _
  have k' : Fr (TB qa pf p g sq) wr ((wr.setCell ⟨qa, 0, none⟩ u1).setCell ⟨qa, 1, none⟩ u2) := k.mono fun b hb => .inl hb
  obtain ⟨⟨a1, a2, a3, a4, a5, hb⟩, b1, b2⟩ := h.gb
  exact ⟨h.ids.fr k', h.l.fr k', h.ms.fr k', h.mp.of_block (k.block _ h.mp.lt p4), h.fl.fr k p3 (fun i hi => absurd hi (by omega)), ⟨⟨a1, a2, a3, a4, a5, hb.keep (k.block _ b1 p2) (fun _ => k.block _ b2 n1)⟩, Nat.lt_of_lt_of_le b1 k.size, Nat.lt_of_lt_of_le b2 k.size⟩, World.rowIs.of_block h.rv (k.block _ (World.rowIs.lt h.rv) p1), rp_frS h.rp k fun b f hr e => rows_ne hr hq (by decide) e, h.rl, ⟨_, World.rowIs.set (World.rowIs.set hq 0 u1) 1 u2⟩, h.ne, h.lo⟩
end
/-- The first of them, behind the makers. -/
theorem own_tb {w : World} {B n c qa pf p g sq : Nat} {e : TypeId} {A : Option Addr} {G : Nat → Value} {F : List Bool} (h : Own w B e 1 n c A G) (fl : Fl w pf F) (he : e ≠ 152) (hq : qa < B) (hp : w.heap.size ≤ p) (hg : w.heap.size ≤ g) (hs : w.heap.size ≤ sq) : SeesO (TB qa pf p g sq) w A n G := by
  intro hn
  have ho := own_off h fl.row he
  obtain ⟨b, rfl, h2, h3, h4, _⟩ := h.at_ hn
  have hb := ho b rfl
  refine ⟨b, 0, rfl, h3, fun s => ?_, fun j hj => by rw [Nat.zero_add]; exact h4 j (by omega)⟩
  rcases s with s | s | s | s | s
  · omega
  · exact hb s
  · omega
  · omega
  · omega
theorem seesO_new {S : Nat → Prop} {w : World} {A : Option Addr} {n N : Nat} {f : Nat → Value} (h : Sees w w.heap.size A n f) (hA : ∀ b, A.map (·.block) = some b → N ≤ b) (hS : ∀ b, S b → b < N) : SeesO S w A n f := by
  intro hn
  obtain ⟨b, o, rfl, h2, h3⟩ := h hn
  exact ⟨b, o, rfl, h2, fun s => by have := hS b s; have := hA b rfl; omega, h3⟩
/-! The second loop. -/
structure O2 (w0 wr : World) (qa : Nat) (a A : Option Addr) (S : Sp) (R : Rws) (pf m : Nat) (μ : Nat → Nat) (A5 A6 A7 A8 Al : Option Addr) (L : List Int) : Prop where
  lx : LX w0 wr [(qa, a, A, S, R)] []
  fl : Fl wr pf (kl R)
  s5 : Sees wr wr.heap.size A5 m (i64s fun j => 5 * (μ j : Int))
  s6 : Sees wr wr.heap.size A6 m (i64s fun j => 5 * (μ j : Int))
  s7 : Sees wr wr.heap.size A7 m (i64s (lf (szs R)))
  s8 : Sees wr wr.heap.size A8 m (i64s fun j => 5 * (μ j : Int))
  sl : Sees wr wr.heap.size Al m (i64s (lf L))
theorem O2.below {w0 wr w' : World} {qa : Nat} {a A : Option Addr} {S : Sp} {R : Rws} {pf m : Nat} {μ : Nat → Nat} {A5 A6 A7 A8 Al : Option Addr} {L : List Int} (h : O2 w0 wr qa a A S R pf m μ A5 A6 A7 A8 Al L) (hb : Below wr.heap.size wr w') : O2 w0 w' qa a A S R pf m μ A5 A6 A7 A8 Al L :=
  ⟨h.lx.below hb, h.fl.below hb, (h.s5.below hb).more hb.size, (h.s6.below hb).more hb.size, (h.s7.below hb).more hb.size, (h.s8.below hb).more hb.size, (h.sl.below hb).more hb.size⟩
end Go.Proofs.YtfmfmeiaekknbaaGreat
end

section
/-
  An argument that is a struct of a slice of bytes and a bool, opened. Over any program.
-/
namespace Go.Proofs.YtfmfmeiaekknbaaGreat
open Go.RowKit Go.ChangeShapes Go.WideShapes Go.ChangeAt Go.Joins Go.Deep
set_option linter.unusedVariables false

section
variable {H : Type} {enc : TypeId × Value → H} {P : Program} {w : World} {r : Reach} {b0 base : Nat} {spare : Nat → Bool} {held : Bool} {t e : TypeId} {v : Value} {d : DataW H} {ps : List MemPlace}

theorem okWide_struct' {fs : Array Field} (ht : P.underlying t = some (.struct fs)) (h : Value.okWide P w r b0 t v) : ∃ cs, v = .agg cs ∧ cs.size = P.cellsOf t := by
  simp only [Value.okWide, ht] at h
  obtain ⟨cs, h1, h2, _⟩ := h
  exact ⟨cs, h1, h2⟩
/-- The cells of a struct of m one-cell fields, and how each of them reads. -/
theorem op_struct {fs : Array Field} {m : Nat} (ht : P.underlying t = some (.struct fs)) (hm : fs.size = m) (hone : oneCellFields P fs = true) (hC : P.cellsOf t = m) (hv : Value.okWide P w r b0 t v) (hd : DataW.Trod enc P w base spare held t v d ps) :
    ∃ cs : Array Value, v = .agg cs ∧ cs.size = m ∧ ∀ (j : Nat) (f : Field), fs[j]? = some f → ∃ x y k, cs[j]? = some x ∧ DataW.trod enc P w base spare held k f.type [x] = some y := by
  subst hm
  obtain ⟨cs, rfl, hsz⟩ := okWide_struct' ht hv
  obtain ⟨fuel, hf⟩ := hd
  obtain ⟨ys, n', hn', hy, hlen', hyl, hf'⟩ := DataW.trod_struct ht hf
  refine ⟨cs, rfl, by omega, fun j f hj => ?_⟩
  obtain ⟨ho, hk⟩ := hone_of hone j f hj
  have hjl : j < fs.size := (Array.getElem?_eq_some_iff.1 hj).1
  have h1 := hf' j f hj
  rw [ho, hk] at h1
  have hl : (Value.cells (.agg cs)).toList = cs.toList := rfl
  rw [hl] at h1
  have hi' : j < cs.toList.length := by simp; omega
  have e1 : (cs.toList.drop j).take 1 = [cs.toList[j]] := by
    rw [List.drop_eq_getElem_cons hi']
    rfl
  rw [e1] at h1
  have hys : ys[j]? = some (ys[j]'(by omega)) := List.getElem?_eq_getElem (by omega)
  exact ⟨cs.toList[j], _, _, by simp, h1.trans hys⟩
/-- A struct of a slice of bytes and a bool. -/
theorem op_sb {fs : Array Field} {f0 f1 : Field} (ht : P.underlying t = some (.struct fs)) (hm : fs.size = 2) (hone : oneCellFields P fs = true) (hC : P.cellsOf t = 2) (h0 : fs[0]? = some f0) (h1 : fs[1]? = some f1)
    (hs0 : P.underlying f0.type = some (.slice e)) (he : P.underlying e = some (.int .u8)) (hce : P.cellsOf e = 1) (hb : P.underlying f1.type = some .bool) (hv : Value.okWide P w r b0 t v) (hd : DataW.Trod enc P w base spare held t v d ps) :
    ∃ (A : Option Addr) (n c : Nat) (l : Nat → Int) (g : Bool), v = .agg #[.slice A n c, .bool g] ∧ Sees w w.heap.size A n (fun j => .int .u8 (l j)) ∧ (∀ j, 0 ≤ l j ∧ l j ≤ 255) ∧ n ≤ c ∧ c ≤ maxLen := by
  obtain ⟨cs, rfl, hsz, hf⟩ := op_struct ht hm hone hC hv hd
  obtain ⟨x0, y0, k0, e0, r0⟩ := hf 0 f0 h0
  obtain ⟨x1, y1, k1, e1, r1⟩ := hf 1 f1 h1
  obtain ⟨A, n, c, rfl⟩ : ∃ A n c, x0 = .slice A n c := by
    rcases open_ints hs0 he hce r0 with ⟨hcs, _⟩ | ⟨a, l, cc, zs, hcs, _⟩
    · simp at hcs; exact ⟨_, _, _, hcs⟩
    · simp at hcs; exact ⟨_, _, _, hcs⟩
  obtain ⟨l, g1, g2, g3, g4⟩ := op_ints_cells hs0 he hce (by decide) r0
  obtain ⟨g, hg, _⟩ := DataW.trod_bool hb r1
  simp only [List.cons.injEq, and_true] at hg
  subst hg
  refine ⟨A, n, c, l, g, ?_, g1, fun j => bounds_u8 (g2 j), g3, g4⟩
  congr 1
  apply Array.ext
  · rw [hsz]; rfl
  · intro i hi hi2
    have hi : i < 2 := by omega
    have : i = 0 ∨ i = 1 := by omega
    rcases this with rfl | rfl
    · exact Option.some.inj ((Array.getElem?_eq_getElem _).symm.trans e0)
    · exact Option.some.inj ((Array.getElem?_eq_getElem _).symm.trans e1)
end
end Go.Proofs.YtfmfmeiaekknbaaGreat
end

section
/-
  The I of layer 6's law, opened.
-/
namespace Go.Proofs.YtfmfmeiaekknbaaGreat
open Go.RowKit Go.ChangeShapes Go.WideShapes Go.ChangeAt Go.Joins Go.Deep

set_option maxRecDepth 100000 in
theorem op_I {H : Type} {enc : TypeId × Value → H} {w : World} {r : Reach} {b0 base : Nat} {spare : Nat → Bool} {held : Bool} {v : Value} {d : DataW H} {ps : List MemPlace}
    (hv : Value.okWide Tryz.prog w r b0 24 v) (hd : DataW.Trod enc Tryz.prog w base spare held 24 v d ps) :
    ∃ (A : Option Addr) (n c : Nat) (l : Nat → Int) (g : Bool), v = .agg #[.slice A n c, .bool g] ∧ Sees w w.heap.size A n (u8r l) ∧ (∀ j, 0 ≤ l j ∧ l j ≤ 255) ∧ n ≤ c ∧ c ≤ maxLen :=
  op_sb Tryz.underlying24 rfl (by kernel_rfl) (by kernel_rfl) rfl rfl Tryz.underlying22 Tryz.underlying5 (by kernel_rfl) Tryz.underlying4 hv hd
end Go.Proofs.YtfmfmeiaekknbaaGreat
end

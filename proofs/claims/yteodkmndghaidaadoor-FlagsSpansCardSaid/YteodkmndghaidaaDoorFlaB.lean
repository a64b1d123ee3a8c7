/-
  Flags in memory; the plain methods.
-/
import Derived.Test.YteodkmndghaidaaDoorFlaA
import Derived.Test.YteodkmndghaidaaDoorFr
import Derived.Deep.QuietTactic
import Derived.BigRegion
namespace Go.Proofs.YteodkmndghaidaaDoor
open Go.RowKit
set_option linter.unusedVariables false

/-- The cells of a list of bits. -/
def flc (l : List Bool) : Nat → Value := fun j => if j = 0 then .int .i64 l.length else if j = 1 then .int .i64 (cn l) else .int .u64 (wd l (j - 2))
/-- Flags at block p hold the bits l. -/
structure Fl (w : World) (p : Nat) (l : List Bool) : Prop where
  row : w.rowIs p 56 66 (flc l)
  len : l.length ≤ 4096
  tab : Tab w
  pos : 0 < p
theorem Fl.lt {w : World} {p : Nat} {l : List Bool} (h : Fl w p l) : p < w.heap.size := h.row.lt
theorem Fl.keep {w w' : World} {p : Nat} {l : List Bool} (h : Fl w p l) (k : w'.heap[p]? = w.heap[p]?) (ht : Tab w') : Fl w' p l := ⟨h.row.of_block k, h.len, ht, h.pos⟩
theorem Fl.below {w w' : World} {p : Nat} {l : List Bool} (h : Fl w p l) (hb : Below w.heap.size w w') : Fl w' p l :=
  h.keep (hb.block p h.lt) (h.tab.below hb (Nat.lt_trans h.pos h.lt))
theorem Fl.fr {S : Nat → Prop} {w w' : World} {p : Nat} {l : List Bool} (h : Fl w p l) (hf : Fr S w w') (hp : ¬ S p) (h0 : ¬ S 0) : Fl w' p l :=
  h.keep (hf.block p h.lt hp) fun i hi => (World.cell?_of_block (w := w) (hf.block _ (Nat.lt_trans h.pos h.lt) h0)).trans (h.tab i hi)
theorem Fl.drawn {w w' : World} {p : Nat} {l : List Bool} (h : Fl w p l) (hd : Drawn w w') : Fl w' p l := by obtain ⟨q, rfl⟩ := hd; exact ⟨h.row, h.len, h.tab, h.pos⟩
/-- The cells as the walk reads them. -/
structure FC (w : World) (p : Nat) (l : List Bool) : Prop where
  c0 : w.cell? ⟨p, 0, none⟩ = some (.int .i64 l.length)
  c1 : w.cell? ⟨p, 1, none⟩ = some (.int .i64 (cn l))
  cw : ∀ k, k < 64 → w.cell? ⟨p, 2 + k, none⟩ = some (.int .u64 (wd l k))
  fz : ∀ i, w.frozen? ⟨p, i, none⟩ = false
theorem Fl.cells {w : World} {p : Nat} {l : List Bool} (h : Fl w p l) : FC w p l :=
  ⟨h.row.cell (i := 0) (by omega), h.row.cell (i := 1) (by omega), fun k hk => by
    rw [h.row.cell (i := 2 + k) (by omega)]
    unfold flc
    rw [if_neg (by omega), if_neg (by omega), Nat.add_sub_cancel_left], fun i => h.row.frozen i⟩

set_option maxHeartbeats 400000 in
theorem flen_any (w : World) (p : Nat) (l : List Bool) (h : Fl w p l) :
    Calls Tryd.prog 27 #[.pointer (some ⟨p, 0, none⟩)] w fun e w' => e = .returned (.int .i64 l.length) ∧ w = w' := by
  obtain ⟨c0, c1, cw, fz⟩ := h.cells
  clear cw fz h
  go_enter Tryd.func27, Tryd.ntmps27
  go_wp2_with fail
  go_ret
  exact ⟨rfl, rfl⟩
theorem flen_nil (w : World) :
    Calls Tryd.prog 27 #[.pointer none] w fun e w' => e = .returned (.int .i64 0) ∧ w = w' := by
  go_enter Tryd.func27, Tryd.ntmps27
  go_wp2_with fail
  go_ret
  exact ⟨rfl, rfl⟩
theorem fcount_any (w : World) (p : Nat) (l : List Bool) (h : Fl w p l) :
    Calls Tryd.prog 15 #[.pointer (some ⟨p, 0, none⟩)] w fun e w' => e = .returned (.int .i64 (cn l)) ∧ w = w' := by
  obtain ⟨c0, c1, cw, fz⟩ := h.cells
  clear cw fz h
  go_enter Tryd.func15, Tryd.ntmps15
  go_wp2_with fail
  go_ret
  exact ⟨rfl, rfl⟩
theorem fcount_nil (w : World) :
    Calls Tryd.prog 15 #[.pointer none] w fun e w' => e = .returned (.int .i64 0) ∧ w = w' := by
  go_enter Tryd.func15, Tryd.ntmps15
  go_wp2_with fail
  go_ret
  exact ⟨rfl, rfl⟩

/-- The error of check. -/
def flErr (n : Nat) (i k : Int) : Int := if i < 0 ∨ k < 0 ∨ (n : Int) < i ∨ (n : Int) - i < k then 4 else 0
theorem fcheck_nil (w : World) (i k : Int) :
    Calls Tryd.prog 34 #[.pointer none, .int .i64 i, .int .i64 k] w fun e w' => e = .returned (.int .i64 2) ∧ w = w' := by
  go_enter Tryd.func34, Tryd.ntmps34
  go_wp2_with fail
  go_ret
  exact ⟨rfl, rfl⟩
set_option maxHeartbeats 800000 in
theorem fcheck_any (w : World) (p : Nat) (l : List Bool) (h : Fl w p l) (i k : Int) (hi : Fits i) (hk : Fits k) :
    Calls Tryd.prog 34 #[.pointer (some ⟨p, 0, none⟩), .int .i64 i, .int .i64 k] w fun e w' => e = .returned (.int .i64 (flErr l.length i k)) ∧ w = w' := by
  obtain ⟨c0, c1, cw, fz⟩ := h.cells
  have hn := h.len
  obtain ⟨i1, i2⟩ := hi
  obtain ⟨k1, k2⟩ := hk
  generalize l.length = n at c0 hn ⊢
  clear c1 cw fz h
  by_cases d1 : i < 0
  · rw [show flErr n i k = 4 from if_pos (by omega)]
    go_enter Tryd.func34, Tryd.ntmps34
    go_wp2_with fail
    go_ret
    exact ⟨rfl, rfl⟩
  by_cases d2 : k < 0
  · rw [show flErr n i k = 4 from if_pos (by omega)]
    go_enter Tryd.func34, Tryd.ntmps34
    go_wp2_with fail
    go_ret
    exact ⟨rfl, rfl⟩
  by_cases d3 : (n : Int) < i
  · rw [show flErr n i k = 4 from if_pos (by omega)]
    go_enter Tryd.func34, Tryd.ntmps34
    go_wp2_with fail
    go_ret
    exact ⟨rfl, rfl⟩
  by_cases d4 : (n : Int) - i < k
  · rw [show flErr n i k = 4 from if_pos (by omega)]
    go_enter Tryd.func34, Tryd.ntmps34
    go_wp2_with fail
    go_ret
    exact ⟨rfl, rfl⟩
  rw [show flErr n i k = 0 from if_neg (by omega)]
  go_enter Tryd.func34, Tryd.ntmps34
  go_wp2_with fail
  go_ret
  exact ⟨rfl, rfl⟩

theorem bit_and (x j : Nat) (hx : x < 18446744073709551616) : (bits .and .u64 ((x : Int) / 2 ^ j) 1 == 1) = x.testBit j := by
  have hd : x / 2 ^ j ≤ x := Nat.div_le_self _ _
  have a := bits_and_u64 (x / 2 ^ j) 1 (by omega) (by decide)
  rw [Nat.and_one_is_mod] at a
  have e : ((x / 2 ^ j : Nat) : Int) = (x : Int) / 2 ^ j := by rw [Int.natCast_ediv, Int.natCast_pow]; rfl
  rw [e] at a
  rw [show ((1 : Nat) : Int) = 1 from rfl] at a
  rw [a, Nat.testBit_eq_decide_div_mod_eq]
  have : x / 2 ^ j % 2 = 0 ∨ x / 2 ^ j % 2 = 1 := by omega
  rcases this with h | h <;> (rw [h]; rfl)
set_option maxHeartbeats 800000 in
theorem fget_any (w : World) (p : Nat) (l : List Bool) (h : Fl w p l) (i : Nat) (hi : i < l.length) :
    Calls Tryd.prog 37 #[.pointer (some ⟨p, 0, none⟩), .int .i64 i] w fun e w' => e = .returned (.bool (bt l i)) ∧ w = w' := by
  obtain ⟨c0, c1, cw, fz⟩ := h.cells
  have hn := h.len
  have hc := cw (i / 64) (by omega)
  have HE := Lib.hid ((bit_and _ (i % 64) (wd_lt l (i / 64))).trans (wd_at l i))
  clear c0 c1 cw fz h
  go_enter Tryd.func37, Tryd.ntmps37
  go_wp2_with fail
  go_ret
  exact ⟨ret_bool HE.out, rfl⟩

theorem bits_pow (j : Nat) (hj : j < 64) : (2 : Nat) ^ j < 18446744073709551616 := Nat.lt_of_lt_of_le (Nat.pow_lt_pow_right (by omega) hj) (Nat.le_refl (2 ^ 64))
theorem pow_wrap (j : Nat) (hj : j < 64) : IntKind.u64.wrap ((2 : Int) ^ j) = ((2 ^ j : Nat) : Int) := by
  have hp := bits_pow j hj
  have e : ((2 ^ j : Nat) : Int) = (2 : Int) ^ j := by rw [Int.natCast_pow]; rfl
  rw [← e]
  generalize 2 ^ j = y at hp
  rw [IntKind.wrap_u64]
  omega
/-- Flags with one bit that has turned. -/
theorem Fl.turned {w : World} {p : Nat} {l : List Bool} (h : Fl w p l) {i : Nat} (hi : i < l.length) (v : Bool) (hv : bt l i = !v) :
    Fl ((w.setCell ⟨p, 2 + i / 64, none⟩ (.int .u64 ((wd l (i / 64) ^^^ 2 ^ (i % 64) : Nat) : Int))).setCell ⟨p, 1, none⟩ (.int .i64 (cn (l.set i v)))) p (l.set i v) := by
  have hl := h.len
  refine ⟨World.rowIs.congr ((World.rowIs.set h.row _ _).set _ _) fun j hj => ?_, by rw [List.length_set]; exact h.len, fun k hk => ?_, h.pos⟩
  · unfold flc
    by_cases j1 : j = 1
    · subst j1; simp
    · rw [if_neg j1]
      by_cases j2 : j = 2 + i / 64
      · subst j2
        rw [if_pos rfl, if_neg (by omega), if_neg (by omega), Nat.add_sub_cancel_left, wd_set_turn hi v hv]
      · rw [if_neg j2, if_neg j1]
        by_cases j0 : j = 0
        · rw [if_pos j0, if_pos j0, List.length_set]
        · rw [if_neg j0, if_neg j0, if_neg j1, wd_set_other hi v (by omega)]
  · have := h.pos
    rw [World.cell?_setCell_other, World.cell?_setCell_other]
    · exact h.tab k hk
    · intro e; injection e with e; omega
    · intro e; injection e with e; omega
theorem Fr.put {w : World} {p : Nat} (a b : Nat) (u v : Value) : Fr (fun q => q = p) w ((w.setCell ⟨p, a, none⟩ u).setCell ⟨p, b, none⟩ v) :=
  Fr.setCell (S := fun q => q = p) (Fr.setCell (S := fun q => q = p) (Fr.refl _ w) (p := ⟨p, a, none⟩) rfl u) (p := ⟨p, b, none⟩) rfl v

set_option maxHeartbeats 1600000 in
theorem fput_any (w : World) (p : Nat) (l : List Bool) (h : Fl w p l) (i : Nat) (hi : i < l.length) (v : Bool) :
    Calls Tryd.prog 38 #[.pointer (some ⟨p, 0, none⟩), .int .i64 i, .bool v] w fun e w' => e = .returned (.tuple #[]) ∧ Fl w' p (l.set i v) ∧ Fr (fun b => b = p) w w' := by
  have KG := Lib.hid (fget_any w p l h i hi)
  by_cases hv : bt l i = v
  · have HF := Lib.hid h
    have HS := Lib.hid (set_same hi v hv)
    have be : (v != v) = false := by cases v <;> rfl
    rw [hv] at KG
    clear h hv
    go_enter Tryd.func38, Tryd.ntmps38
    go_wp2_with fail
    refine (KG.out).mono ?_
    rintro e w' ⟨rfl, rfl⟩
    go_wp2_with fail
    go_end0
    exact ⟨rfl, by rw [HS.out]; exact HF.out, Fr.refl _ _⟩
  · have hv' : bt l i = !v := by cases v <;> cases q : bt l i <;> simp_all
    have HT := Lib.hid (Fl.turned h hi v hv')
    have hn := h.len
    have hcl := cn_le l
    obtain ⟨c0, c1, cw, fz⟩ := h.cells
    have hc := cw (i / 64) (by omega)
    have z1 := fz (2 + i / 64)
    have z2 := fz 1
    have hp := bits_pow (i % 64) (Nat.mod_lt _ (by omega))
    have ex := bits_xor_u64 (wd l (i / 64)) (2 ^ (i % 64)) (wd_lt _ _) hp
    rw [show ((2 ^ (i % 64) : Nat) : Int) = (2 : Int) ^ (i % 64) from by rw [Int.natCast_pow]; rfl] at ex
    have ew := pow_wrap (i % 64) (Nat.mod_lt _ (by omega))
    have HR := Lib.hid (fun a b u v => Fr.put (w := w) (p := p) a b u v)
    have HN := Lib.hid (show (v = true → cn (l.set i v) = cn l + 1) ∧ (v = false → cn (l.set i v) + 1 = cn l) from ⟨fun e => by subst e; exact cn_set_true hi hv', fun e => by subst e; exact cn_set_false hi hv'⟩)
    rw [hv'] at KG
    have hci : ∀ x, (w.setCell ⟨p, 2 + i / 64, none⟩ x).cell? ⟨p, 1, none⟩ = some (.int .i64 (cn l)) := fun x => by rw [World.cell?_setCell_other _ _ _ _ (fun e => by injection e with e1 e2; omega)]; exact c1
    clear c0 cw fz h hv hv'
    cases v with
    | true =>
      have e : ((cn (l.set i true) : Nat) : Int) = (cn l : Int) + 1 := by have := HN.out.1 rfl; omega
      rw [e] at HT
      clear HN e
      go_enter Tryd.func38, Tryd.ntmps38
      go_wp2_with fail
      refine (KG.out).mono ?_
      rintro e w' ⟨rfl, rfl⟩
      go_wp2_with fail
      go_region
      go_wp2_with fail
      go_end0
      exact ⟨rfl, Fl.drawn (w := (w.setCell _ _).setCell _ _) HT.out ⟨1, rfl⟩, Fr.drawn (w := (w.setCell _ _).setCell _ _) (HR.out _ _ _ _) ⟨1, rfl⟩⟩
    | false =>
      have e : ((cn (l.set i false) : Nat) : Int) = (cn l : Int) - 1 := by have := HN.out.2 rfl; omega
      rw [e] at HT
      clear HN e
      go_enter Tryd.func38, Tryd.ntmps38
      go_wp2_with fail
      refine (KG.out).mono ?_
      rintro e w' ⟨rfl, rfl⟩
      go_wp2_with fail
      go_region
      go_wp2_with fail
      go_end0
      exact ⟨rfl, Fl.drawn (w := (w.setCell _ _).setCell _ _) HT.out ⟨1, rfl⟩, Fr.drawn (w := (w.setCell _ _).setCell _ _) (HR.out _ _ _ _) ⟨1, rfl⟩⟩
end Go.Proofs.YteodkmndghaidaaDoor

/-
  Flags: no flags; the law package's made, same, bits.
-/
import Derived.Test.YteodkmndghaidaaDoorFlaI
namespace Go.Proofs.YteodkmndghaidaaDoor
open Go.RowKit
set_option linter.unusedVariables false
set_option linter.unusedSimpArgs false

theorem nGet (w : World) (i : Int) : Calls Tryd.prog 18 #[.pointer none, .int .i64 i] w fun e w' => e = .returned (.tuple #[.bool false, .int .i64 2]) ∧ w = w' := by
  have KC := Lib.hid (fcheck_nil w (i) (1))
  go_enter Tryd.func18, Tryd.ntmps18
  go_wp2_with fail
  refine (KC.out).mono ?_
  rintro e w' ⟨rfl, rfl⟩
  go_wp2_with fail
  go_ret2
  exact ⟨rfl, rfl⟩
theorem nRank (w : World) (i : Int) : Calls Tryd.prog 12 #[.pointer none, .int .i64 i] w fun e w' => e = .returned (.tuple #[.int .i64 0, .int .i64 2]) ∧ w = w' := by
  have KC := Lib.hid (fcheck_nil w (i) (0))
  go_enter Tryd.func12, Tryd.ntmps12
  go_wp2_with fail
  refine (KC.out).mono ?_
  rintro e w' ⟨rfl, rfl⟩
  go_wp2_with fail
  go_ret2
  exact ⟨rfl, rfl⟩
theorem nSel (w : World) (i : Int) : Calls Tryd.prog 14 #[.pointer none, .int .i64 i] w fun e w' => e = .returned (.tuple #[.int .i64 0, .int .i64 2]) ∧ w = w' := by
  go_enter Tryd.func14, Tryd.ntmps14
  go_wp2_with fail
  go_ret2
  exact ⟨rfl, rfl⟩
theorem nNext (w : World) (i : Int) (v : Bool) : Calls Tryd.prog 16 #[.pointer none, .int .i64 i, .bool v] w fun e w' => e = .returned (.tuple #[.int .i64 0, .int .i64 2]) ∧ w = w' := by
  have KC := Lib.hid (fcheck_nil w (i) (0))
  go_enter Tryd.func16, Tryd.ntmps16
  go_wp2_with fail
  refine (KC.out).mono ?_
  rintro e w' ⟨rfl, rfl⟩
  go_wp2_with fail
  go_ret2
  exact ⟨rfl, rfl⟩
theorem nSet (w : World) (i : Int) (v : Bool) : Calls Tryd.prog 19 #[.pointer none, .int .i64 i, .bool v] w fun e w' => e = .returned (.int .i64 2) ∧ w = w' := by
  have KC := Lib.hid (fcheck_nil w (i) (1))
  go_enter Tryd.func19, Tryd.ntmps19
  go_wp2_with fail
  refine (KC.out).mono ?_
  rintro e w' ⟨rfl, rfl⟩
  go_wp2_with fail
  go_ret
  exact ⟨rfl, rfl⟩
theorem nIns (w : World) (i n : Int) (v : Bool) : Calls Tryd.prog 22 #[.pointer none, .int .i64 i, .int .i64 n, .bool v] w fun e w' => e = .returned (.int .i64 2) ∧ w = w' := by
  have KC := Lib.hid (fcheck_nil w (i) (0))
  go_enter Tryd.func22, Tryd.ntmps22
  go_wp2_with fail
  refine (KC.out).mono ?_
  rintro e w' ⟨rfl, rfl⟩
  go_wp2_with fail
  go_ret
  exact ⟨rfl, rfl⟩
theorem nRem (w : World) (i n : Int) : Calls Tryd.prog 24 #[.pointer none, .int .i64 i, .int .i64 n] w fun e w' => e = .returned (.int .i64 2) ∧ w = w' := by
  have KC := Lib.hid (fcheck_nil w (i) (n))
  go_enter Tryd.func24, Tryd.ntmps24
  go_wp2_with fail
  refine (KC.out).mono ?_
  rintro e w' ⟨rfl, rfl⟩
  go_wp2_with fail
  go_ret
  exact ⟨rfl, rfl⟩
theorem nMov (w : World) (i n t : Int) : Calls Tryd.prog 26 #[.pointer none, .int .i64 i, .int .i64 n, .int .i64 t] w fun e w' => e = .returned (.int .i64 2) ∧ w = w' := by
  have KC := Lib.hid (fcheck_nil w (i) (n))
  go_enter Tryd.func26, Tryd.ntmps26
  go_wp2_with fail
  refine (KC.out).mono ?_
  rintro e w' ⟨rfl, rfl⟩
  go_wp2_with fail
  go_ret
  exact ⟨rfl, rfl⟩
theorem nSpans (w : World) : Calls Tryd.prog 28 #[.pointer none] w fun e w' => e = .returned (.slice none 0 0) ∧ w = w' := by
  go_enter Tryd.func28, Tryd.ntmps28
  go_wp2_with fail
  go_ret
  exact ⟨rfl, rfl⟩

theorem Fr.wide {p : Nat} {w0 w w' : World} (h : Fr (fun b => b = p) w w') (hp : w0.heap.size ≤ p) (hb : Below w0.heap.size w0 w) : Below w0.heap.size w0 w' :=
  hb.trans (h.below hb.size (by rintro b rfl; exact hp))

theorem made_step (M : List Bool) {j : Nat} (h : j < M.length) : (M.take j ++ List.replicate (M.length - j) false).set j (bt M j) = M.take (j + 1) ++ List.replicate (M.length - (j + 1)) false := by
  have e := set_next (M.take j) (M.length - (j + 1)) (bt M j)
  rw [List.length_take, Nat.min_eq_left (Nat.le_of_lt h), ← take_snoc h] at e
  rw [show M.length - j = M.length - (j + 1) + 1 from by omega]
  exact e
set_option maxRecDepth 100000 in
set_option maxHeartbeats 3200000 in
theorem made_any (w : World) (hT : Tab w) (h0 : 0 < w.heap.size) (A : Option Addr) (c B : Nat) (l : List Bool) (hs : SeesF w B A l) (hB : B ≤ w.heap.size) (hl : l.length ≤ 4096) :
    Calls Tryd.prog 10 #[.slice A l.length c] w fun e w' => ∃ p, e = .returned (.tuple #[.pointer (some ⟨p, 0, none⟩), .bool true]) ∧ Fl w' p l ∧ w.heap.size ≤ p ∧ Below w.heap.size w w' := by
  have KN := Lib.hid (fnew_any w hT h0 l.length hl)
  have HS := Lib.hid (hs.more hB)
  obtain ⟨n, en⟩ : ∃ n, n = l.length := ⟨_, rfl⟩
  have EN := Lib.hid en
  rw [← en] at KN hl ⊢
  clear en hs hT h0
  go_enter Tryd.func10, Tryd.ntmps10
  go_wp2_with fail
  refine (KN.out).mono ?_
  rintro e w1 ⟨p, rfl, k1, k2, k3⟩
  have F0 : Hid (Fl w1 p (l.take 0 ++ List.replicate (n - 0) false)) := k1
  have HP := Lib.hid k2
  have B0 := Lib.hid k3
  clear k1 k2 k3 KN
  go_wp2_with fail
  go_loopw [6] (fun i wr => ∃ j : Nat, j ≤ n ∧ i = .int .i64 j ∧ Hid (Fl wr p (l.take j ++ List.replicate (n - j) false)) ∧ Hid (Below w.heap.size w wr)) (fun i _ => n - (intOf i).toNat)
  case atStart => exact ⟨0, Nat.zero_le _, rfl, F0, B0⟩
  case round =>
    obtain ⟨j, hj, rfl, hF, hD⟩ := hrel
    clear F0 B0
    by_cases hlt : j < n
    · obtain ⟨b, o, rfl, hb, hcell⟩ := (HS.out.below hD.out) (by rw [← EN.out]; omega)
      have hc := hcell j (by rw [← EN.out]; exact hlt)
      rw [show bvs l j = .bool (bt l j) from rfl] at hc
      have hji : (j : Int) < (n : Int) := by omega
      have KS := fSet_ok wr p _ hF.out j (by rw [List.length_append, List.length_take, List.length_replicate, ← EN.out]; omega) (bt l j)
      rw [show (l.take j ++ List.replicate (n - j) false).set j (bt l j) = l.take (j + 1) ++ List.replicate (n - (j + 1)) false from by rw [EN.out]; exact made_step l (by rw [← EN.out]; exact hlt)] at KS
      have KS := Lib.hid KS
      have D2 := Lib.hid hD.out
      generalize bt l j = v at hc KS
      clear hcell hF hD
      go_wp2_with fail
      refine (KS.out).mono ?_
      rintro e w2 ⟨rfl, k1, k2⟩
      have F3 := Lib.hid k1
      have D3 := Lib.hid (k2.wide HP.out D2.out)
      clear k1 k2 KS D2 hc
      go_wp2_with fail
      go_roundw
      case rel => exact ⟨j + 1, hlt, by go_num, F3, D3⟩
      case measure => simp [intOf]; omega
    · obtain rfl : j = n := by omega
      have F3 : Hid (Fl wr p l) := by
        have := hF.out
        rw [Nat.sub_self, EN.out, List.take_length] at this
        rw [show List.replicate 0 false = [] from rfl, List.append_nil] at this
        exact this
      have D3 := Lib.hid hD.out
      clear hF hD
      go_wp2_with fail
      go_ret2
      exact ⟨p, rfl, F3.out, HP.out, D3.out⟩
set_option maxRecDepth 100000 in
set_option maxHeartbeats 3200000 in
theorem same_any (w : World) (p : Nat) (l : List Bool) (h : Fl w p l) (A : Option Addr) (c B : Nat) (hs : SeesF w B A l) (hB : B ≤ w.heap.size) :
    Calls Tryd.prog 11 #[.pointer (some ⟨p, 0, none⟩), .slice A l.length c] w fun e w' => e = .returned (.bool true) ∧ w = w' := by
  have hl := h.len
  have KL := Lib.hid (flen_any w p l h)
  have KC := Lib.hid (fcount_any w p l h)
  have KR := Lib.hid (rRank_any w A c B l hs l.length (Nat.le_refl _) (by omega))
  have HF := Lib.hid h
  have HS := Lib.hid (hs.more hB)
  have ecn : Hid (cn l = cnt (bt l) l.length) := rfl
  obtain ⟨x, ex⟩ : ∃ x, x = cn l := ⟨_, rfl⟩
  rw [← ecn.out, ← ex] at KR
  rw [← ex] at KC
  have hxl : x ≤ 4096 := by have := cn_le l; omega
  obtain ⟨n, en⟩ : ∃ n, n = l.length := ⟨_, rfl⟩
  have EN := Lib.hid en
  rw [← en] at KL KR hl ⊢
  clear h hs en ecn ex
  go_enter Tryd.func11, Tryd.ntmps11
  go_wp2_with fail
  refine (KL.out).mono ?_
  rintro e w' ⟨rfl, rfl⟩
  go_wp2_with fail
  refine (KC.out).mono ?_
  rintro e w' ⟨rfl, rfl⟩
  go_wp2_with fail
  refine (KR.out).mono ?_
  rintro e w' ⟨rfl, rfl⟩
  go_wp2_with fail
  clear KL KC KR hxl
  go_loopw [5] (fun i wr => ∃ j : Nat, j ≤ n ∧ i = .int .i64 j ∧ Hid (w = wr)) (fun i _ => n - (intOf i).toNat)
  case atStart => exact ⟨0, Nat.zero_le _, rfl, rfl⟩
  case round =>
    obtain ⟨j, hj, rfl, hw⟩ := hrel
    have hwe := hw.out
    subst hwe
    clear hw
    by_cases hlt : j < n
    · obtain ⟨b, o, rfl, hb, hcell⟩ := HS.out (by rw [← EN.out]; omega)
      have hc := hcell j (by rw [← EN.out]; exact hlt)
      rw [show bvs l j = .bool (bt l j) from rfl] at hc
      have hji : (j : Int) < (n : Int) := by omega
      have KG := Lib.hid (fGet_ok w p l HF.out j (by rw [← EN.out]; exact hlt))
      generalize bt l j = v at hc KG
      have hv : (v != v) = false := by cases v <;> rfl
      clear hcell
      go_wp2_with fail
      refine (KG.out).mono ?_
      rintro e w' ⟨rfl, rfl⟩
      go_wp2_with fail
      go_roundw
      case rel => exact ⟨j + 1, hlt, by go_num, by first | rfl | exact trivial⟩
      case measure => simp [intOf]; omega
    · obtain rfl : j = n := by omega
      go_wp2_with fail
      go_ret
      exact ⟨rfl, rfl⟩

/-- The bits of some numbers. -/
def ofInts (z : List Int) : List Bool := z.map (fun x => x == 1)
theorem ofInts_take {z : List Int} {k : Nat} (h : k < z.length) : ofInts (z.take (k + 1)) = ofInts (z.take k) ++ [(z.getD k 0 == 1)] := by
  unfold ofInts
  rw [List.take_succ_eq_append_getElem h, List.map_append, List.getD_eq_getElem?_getD, List.getElem?_eq_getElem h]
  rfl
set_option maxRecDepth 100000 in
set_option maxHeartbeats 3200000 in
theorem bits_any (w : World) (A : Option Addr) (c B : Nat) (z : List Int) (hs : Sees w B A z.length (fun j => .int .i64 (z.getD j 0))) (hB : B ≤ w.heap.size) (hl : z.length ≤ 1000) :
    Calls Tryd.prog 33 #[.slice A z.length c] w fun e w' => ∃ A' c', e = .returned (.slice A' (ofInts z).length c') ∧ SeesF w' w'.heap.size A' (ofInts z) ∧ Below w.heap.size w w' := by
  have HS := Lib.hid (hs.more hB)
  obtain ⟨n, en⟩ : ∃ n, n = z.length := ⟨_, rfl⟩
  have EN := Lib.hid en
  rw [← en] at hl ⊢
  clear hs en
  go_enter Tryd.func33, Tryd.ntmps33
  go_wp2_with fail
  go_loopw [3, 4] (fun o i wr => ∃ (j : Nat) (Ao : Option Addr) (co : Nat), j ≤ n ∧ o = .slice Ao j co ∧ i = .int .i64 j ∧ Hid (OwnF wr w.heap.size Ao co (ofInts (z.take j))) ∧ Hid (Below w.heap.size w wr)) (fun _ i _ => n - (intOf i).toNat)
  case atStart => exact ⟨0, none, 0, Nat.zero_le _, rfl, rfl, Own.nil _ _ _ _ _, Below.refl _ _⟩
  case round =>
    obtain ⟨j, Ao, co, hj, rfl, rfl, hO, hD⟩ := hrel
    have hlen : (ofInts (z.take j)).length = j := by unfold ofInts; rw [List.length_map, List.length_take, Nat.min_eq_left (by rw [← EN.out]; exact hj)]
    by_cases hlt : j < n
    · obtain ⟨b, o, rfl, hb, hcell⟩ := (HS.out.below hD.out) (by rw [← EN.out]; omega)
      have hc : wr.cell? ⟨b, o + j, none⟩ = some (.int .i64 (z.getD j 0)) := hcell j (by rw [← EN.out]; exact hlt)
      have hji : (j : Int) < (n : Int) := by omega
      obtain ⟨Ad, cd, w3, run3, O3, hb3, hcm3, _⟩ := push_F wr w.heap.size hO.out hD.out.size (z.getD j 0 == 1) (by rw [hlen]; omega)
      rw [hlen] at run3
      rw [← ofInts_take (by rw [← EN.out]; exact hlt)] at O3
      have R3 := Lib.hid run3
      have HO3 := Lib.hid O3
      have HB3 := Lib.hid (hD.out.trans hb3)
      generalize z.getD j 0 = x at hc R3
      clear run3 O3 hb3 hcm3 hO hlen hcell hD
      go_wp2_with (at_builtin; refine Hid.out ?_)
      refine Lib.hid (Lib.wpList_append_run _ rfl _ _ _ _ rfl _ _ rfl rfl _ _ (R3.out _) ?_)
      go_wp2_with fail
      go_roundw
      case rel => exact ⟨j + 1, Ad, cd, hlt, rfl, by go_num, HO3, HB3⟩
      case measure => simp [intOf]; omega
    · obtain rfl : j = n := by omega
      have HO3 : Hid (OwnF wr w.heap.size Ao co (ofInts z)) := by have := hO.out; rwa [EN.out, List.take_length] at this
      have HL : Hid (j = (ofInts z).length) := by show _ = _; unfold ofInts; rw [List.length_map]; exact EN.out
      have D3 := Lib.hid hD.out
      clear hO hD hlen
      go_wp2_with fail
      go_ret
      exact ⟨Ao, co, by rw [← HL.out]; rfl, OwnF.see HO3.out, D3.out⟩
end Go.Proofs.YteodkmndghaidaaDoor

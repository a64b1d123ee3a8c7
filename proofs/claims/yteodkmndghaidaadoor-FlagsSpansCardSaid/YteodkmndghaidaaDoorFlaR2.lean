/-
  The reference of layer 4: Insert, Move.
-/
import Derived.Test.YteodkmndghaidaaDoorFlaR
namespace Go.Proofs.YteodkmndghaidaaDoor
open Go.RowKit
set_option linter.unusedVariables false
set_option linter.unusedSimpArgs false

def fIns (L : List Bool) (k m : Nat) (v : Bool) : List Bool := L.take k ++ List.replicate m v ++ L.drop k
def fInsErr (L : List Bool) (i n : Int) : Int := if i < 0 ∨ (L.length : Int) < i ∨ n < 0 then 4 else if 4096 - (L.length : Int) < n then 3 else 0
def fInsTo (L : List Bool) (i n : Int) (v : Bool) : List Bool := if fInsErr L i n = 0 then fIns L i.toNat n.toNat v else L
theorem fIns_len {L : List Bool} {k : Nat} (h : k ≤ L.length) (m : Nat) (v : Bool) : (fIns L k m v).length = L.length + m := by
  unfold fIns; rw [List.length_append, List.length_append, List.length_take, List.length_drop, List.length_replicate]; omega
theorem rep_snoc (j : Nat) (v : Bool) (P : List Bool) : P ++ List.replicate (j + 1) v = (P ++ List.replicate j v) ++ [v] := by
  rw [List.append_assoc, List.replicate_succ']
set_option maxRecDepth 100000 in
set_option maxHeartbeats 3200000 in
theorem rIns_any (w : World) (A : Option Addr) (c B : Nat) (L : List Bool) (h : SeesF w B A L) (hB : B ≤ w.heap.size) (hnc : L.length ≤ c) (hc : c ≤ maxLen) (hl : L.length ≤ 4096) (i n : Int) (v : Bool) (fi : Fits i) (fn : Fits n) :
    Calls Tryd.prog 21 #[.slice A L.length c, .int .i64 i, .int .i64 n, .bool v] w (FPost w (fInsTo L i n v) (fInsErr L i n)) := by
  obtain ⟨fi1, fi2⟩ := fi
  obtain ⟨fn1, fn2⟩ := fn
  have E : Hid (∀ x : Int, FPost w L x (.returned (.tuple #[.slice A L.length c, .int .i64 x])) w) := fun x => FPost.same h hB hnc hc (Below.refl _ _) x
  unfold fInsTo fInsErr
  by_cases cc : i < 0 ∨ (L.length : Int) < i ∨ n < 0
  · rw [if_pos cc, if_neg (by decide)]
    obtain ⟨N, eN⟩ : ∃ N, N = L.length := ⟨_, rfl⟩
    rw [← eN] at cc hl E ⊢
    clear h hnc eN
    by_cases c1 : i < 0
    · clear cc
      go_enter Tryd.func21, Tryd.ntmps21
      go_wp2_with fail
      go_ret2
      exact E.out 4
    by_cases c2 : (N : Int) < i
    · clear cc
      go_enter Tryd.func21, Tryd.ntmps21
      go_wp2_with fail
      go_ret2
      exact E.out 4
    · have c3 : n < 0 := by omega
      clear cc
      go_enter Tryd.func21, Tryd.ntmps21
      go_wp2_with fail
      go_ret2
      exact E.out 4
  rw [if_neg cc]
  by_cases cd : 4096 - (L.length : Int) < n
  · rw [if_pos cd, if_neg (by decide)]
    obtain ⟨N, eN⟩ : ∃ N, N = L.length := ⟨_, rfl⟩
    rw [← eN] at cc cd hl E ⊢
    clear h hnc eN
    have c1 : ¬ i < 0 := by omega
    have c2 : ¬ (N : Int) < i := by omega
    have c3 : ¬ n < 0 := by omega
    clear cc
    go_enter Tryd.func21, Tryd.ntmps21
    go_wp2_with fail
    go_ret2
    exact E.out 3
  rw [if_neg cd, if_pos rfl]
  obtain ⟨k, rfl⟩ : ∃ k : Nat, i = (k : Int) := ⟨i.toNat, by omega⟩
  obtain ⟨m, rfl⟩ : ∃ k : Nat, n = (k : Int) := ⟨n.toNat, by omega⟩
  rw [Int.toNat_natCast, Int.toNat_natCast]
  have hk : k ≤ L.length := by omega
  have hm : m ≤ 4096 := by omega
  have l1 : (L.take k).length = k := by rw [List.length_take]; omega
  have l2 : (L.drop k).length = L.length - k := List.length_drop
  obtain ⟨Ac, cc', w2, run, O, hb, hcm⟩ := clone_F w (A := A) (c := c) (L := L.take k) (SeesF.first h k hk) hB (by omega)
  rw [l1] at run
  have RUN := Lib.hid run
  have SA := slF_h A L.length c k (by omega)
  have SB := slF_l A L.length c k hk
  have hsub := SeesF.rest h hnc k hk
  have LT : Hid (∀ j, (L.take k ++ List.replicate j v).length = k + j) := fun j => by rw [List.length_append, l1, List.length_replicate]
  have FIN : Hid (∀ (wr : World) (Ao : Option Addr) (co : Nat), Below w.heap.size w wr → OwnF wr w.heap.size Ao co (L.take k ++ List.replicate m v) → co ≤ maxLen →
      ∃ Af cf wf, (∀ ty, (Builtin.append_ #[22, 22] ty #[.slice Ao (k + m) co, .slice (subA A c k 1) (L.length - k) (c - k)]).run Tryd.prog wr = .ok (.slice Af (k + m + (L.length - k)) cf) wf) ∧ FPost w (fIns L k m v) 0 (.returned (.tuple #[.slice Af (k + m + (L.length - k)) cf, .int .i64 0])) wf) := by
    intro wr Ao co hbw hO hco
    obtain ⟨Af, cf, wf, run2, O2, hb2, hcm2, _⟩ := app_F wr w.heap.size hO hbw.size (c2 := c - k) (hsub.below (hbw.mono hB)) (by rw [LT.out]; omega)
    rw [LT.out, l2] at run2
    exact ⟨Af, cf, wf, run2, Af, cf, by unfold fIns; rw [List.length_append, LT.out, l2], OwnF.see O2, hbw.trans hb2, O2.le, hcm2 hco⟩
  have O0 : Hid (OwnF w2 w.heap.size Ac cc' (L.take k ++ List.replicate 0 v)) := by
    show OwnF _ _ _ _ (L.take k ++ [])
    rw [List.append_nil]
    exact O
  have HB := Lib.hid hb
  obtain ⟨N, eN⟩ : ∃ N, N = L.length := ⟨_, rfl⟩
  rw [← eN] at cc cd hl SA SB FIN hk ⊢
  have c1 : ¬ ((k : Int) < 0) := by omega
  have c2 : ¬ ((N : Int) < (k : Int)) := by omega
  have c3 : ¬ ((m : Int) < 0) := by omega
  have c4 : ¬ (4096 - (N : Int) < (m : Int)) := by omega
  have HSB := Lib.hid SB
  have HCM := Lib.hid hcm
  clear run O hb l1 l2 hsub h hnc eN cc cd E SB hcm
  go_enter Tryd.func21, Tryd.ntmps21
  go_wp2_with (at_builtin; refine Hid.out ?_)
  refine Lib.hid (Lib.wpList_append_run _ rfl _ _ _ _ rfl _ _ rfl rfl _ _ (RUN.out _) ?_)
  clear SA
  go_wp2_with fail
  go_loopw [10, 11] (fun o i wr => ∃ (j : Nat) (Ao : Option Addr) (co : Nat), j ≤ m ∧ o = .slice Ao (k + j) co ∧ i = .int .i64 j ∧ Hid (OwnF wr w.heap.size Ao co (L.take k ++ List.replicate j v)) ∧ Hid (Below w.heap.size w wr) ∧ Hid (co ≤ maxLen)) (fun _ i _ => m - (intOf i).toNat)
  case atStart => exact ⟨0, Ac, cc', Nat.zero_le _, rfl, rfl, O0, HB, HCM⟩
  case round =>
    obtain ⟨j, Ao, co, hj, rfl, rfl, hO, hBW, hco⟩ := hrel
    clear O0 HB RUN
    by_cases hlt : j < m
    · obtain ⟨Ad, cd, w3, run3, O3, hb3, hcm3, _⟩ := push_F wr w.heap.size hO.out hBW.out.size v (by rw [LT.out]; omega)
      rw [LT.out] at run3
      rw [← rep_snoc] at O3
      have R3 := Lib.hid run3
      have HO3 := Lib.hid O3
      have HB3 := Lib.hid (hBW.out.trans hb3)
      have HC3 : Hid (cd ≤ maxLen) := hcm3 hco.out
      have hji : (j : Int) < (m : Int) := by omega
      clear run3 O3 hb3 hcm3 hO
      go_wp2_with (at_builtin; refine Hid.out ?_)
      refine Lib.hid (Lib.wpList_append_run _ rfl _ _ _ _ rfl _ _ rfl rfl _ _ (R3.out _) ?_)
      go_wp2_with fail
      go_roundw
      case rel => exact ⟨j + 1, Ad, cd, by omega, rfl, by go_num, HO3, HB3, HC3⟩
      case measure => simp [intOf]; omega
    · obtain rfl : j = m := by omega
      obtain ⟨Af, cf, wf, run4, HF⟩ := FIN.out wr Ao co hBW.out hO.out hco.out
      have R4 := Lib.hid run4
      have HH := Lib.hid HF
      have SB := HSB.out
      clear run4 HF FIN hO hBW hco
      go_wp2_with (at_builtin; refine Hid.out ?_)
      refine Lib.hid (Lib.wpList_append_run _ rfl _ _ _ _ rfl _ _ rfl rfl _ _ (R4.out _) ?_)
      go_wp2_with fail
      go_ret2
      exact HH.out

def fMov (L : List Bool) (k m q : Nat) : List Bool := (fRem L k m).take q ++ (L.drop k).take m ++ (fRem L k m).drop q
def fMovErr (L : List Bool) (i n t : Int) : Int := if i < 0 ∨ n < 0 ∨ (L.length : Int) < i ∨ (L.length : Int) - i < n ∨ t < 0 ∨ (L.length : Int) - n < t then 4 else 0
def fMovTo (L : List Bool) (i n t : Int) : List Bool := if fMovErr L i n t = 0 then fMov L i.toNat n.toNat t.toNat else L
theorem fMov_len {L : List Bool} {k m q : Nat} (h : k + m ≤ L.length) (hq : q ≤ L.length - m) : (fMov L k m q).length = L.length := by
  unfold fMov; rw [List.length_append, List.length_append, List.length_take, List.length_drop, List.length_take, List.length_drop, fRem_len h]; omega
set_option maxRecDepth 100000 in
set_option maxHeartbeats 3200000 in
theorem rMov_any (w : World) (A : Option Addr) (c B : Nat) (L : List Bool) (h : SeesF w B A L) (hB : B ≤ w.heap.size) (hnc : L.length ≤ c) (hc : c ≤ maxLen) (hl : L.length ≤ 100000) (i n t : Int) (fi : Fits i) (fn : Fits n) (ft : Fits t) :
    Calls Tryd.prog 25 #[.slice A L.length c, .int .i64 i, .int .i64 n, .int .i64 t] w (FPost w (fMovTo L i n t) (fMovErr L i n t)) := by
  have KR := Lib.hid (rRem_any w A c B L h hB hnc hc hl i n fi fn)
  obtain ⟨ft1, ft2⟩ := ft
  have E : Hid (∀ W, Below w.heap.size w W → FPost w L 4 (.returned (.tuple #[.slice A L.length c, .int .i64 4])) W) := fun W hW => FPost.same h hB hnc hc hW 4
  unfold fRemTo fRemErr at KR
  unfold fMovTo
  by_cases cc : i < 0 ∨ n < 0 ∨ (L.length : Int) < i ∨ (L.length : Int) - i < n
  · rw [if_pos cc, if_neg (by decide)] at KR
    rw [show fMovErr L i n t = 4 from if_pos (by omega), if_neg (by decide)]
    obtain ⟨N, eN⟩ : ∃ N, N = L.length := ⟨_, rfl⟩
    unfold FPost at KR
    rw [← eN] at KR E ⊢
    clear h hnc eN cc hl
    go_enter Tryd.func25, Tryd.ntmps25
    go_wp2_with fail
    refine (KR.out).mono ?_
    rintro e w1 ⟨Aj, cj, rfl, _, hb, _, _⟩
    have HE := Lib.hid (E.out w1 hb)
    clear hb E
    go_wp2_with fail
    go_ret2
    exact HE.out
  rw [if_neg cc, if_pos rfl] at KR
  obtain ⟨k, rfl⟩ : ∃ k : Nat, i = (k : Int) := ⟨i.toNat, by omega⟩
  obtain ⟨m, rfl⟩ : ∃ k : Nat, n = (k : Int) := ⟨n.toNat, by omega⟩
  rw [Int.toNat_natCast, Int.toNat_natCast] at KR
  have hkm : k + m ≤ L.length := by omega
  have hRl := fRem_len hkm
  by_cases ct : t < 0 ∨ (L.length : Int) - m < t
  · rw [show fMovErr L k m t = 4 from if_pos (by omega), if_neg (by decide)]
    unfold FPost at KR
    obtain ⟨N, eN⟩ : ∃ N, N = L.length := ⟨_, rfl⟩
    obtain ⟨nr, enr⟩ : ∃ N, N = (fRem L k m).length := ⟨_, rfl⟩
    rw [← eN] at ct hRl hkm E ⊢
    rw [← enr] at KR hRl
    rw [← eN] at KR
    have hr : (nr : Int) = (N : Int) - m := by omega
    clear h hnc eN cc hl enr hRl hkm
    by_cases t0 : t < 0
    · clear ct hr
      go_enter Tryd.func25, Tryd.ntmps25
      go_wp2_with fail
      refine (KR.out).mono ?_
      rintro e w1 ⟨Aj, cj, rfl, _, hb, _, _⟩
      have HE := Lib.hid (E.out w1 hb)
      clear hb E
      go_wp2_with fail
      go_ret2
      exact HE.out
    · have t1 : (nr : Int) < t := by omega
      clear ct hr
      go_enter Tryd.func25, Tryd.ntmps25
      go_wp2_with fail
      refine (KR.out).mono ?_
      rintro e w1 ⟨Aj, cj, rfl, _, hb, _, _⟩
      have HE := Lib.hid (E.out w1 hb)
      clear hb E
      go_wp2_with fail
      go_ret2
      exact HE.out
  obtain ⟨q, rfl⟩ : ∃ k : Nat, t = (k : Int) := ⟨t.toNat, by omega⟩
  rw [show fMovErr L k m q = 0 from if_neg (by omega), if_pos rfl, Int.toNat_natCast, Int.toNat_natCast, Int.toNat_natCast]
  have hq : q ≤ (fRem L k m).length := by omega
  have RR : Hid (∀ (w1 : World) (Ar : Option Addr) (cr : Nat), Below w.heap.size w w1 → SeesF w1 w1.heap.size Ar (fRem L k m) → (fRem L k m).length ≤ cr → ∃ Ac cc w2, (∀ ty, (Builtin.append_ #[22, 22] ty #[.slice (some ⟨w1.heap.size, 0, none⟩) 0 0, .slice Ar q cr]).run Tryd.prog (w1.alloc (.cells #[] 4)) = .ok (.slice Ac q cc) w2) ∧
      ∃ Ad cd w3, (∀ ty, (Builtin.append_ #[22, 22] ty #[.slice Ac q cc, .slice (subA A c k 1) m (c - k)]).run Tryd.prog w2 = .ok (.slice Ad (q + m) cd) w3) ∧
      ∃ Af cf w4, (∀ ty, (Builtin.append_ #[22, 22] ty #[.slice Ad (q + m) cd, .slice (subA Ar cr q 1) ((fRem L k m).length - q) (cr - q)]).run Tryd.prog w3 = .ok (.slice Af (q + m + ((fRem L k m).length - q)) cf) w4) ∧
        FPost w (fMov L k m q) 0 (.returned (.tuple #[.slice Af (q + m + ((fRem L k m).length - q)) cf, .int .i64 0])) w4) := by
    intro w1 Ar cr hb1 hr hcr
    have l1 : ((fRem L k m).take q).length = q := by rw [List.length_take]; omega
    have l2 : ((L.drop k).take m).length = m := by rw [List.length_take, List.length_drop]; omega
    have l3 : ((fRem L k m).drop q).length = (fRem L k m).length - q := List.length_drop
    obtain ⟨Ac, cc, w2, run, O, hb, hcm⟩ := clone_F w1 (A := Ar) (c := cr) (L := (fRem L k m).take q) (SeesF.first hr q hq) (Nat.le_refl _) (by omega)
    rw [l1] at run
    refine ⟨Ac, cc, w2, run, ?_⟩
    have hsub := SeesF.sub h hnc k (k + m) (by omega) hkm
    rw [show k + m - k = m from by omega] at hsub
    obtain ⟨Ad, cd, w3, run2, O2, hb2, hcm2, _⟩ := app_F w2 w1.heap.size O hb.size (c2 := c - k) ((hsub.below (hb1.mono hB)).below (hb.mono (by have := hb1.size; omega))) (by omega)
    rw [l1, l2] at run2
    have B3 := hb.trans hb2
    refine ⟨Ad, cd, w3, run2, ?_⟩
    have hsub3 := SeesF.rest hr hcr q hq
    obtain ⟨Af, cf, w4, run3, O3, hb3, hcm3, _⟩ := app_F w3 w1.heap.size O2 B3.size (c2 := cr - q) (hsub3.below B3) (by rw [List.length_append]; omega)
    rw [List.length_append, l1, l2, l3] at run3
    exact ⟨Af, cf, w4, run3, Af, cf, by unfold fMov; rw [List.length_append, List.length_append, l1, l2, l3], OwnF.see O3, hb1.trans ((B3.trans hb3).mono hb1.size), O3.le, hcm3 (hcm2 hcm)⟩
  unfold FPost at KR
  obtain ⟨N, eN⟩ : ∃ N, N = L.length := ⟨_, rfl⟩
  obtain ⟨R, eR'⟩ : ∃ R, R = fRem L k m := ⟨_, rfl⟩
  rw [← eR'] at KR RR hq hRl
  obtain ⟨nr, enr⟩ : ∃ N, N = R.length := ⟨_, rfl⟩
  rw [← eN] at hnc hl hkm hRl cc ct ⊢
  rw [← enr] at KR RR hq hRl
  rw [← eN] at KR
  have ht0 : ¬ (nr : Int) < (q : Int) := by omega
  have ht1 : ¬ (q : Int) < 0 := by omega
  have hki : k + m ≤ c := by omega
  have SA := slF_lh A N c k (k + m) (by omega) hki
  have SB := fun (Ar : Option Addr) (cr : Nat) (h : nr ≤ cr) => slF_h Ar nr cr q (by omega)
  have SC := fun (Ar : Option Addr) (cr : Nat) => slF_l Ar nr cr q hq
  rw [Int.natCast_add, show k + m - k = m from by omega] at SA
  have hi6 : IntKind.i64.wrap ((k : Int) + (m : Int)) = (k : Int) + (m : Int) := IntWalk.i64_in _ (by omega)
  have HSA := Lib.hid SA
  have HSB := Lib.hid SB
  have HSC := Lib.hid SC
  have H6 := Lib.hid hi6
  clear SA SB SC hi6 h hB eN eR' enr hRl hnc hc hki E hq ct cc hkm
  go_enter Tryd.func25, Tryd.ntmps25
  go_wp2_with fail
  refine (KR.out).mono ?_
  rintro e w1 ⟨Ar, cr, rfl, p1, hb, p2, p3⟩
  obtain ⟨Ac, cc, w2, run, Ad, cd, w3, run2, Af, cf, w4, run3, H⟩ := RR.out w1 Ar cr hb p1 p2
  have hsb := HSB.out Ar cr p2
  have R1 := Lib.hid run
  have R2 := Lib.hid run2
  have R3 := Lib.hid run3
  have HH := Lib.hid H
  have HSC' := Lib.hid (HSC.out Ar cr)
  clear run run2 run3 H RR KR p1 p2 p3 hb HSB HSC
  go_wp2_with (at_builtin; refine Hid.out ?_)
  refine Lib.hid (Lib.wpList_append_run _ rfl _ _ _ _ rfl _ _ rfl rfl _ _ (R1.out _) ?_)
  have hsa := HSA.out
  have hi6 := H6.out
  clear hsb
  go_wp2_with (at_builtin; refine Hid.out ?_)
  refine Lib.hid (Lib.wpList_append_run _ rfl _ _ _ _ rfl _ _ rfl rfl _ _ (R2.out _) ?_)
  have hsc := HSC'.out
  clear hsa hi6
  go_wp2_with (at_builtin; refine Hid.out ?_)
  refine Lib.hid (Lib.wpList_append_run _ rfl _ _ _ _ rfl _ _ rfl rfl _ _ (R3.out _) ?_)
  go_wp2_with fail
  go_ret2
  exact HH.out
end Go.Proofs.YteodkmndghaidaaDoor

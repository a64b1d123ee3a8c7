/-
  Law package 06: the reference's Top and At; same.
-/
import Derived.Test.YtngbaiijdgmpoaaSizH
import Derived.Test.YtngbaiijdgmpoaaHeld3
import Derived.LoopTactic
namespace Go.Proofs.Ytngbaiijdgmpoaa
open Go.RowKit
set_option linter.unusedVariables false
set_option linter.unusedSimpArgs false

theorem SeesR.cells {w : World} {B : Nat} {A : Option Addr} {R : Rws} (h : SeesR w B A R) {k : Nat} (hk : k < R.length) :
    ∃ b o, A = some ⟨b, o, none⟩ ∧ b < B ∧ w.cell? ⟨b, o + k * 2, none⟩ = some (.int .i64 (rg R k).1) ∧ w.cell? ⟨b, o + k * 2 + 1, none⟩ = some (.bool (rg R k).2) := by
  obtain ⟨b, o, h1, h2, h3⟩ := h (by omega)
  refine ⟨b, o, h1, h2, ?_, ?_⟩
  · have := h3 (k * 2) (by omega); rwa [rwf_0] at this
  · have := h3 (k * 2 + 1) (by omega); rwa [rwf_1] at this
theorem rg_get (R : Rws) {k : Nat} (h : k < R.length) : rg R k = R[k] := by simp [rg, List.getD_eq_getElem?_getD, List.getElem?_eq_getElem h]
theorem rg_fst (R : Rws) {k : Nat} (h : k < R.length) : (rg R k).1 = lf (szs R) k := by
  rw [rg_get R h, lf_get _ (by rw [szs_len]; exact h)]; unfold szs; rw [List.getElem_map]
theorem rg_snd (R : Rws) (k : Nat) : (rg R k).2 = kn R k := rfl
theorem sum_take_bd {L : List Int} (ok : LOk L) (k : Nat) : 0 ≤ (L.take k).sum ∧ (L.take k).sum ≤ 4611686018427387904 :=
  ⟨sum_nn (fun x hx => ok.nn x (List.mem_of_mem_take hx)), by have := sum_take_le ok.nn k; have := ok.top; omega⟩
theorem sum_take_succ (L : List Int) {k : Nat} (h : k < L.length) : (L.take (k + 1)).sum = (L.take k).sum + lf L k := by
  rw [List.take_succ_eq_append_getElem h, List.sum_append, lf_get L h]; simp
set_option maxRecDepth 100000 in
set_option maxHeartbeats 800000 in
theorem refTop_any (w : World) (B : Nat) (A : Option Addr) (c : Nat) (R : Rws) (k : Nat) (h : SeesR w B A R) (ok : LOk (szs R)) (hk : k ≤ R.length) (hn : R.length ≤ 100000) :
    Calls Try.prog 12 #[.slice A R.length c, .int .i64 k] w fun e w' => e = .returned (.int .i64 ((szs R).take k).sum) ∧ w = w' := by
  have HS := Lib.hid h
  have BD := Lib.hid (fun j => sum_take_bd ok j)
  obtain ⟨n, en⟩ : ∃ n, n = R.length := ⟨_, rfl⟩
  have EN := Lib.hid en
  rw [← en] at hk hn ⊢
  clear h en ok
  go_enter Try.func12, Try.ntmps12
  go_wp2_with fail
  go_loop [5, 6] (fun s i => ∃ j : Nat, j ≤ k ∧ i = .int .i64 j ∧ s = .int .i64 ((szs R).take j).sum) (fun _ i => k - (intOf i).toNat)
  case atStart => exact ⟨0, Nat.zero_le _, rfl, rfl⟩
  case round =>
    obtain ⟨j, hj, rfl, rfl⟩ := hrel
    by_cases hlt : j < k
    · obtain ⟨b, o, rfl, hb, c0, c1⟩ := HS.out.cells (k := j) (by rw [← EN.out]; omega)
      have e1 := rg_fst R (k := j) (by rw [← EN.out]; omega)
      have e2 := sum_take_succ (szs R) (k := j) (by rw [szs_len, ← EN.out]; omega)
      obtain ⟨b1, b2⟩ := BD.out j
      obtain ⟨b3, b4⟩ := BD.out (j + 1)
      rw [e2] at b3 b4
      rw [e1] at c0
      have E2 := Lib.hid e2
      clear e1 e2 c1
      generalize ((szs R).take j).sum = s at b1 b2 b3 b4 E2 ⊢
      generalize lf (szs R) j = v at c0 b3 b4 E2 ⊢
      have wr : IntKind.i64.wrap (s + v) = s + v := IntWalk.i64_in _ (by omega)
      go_wp2_with fail
      go_round
      case rel => exact ⟨j + 1, by omega, by go_num, by rw [E2.out]⟩
      case measure => simp [intOf]; omega
    · obtain rfl : j = k := by omega
      go_wp2_with fail
      go_ret
      exact ⟨rfl, rfl⟩
/-- The reference's At. -/
theorem refAt_any (w : World) (B : Nat) (A : Option Addr) (c : Nat) (R : Rws) (x : Int) (h : SeesR w B A R) (ok : LOk (szs R)) (hn : R.length ≤ 100000) (fx : Fits x) :
    Calls Try.prog 16 #[.slice A R.length c, .int .i64 x] w fun e w' => ((∃ j rest, Place (szs R) x j rest ∧ e = .returned (.tuple #[.int .i64 (j : Nat), .int .i64 rest])) ∨ ((∀ j rest, ¬ Place (szs R) x j rest) ∧ e = .returned (.tuple #[.int .i64 (-1), .int .i64 0]))) ∧ w = w' := by
  have HS := Lib.hid h
  have BD := Lib.hid (fun j => sum_take_bd ok j)
  have KT := Lib.hid (fun k hk => refTop_any w B A c R k h ok hk hn)
  obtain ⟨n, en⟩ : ∃ n, n = R.length := ⟨_, rfl⟩
  have EN := Lib.hid en
  rw [← en] at hn KT ⊢
  obtain ⟨fx1, fx2⟩ := fx
  clear h en ok
  go_enter Try.func16, Try.ntmps16
  go_wp2_with fail
  go_loopw [6, 7] (fun i _ wr => ∃ j : Nat, j ≤ n ∧ i = .int .i64 j ∧ Hid (∀ t rest, t < j → ¬ Place (szs R) x t rest) ∧ Hid (w = wr)) (fun i _ _ => n - (intOf i).toNat)
  case atStart => exact ⟨0, Nat.zero_le _, rfl, fun t rest ht => by omega, rfl⟩
  case round =>
    obtain ⟨j, hj, rfl, hP, hW⟩ := hrel
    have hw := hW.out
    subst hw
    by_cases hlt : j < n
    · obtain ⟨b, o, rfl, hb, c0, c1⟩ := HS.out.cells (k := j) (by rw [← EN.out]; omega)
      have K := Lib.hid (KT.out j hj)
      have e1 := rg_fst R (k := j) (by rw [← EN.out]; omega)
      have e2 := sum_take_succ (szs R) (k := j) (by rw [szs_len, ← EN.out]; omega)
      obtain ⟨b1, b2⟩ := BD.out j
      obtain ⟨b3, b4⟩ := BD.out (j + 1)
      rw [e2] at b3 b4
      rw [e1] at c0
      have NX : Hid (¬ (((szs R).take j).sum ≤ x ∧ x < ((szs R).take j).sum + lf (szs R) j) → ∀ t rest, t < j + 1 → ¬ Place (szs R) x t rest) := fun hn t rest ht hp => by
        by_cases e : t = j
        · subst e
          exact hn ⟨hp.2.1, by have := hp.2.2.1; rwa [e2] at this⟩
        · exact hP.out t rest (by omega) hp
      have YS : Hid (((szs R).take j).sum ≤ x → x < ((szs R).take j).sum + lf (szs R) j → Place (szs R) x j (x - ((szs R).take j).sum)) := fun h1 h2 => ⟨by rw [szs_len, ← EN.out]; exact hlt, h1, by rw [e2]; exact h2, rfl⟩
      clear e1 e2 c1 hP hW
      generalize ((szs R).take j).sum = s at b1 b2 b3 b4 NX YS K ⊢
      generalize lf (szs R) j = v at c0 b3 b4 NX YS ⊢
      have wr : IntKind.i64.wrap (s + v) = s + v := IntWalk.i64_in _ (by omega)
      by_cases g1 : s ≤ x
      · have ws : IntKind.i64.wrap (x - s) = x - s := IntWalk.i64_in _ (by omega)
        by_cases g2 : x < s + v
        · have PL := Lib.hid (YS.out g1 g2)
          clear NX YS
          go_wp2_with fail
          refine (K.out).mono ?_
          rintro e w1 ⟨rfl, rfl⟩
          go_wp2_with fail
          go_ret2
          exact ⟨.inl ⟨_, _, PL.out, rfl⟩, rfl⟩
        · have HP := Lib.hid (NX.out (fun h => g2 h.2))
          clear NX YS
          go_wp2_with fail
          refine (K.out).mono ?_
          rintro e w1 ⟨rfl, rfl⟩
          go_wp2_with fail
          go_roundw
          case rel => exact ⟨j + 1, by omega, by go_num, HP, by first | exact rfl | exact Lib.hid trivial⟩
          case measure => simp [intOf]; omega
      · have HP := Lib.hid (NX.out (fun h => g1 h.1))
        clear NX YS
        go_wp2_with fail
        refine (K.out).mono ?_
        rintro e w1 ⟨rfl, rfl⟩
        go_wp2_with fail
        go_roundw
        case rel => exact ⟨j + 1, by omega, by go_num, HP, by first | exact rfl | exact Lib.hid trivial⟩
        case measure => simp [intOf]; omega
    · obtain rfl : j = n := by omega
      go_wp2_with fail
      go_ret2
      exact ⟨.inr ⟨fun t rest hp => hP.out t rest (by have := hp.1; rw [szs_len, ← EN.out] at this; exact this) hp, rfl⟩, rfl⟩
set_option maxRecDepth 100000 in
set_option maxHeartbeats 1600000 in
theorem same_any (w : World) (a A : Option Addr) (S : Sp) (R : Rws) (h : Ix w a A S R) (A2 : Option Addr) (c B : Nat) (h2 : SeesR w B A2 R) (hB : B ≤ w.heap.size) (x : Int) (fx : Fits x) :
    Calls Try.prog 10 #[ixv a A S.length, .int .i64 x, .slice A2 R.length c, .int .i64 x] w fun e w' => e = .returned (.bool true) ∧ Below w.heap.size w w' := by
  have hle := h.le
  have V := Lib.hid (((LX.start (Below.refl _ w)).cons h).add ((h2.below ((ixw_b w a A S.length).mono hB)).more (by have := (ixw_b w a A S.length).size; omega)))
  have KL := Lib.hid (fun W (g : LX1 W w.heap.size a A S R) => ilen_any W a A S.length R g.ix.rp)
  have KT := Lib.hid (fun W (g : LX1 W w.heap.size a A S R) => rtotal_any W a (szs R) g.ix.rp)
  have KR := Lib.hid (fun W (g : SeesR W W.heap.size A2 R) => refTop_any W _ A2 c R R.length g h.ok (Nat.le_refl _) (by omega))
  rw [show (szs R).take R.length = szs R from List.take_of_length_le (by rw [szs_len]; exact Nat.le_refl _)] at KR
  have KZ := Lib.hid (fun W (g : LX1 W w.heap.size a A S R) i fi => isize_any W a A S.length R g.ix.rp (by omega) i fi)
  have KK := Lib.hid (fun W (g : LX1 W w.heap.size a A S R) i fi => iknown_any W a A S R g.ix i fi)
  have E1 : Hid (∀ k : Nat, k < R.length → atVal (szs R) k = (rg R k).1 ∧ atErr (szs R) k = 0 ∧ knVal R k = (rg R k).2 ∧ knErr R k = 0) := fun k hk => by
    unfold atVal atErr knVal knErr
    rw [szs_len, if_neg (by omega), if_neg (by omega), if_neg (by omega), Int.toNat_natCast]
    exact ⟨(rg_fst R hk).symm, rfl, rfl, rfl⟩
  obtain ⟨n, en⟩ : ∃ n, n = R.length := ⟨_, rfl⟩
  have EN := Lib.hid en
  rw [← en] at hle KL KR E1 ⊢
  obtain ⟨w0, e0⟩ : ∃ w0, w0 = ixw w a A S.length := ⟨_, rfl⟩
  rw [← e0] at V
  have G1 := V.out.get (.head _)
  obtain ⟨x1, x2, _, _, _, l1⟩ := G1
  clear h h2 en
  go_enter Try.func10, Try.ntmps10
  go_wp2_with fail
  change Calls Try.prog _ _ (ixw w a A S.length) _
  rw [← e0]
  refine (KL.out _ (V.out.get (.head _))).mono ?_
  rintro e w1 ⟨rfl, hb⟩
  have V1 := Lib.hid (V.out.below hb)
  clear hb x1 x2 l1
  obtain ⟨x1, x2, _, _, _, l1⟩ := V1.out.get (.head _)
  go_wp2_with fail
  refine (KT.out _ (V1.out.get (.head _))).mono ?_
  rintro e w2 ⟨rfl, hb⟩
  have V2 := Lib.hid (V1.out.below hb)
  clear hb x1 x2 l1
  obtain ⟨x1, x2, _, _, _, l1⟩ := V2.out.get (.head _)
  go_wp2_with fail
  refine (KR.out _ (V2.out.see (.head _))).mono ?_
  rintro e w3 ⟨rfl, rfl⟩
  clear KR KT KL V V1
  go_wp2_with fail
  go_loopw [9] (fun i wr => ∃ k : Nat, k ≤ n ∧ i = .int .i64 k ∧ Hid (LX w wr [(w.heap.size, a, A, S, R)] [(A2, R)])) (fun i _ => n - (intOf i).toNat)
  case atStart => exact ⟨0, Nat.zero_le _, rfl, V2⟩
  case round =>
    obtain ⟨k, hk, rfl, V3⟩ := hrel
    clear V2 x1 x2 l1
    obtain ⟨x1, x2, _, _, _, l1⟩ := V3.out.get (.head _)
    by_cases hlt : k < n
    · obtain ⟨b, o, rfl, hb0, c0, c1⟩ := (V3.out.see (.head _)).cells (k := k) (by rw [← EN.out]; exact hlt)
      obtain ⟨q1, q2, q3, q4⟩ := E1.out k hlt
      have K1 := Lib.hid (KZ.out wr (V3.out.get (.head _)) k ⟨by omega, by omega⟩)
      have K2 := Lib.hid (fun W g => KK.out W g k ⟨by omega, by omega⟩)
      rw [q1, q2] at K1
      rw [q3, q4] at K2
      clear q1 q2 q3 q4
      obtain ⟨vs, hvs⟩ : ∃ v, v = (rg R k).1 := ⟨_, rfl⟩
      obtain ⟨vk, hvk⟩ : ∃ v, v = (rg R k).2 := ⟨_, rfl⟩
      rw [← hvs] at c0 K1
      rw [← hvk] at c1 K2
      clear hvs hvk
      go_wp2_with fail
      refine (K1.out).mono ?_
      rintro e w4 ⟨rfl, hb⟩
      have V4 := Lib.hid (V3.out.below hb)
      have d0 := (hb.cell (p := ⟨b, o + k * 2, none⟩) hb0).trans c0
      have d1 := (hb.cell (p := ⟨b, o + k * 2 + 1, none⟩) hb0).trans c1
      have lb := Nat.lt_of_lt_of_le hb0 hb.size
      clear hb x1 x2 l1 c0 c1
      obtain ⟨x1, x2, _, _, _, l1⟩ := V4.out.get (.head _)
      go_wp2_with fail
      refine (K2.out _ (V4.out.get (.head _))).mono ?_
      rintro e w5 ⟨rfl, hb⟩
      have V5 := Lib.hid (V4.out.below hb)
      have c0 := (hb.cell (p := ⟨b, o + k * 2, none⟩) lb).trans d0
      have c1 := (hb.cell (p := ⟨b, o + k * 2 + 1, none⟩) lb).trans d1
      clear hb x1 x2 l1 d0 d1
      cases vk with
      | true =>
        go_wp2_with fail
        go_roundw
        case rel => exact ⟨k + 1, by omega, by go_num, V5⟩
        case measure => simp [intOf]; omega
      | false =>
        go_wp2_with fail
        go_roundw
        case rel => exact ⟨k + 1, by omega, by go_num, V5⟩
        case measure => simp [intOf]; omega
    · obtain rfl : k = n := by omega
      go_wp2_with fail
      go_ret
      exact ⟨rfl, V3.out.bl⟩
end Go.Proofs.Ytngbaiijdgmpoaa

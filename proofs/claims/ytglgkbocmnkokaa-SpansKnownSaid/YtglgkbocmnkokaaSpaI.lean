/-
  The reference of layer 1: Check, Has.
-/
import Derived.Test.YtglgkbocmnkokaaSpaH
namespace Go.Proofs.Ytglgkbocmnkokaa
open Go.RowKit
set_option linter.unusedVariables false
set_option linter.unusedSimpArgs false

set_option maxRecDepth 100000 in
set_option maxHeartbeats 3200000 in
theorem refCheck_any (w : World) (B : Nat) (A : Option Addr) (c : Nat) (L : Sp) (h : SeesP w B A L) (hB : B ≤ w.heap.size) (hf : FitsS L) (hn : L.length ≤ 100000) :
    Calls Try.prog 10 #[.slice A L.length c] w fun e w' => e = .returned (.int .i64 (chkS L)) ∧ Below w.heap.size w w' := by
  have HS := Lib.hid (h.more hB)
  have HF := Lib.hid hf
  obtain ⟨n, en⟩ : ∃ n, n = L.length := ⟨_, rfl⟩
  have EN := Lib.hid en
  by_cases hbig : 4096 < n
  · have hx : chkS L = 3 := by unfold chkS; rw [if_pos (by omega)]
    rw [← en] at hn ⊢
    rw [hx]
    clear h hf hx en
    go_enter Try.func10, Try.ntmps10
    go_wp2_with fail
    go_ret
    exact ⟨rfl, Below.refl _ _⟩
  · have hx : chkS L = ckFrom (-1) L := by unfold chkS; rw [if_neg (by omega)]
    rw [hx]
    obtain ⟨res, er⟩ : ∃ r, r = ckFrom (-1) L := ⟨_, rfl⟩
    have ER : Hid (ckFrom (-1) (L.drop 0) = res) := by rw [er]; rfl
    rw [← en] at hn ⊢
    rw [← er]
    clear h hf hx en er
    go_enter Try.func10, Try.ntmps10
    go_wp2_with fail
    go_loopw [3] (fun i wr => ∃ k : Nat, k ≤ n ∧ i = .int .i64 k ∧ Hid (ckFrom (if k = 0 then -1 else (sg L (k - 1)).2) (L.drop k) = res) ∧ Hid (Drawn w wr)) (fun i _ => n - (intOf i).toNat)
    case atStart => exact ⟨0, Nat.zero_le _, rfl, ER, Drawn.refl _⟩
    case round =>
      obtain ⟨k, hk, rfl, hC, hD⟩ := hrel
      clear ER
      by_cases hlt : k < n
      · obtain ⟨b, o, rfl, _, c0, c1⟩ := SeesP.cells (HS.out.drawn hD.out) (k := k) (by rw [← EN.out]; exact hlt)
        have hkL : k < L.length := by rw [← EN.out]; exact hlt
        have hm := HF.out _ (sg_mem L hkL)
        have hd : L.drop k = sg L k :: L.drop (k + 1) := by rw [sg_get L hkL]; exact List.drop_eq_getElem_cons hkL
        have hC' := hC.out
        rw [hd] at hC'
        obtain ⟨last, hlast⟩ : ∃ x, x = (if k = 0 then (-1 : Int) else (sg L (k - 1)).2) := ⟨_, rfl⟩
        rw [← hlast] at hC'
        have HC : Hid ((if (sg L k).1 < 0 ∨ (sg L k).2 ≤ (sg L k).1 ∨ 1073741824 < (sg L k).2 then (1 : Int) else if (sg L k).1 ≤ last then 16 else ckFrom (sg L k).2 (L.drop (k + 1))) = res) := hC'
        obtain ⟨y, hy⟩ : ∃ y, y = (sg L k).2 := ⟨_, rfl⟩
        have HY := Lib.hid hy
        rw [← hy] at c1 HC hm
        obtain ⟨x, hx⟩ : ∃ x, x = (sg L k).1 := ⟨_, rfl⟩
        rw [← hx] at c0 HC hm
        obtain ⟨⟨fx1, fx2⟩, fy1, fy2⟩ := hm
        have hki : (k : Int) < (n : Int) := by omega
        have hk0 : (0 : Int) ≤ (k : Int) := by omega
        by_cases t1 : x < 0
        · have e : res = 1 := by rw [← HC.out, if_pos (by omega)]
          clear HC hx hy hd hC hC' hkL hlast
          subst e
          go_wp2_with fail
          go_quiet (fail)
          go_wp2_with fail
          go_ret
          exact ⟨rfl, (hD.out.drewN _).below _⟩
        by_cases t2 : y ≤ x
        · have e : res = 1 := by rw [← HC.out, if_pos (by omega)]
          clear HC hx hy hd hC hC' hkL hlast
          subst e
          go_wp2_with fail
          go_quiet (fail)
          go_wp2_with fail
          go_ret
          exact ⟨rfl, (hD.out.drewN _).below _⟩
        by_cases t3 : 1073741824 < y
        · have e : res = 1 := by rw [← HC.out, if_pos (by omega)]
          clear HC hx hy hd hC hC' hkL hlast
          subst e
          go_wp2_with fail
          go_quiet (fail)
          go_wp2_with fail
          go_ret
          exact ⟨rfl, (hD.out.drewN _).below _⟩
        have HL := Lib.hid hlast
        clear hx hy hd hC hC' hkL hlast
        go_wp2_with fail
        go_quiet (fail)
        have hlast := HL.out
        cases k with
        | zero =>
          rw [if_pos rfl] at hlast
          have HC2 : Hid (ckFrom (if 0 + 1 = 0 then -1 else (sg L (0 + 1 - 1)).2) (L.drop (0 + 1)) = res) := by
            have := HC.out
            rw [if_neg (by omega), if_neg (by omega), HY.out] at this
            exact this
          clear HC HL hlast
          go_wp2_with fail
          go_quiet (fail)
          go_wp2_with fail
          go_roundw
          case rel => exact ⟨0 + 1, by omega, by go_num, HC2, hD.out.drewN _⟩
          case measure => simp [intOf]; omega
        | succ j =>
          rw [if_neg (by omega), Nat.add_sub_cancel] at hlast
          obtain ⟨b3, o3, h3, _, _, d1⟩ := SeesP.cells (HS.out.drawn hD.out) (k := j) (by rw [← EN.out]; omega)
          cases h3
          rw [← hlast] at d1
          have d2 : ∀ q, (wr.drewN q).cell? ⟨b, o + j * 2 + 1, none⟩ = some (.int .i64 last) := fun _ => d1
          have d3 : ∀ q, (wr.drewN q).cell? ⟨b, o + (j + 1) * 2, none⟩ = some (.int .i64 x) := fun _ => c0
          by_cases t4 : x ≤ last
          · have e : res = 16 := by rw [← HC.out, if_neg (by omega), if_pos t4]
            clear HC HL hlast
            subst e
            go_wp2_with fail
            go_quiet (fail)
            go_wp2_with fail
            go_ret
            exact ⟨rfl, ((hD.out.drewN _).drewN _).below _⟩
          · have HC2 : Hid (ckFrom (if j + 1 + 1 = 0 then -1 else (sg L (j + 1 + 1 - 1)).2) (L.drop (j + 1 + 1)) = res) := by
              have := HC.out
              rw [if_neg (by omega), if_neg t4, HY.out] at this
              rw [if_neg (by omega), Nat.add_sub_cancel]
              exact this
            clear HC HL hlast
            go_wp2_with fail
            go_quiet (fail)
            go_wp2_with fail
            go_roundw
            case rel => exact ⟨j + 1 + 1, by omega, by go_num, HC2, hD.out.drewN _⟩
            case measure => simp [intOf]; omega
      · obtain rfl : k = n := by omega
        have e : res = 0 := by
          rw [← hC.out, List.drop_of_length_le (by rw [← EN.out]; exact Nat.le_refl _)]; rfl
        subst e
        go_wp2_with fail
        go_ret
        exact ⟨rfl, hD.out.below _⟩

set_option maxRecDepth 100000 in
set_option maxHeartbeats 1600000 in
theorem refHas_any (w : World) (B : Nat) (A : Option Addr) (c : Nat) (L : Sp) (i : Int) (h : SeesP w B A L) (hn : L.length ≤ 100000) :
    Calls Try.prog 14 #[.slice A L.length c, .int .i64 i] w fun e w' => e = .returned (.bool (anyS L i)) ∧ w = w' := by
  have HS := Lib.hid h
  obtain ⟨n, en⟩ : ∃ n, n = L.length := ⟨_, rfl⟩
  have EN := Lib.hid en
  obtain ⟨res, er⟩ : ∃ r, r = anyS L i := ⟨_, rfl⟩
  have ER : Hid (anyS (L.drop 0) i = res) := by rw [er]; rfl
  rw [← en] at hn ⊢
  rw [← er]
  clear h en er
  go_enter Try.func14, Try.ntmps14
  go_wp2_with fail
  go_loop [5] (fun a => ∃ k : Nat, k ≤ n ∧ a = .int .i64 k ∧ Hid (anyS (L.drop k) i = res)) (fun a => n - (intOf a).toNat)
  case atStart => exact ⟨0, Nat.zero_le _, rfl, ER⟩
  case round =>
    obtain ⟨k, hk, rfl, hC⟩ := hrel
    by_cases hlt : k < n
    · obtain ⟨b, o, rfl, _, c0, c1⟩ := SeesP.cells HS.out (k := k) (by rw [← EN.out]; exact hlt)
      have hkL : k < L.length := by rw [← EN.out]; exact hlt
      have hd : L.drop k = sg L k :: L.drop (k + 1) := by rw [sg_get L hkL]; exact List.drop_eq_getElem_cons hkL
      have hC' := hC.out
      rw [hd, anyS_cons] at hC'
      obtain ⟨x, hx⟩ : ∃ x, x = (sg L k).1 := ⟨_, rfl⟩
      obtain ⟨y, hy⟩ : ∃ y, y = (sg L k).2 := ⟨_, rfl⟩
      rw [← hx, ← hy] at hC'
      rw [← hx] at c0
      rw [← hy] at c1
      have HC := Lib.hid hC'
      clear hx hy hd hC hC' hkL
      by_cases t1 : x ≤ i
      · by_cases t2 : i < y
        · have e : res = true := by rw [← HC.out, decide_eq_true t1, decide_eq_true t2]; rfl
          clear HC
          subst e
          go_wp2_with fail
          go_ret
          exact ⟨rfl, rfl⟩
        · have HC2 : Hid (anyS (L.drop (k + 1)) i = res) := by have := HC.out; rwa [decide_eq_false t2, Bool.and_false, Bool.false_or] at this
          clear HC
          go_wp2_with fail
          go_round
          case rel => exact ⟨k + 1, by omega, by go_num, HC2⟩
          case measure => simp [intOf]; omega
      · have HC2 : Hid (anyS (L.drop (k + 1)) i = res) := by have := HC.out; rwa [decide_eq_false t1, Bool.false_and, Bool.false_or] at this
        clear HC
        go_wp2_with fail
        go_round
        case rel => exact ⟨k + 1, by omega, by go_num, HC2⟩
        case measure => simp [intOf]; omega
    · obtain rfl : k = n := by omega
      have e : res = false := by rw [← hC.out, List.drop_of_length_le (by rw [← EN.out]; exact Nat.le_refl _)]; rfl
      subst e
      go_wp2_with fail
      go_ret
      exact ⟨rfl, rfl⟩
end Go.Proofs.Ytglgkbocmnkokaa

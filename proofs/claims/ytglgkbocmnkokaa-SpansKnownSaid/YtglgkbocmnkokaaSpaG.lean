/-
  The law package of layer 1, first: pairs, of, same; the reference's Check, Has, Spans.
-/
import Derived.Test.YtglgkbocmnkokaaSpaF
import Derived.Test.YtglgkbocmnkokaaHeld
import Derived.Deep.QuietTactic
namespace Go.Proofs.Ytglgkbocmnkokaa
open Go.RowKit
set_option linter.unusedVariables false
set_option linter.unusedSimpArgs false

theorem infoAr : (Try.prog.info? 51).map (fun i => (i.zero, i.size, i.bytes)) = some (some (.agg #[.int .i64 0, .int .i64 0]), 2, 16) := by kernel_rfl
/-- append(own, a pair). -/
theorem push2 {t e : TypeId} (ht : Try.prog.underlying t = some (.slice e)) (hi : (Try.prog.info? e).map (fun i => (i.zero, i.size, i.bytes)) = some (some (.agg #[.int .i64 0, .int .i64 0]), 2, 16)) (w : World) (B : Nat) {n c : Nat} {A : Option Addr} {F : Nat → Value} (h : Own w B e 2 n c A F) (hB : B ≤ w.heap.size) (x y : Int) (hm : n ≤ 900000000) :
    ∃ A' c' w', (∀ ty, (Builtin.append_ #[t, t] ty #[.slice A n c, .slice (some ⟨w.heap.size, 0, none⟩) 1 1]).run Try.prog (w.alloc (.cells #[.int .i64 x, .int .i64 y] e)) = .ok (.slice A' (n + 1) c') w') ∧ Own w' B e 2 (n + 1) c' A' (fun j => if j < n * 2 then F j else if j = n * 2 then .int .i64 x else .int .i64 y) ∧ Below B w w' ∧ (c ≤ maxLen → c' ≤ maxLen) := by
  have L0 : Below w.heap.size w (w.alloc (.cells #[.int .i64 x, .int .i64 y] e)) := (Below.refl _ w).alloc (Nat.le_refl _) _
  have hs : Sees (w.alloc (.cells #[.int .i64 x, .int .i64 y] e)) (w.heap.size + 1) (some ⟨w.heap.size, 0, none⟩) (1 * 2) (fun j => if j = 0 then .int .i64 x else .int .i64 y) := by
    have := Sees.lit w #[.int .i64 x, .int .i64 y] e (fun j => if j = 0 then .int .i64 x else .int .i64 y) 2 rfl (fun j hj => by
      have : j = 0 ∨ j = 1 := by omega
      rcases this with rfl | rfl <;> rfl)
    simpa using this
  obtain ⟨A', c', w', run, O, fr, a, m⟩ := own_append2' (P := Try.prog) (w.alloc (.cells #[.int .i64 x, .int .i64 y] e)) B ht hi rfl (by omega) ht (h.below L0) (by rw [World.size_alloc]; omega) (c2 := 1) hs (fun j => by split <;> rfl) (by omega) (by omega)
  refine ⟨A', c', w', run, O.congr fun j hj => ?_, (L0.mono hB).trans (fr.below (by rw [World.size_alloc]; omega) fun b hb => (h.blk b hb).1), m⟩
  by_cases d : j < n * 2
  · rw [if_pos d, if_pos d]
  · rw [if_neg d, if_neg d]
    by_cases d2 : j = n * 2
    · rw [if_pos (by omega), if_pos d2]
    · rw [if_neg (by omega), if_neg d2]
theorem spf_push {L : Sp} {k : Nat} : ∀ j, j < (k + 1) * 2 → (if j < k * 2 then spf L j else if j = k * 2 then Value.int .i64 (sg L k).1 else .int .i64 (sg L k).2) = spf L j := fun j hj => by
  by_cases d : j < k * 2
  · rw [if_pos d]
  · rw [if_neg d]
    by_cases d2 : j = k * 2
    · rw [if_pos d2, d2, spf_0]
    · rw [if_neg d2, show j = k * 2 + 1 from by omega, spf_1]

set_option maxRecDepth 100000 in
set_option maxHeartbeats 1600000 in
theorem pairs_own (w : World) (B : Nat) (A : Option Addr) (c : Nat) (L : Sp) (h : SeesP w B A L) (hB : B ≤ w.heap.size) (hn : L.length ≤ 100000) :
    Calls Try.prog 11 #[.slice A L.length c] w fun e w' => ∃ A' c', e = .returned (.slice A' L.length c') ∧ Own w' w.heap.size 51 2 L.length c' A' (spf L) ∧ Below w.heap.size w w' ∧ c' ≤ maxLen := by
  have HS := Lib.hid (h.more hB)
  obtain ⟨n, en⟩ : ∃ n, n = L.length := ⟨_, rfl⟩
  have EN := Lib.hid en
  rw [← en] at hn ⊢
  clear h en
  go_enter Try.func11, Try.ntmps11
  go_wp2_with fail
  go_loopw [3, 4] (fun o i wr => ∃ (k : Nat) (Ao : Option Addr) (co : Nat), k ≤ n ∧ o = .slice Ao k co ∧ i = .int .i64 k ∧ Hid (Own wr w.heap.size 51 2 k co Ao (spf L)) ∧ Hid (Below w.heap.size w wr) ∧ Hid (co ≤ maxLen)) (fun _ i _ => n - (intOf i).toNat)
  case atStart => exact ⟨0, none, 0, Nat.zero_le _, rfl, rfl, Own.nil _ _ _ _ _, Below.refl _ _, Nat.zero_le _⟩
  case round =>
    obtain ⟨k, Ao, co, hk, rfl, rfl, hO, hD, hcm⟩ := hrel
    by_cases hlt : k < n
    · obtain ⟨b, o, rfl, hb, c0, c1⟩ := SeesP.cells HS.out (k := k) (by rw [← EN.out]; exact hlt)
      have S0 : Hid (Below w.heap.size w wr.drew) := hD.out.drew
      obtain ⟨A2, c2, w2, run, O2, hb2, mx⟩ := push2 Try.underlying25 infoAr wr.drew w.heap.size (hO.out.below (Below.refl _ wr).drew) S0.out.size (sg L k).1 (sg L k).2 (by omega)
      have O3 := Lib.hid (O2.congr fun j hj => spf_push j hj)
      have B2 : Hid (Below w.heap.size w w2) := S0.out.trans hb2
      have MX := Lib.hid (mx hcm.out)
      obtain ⟨x, hx⟩ : ∃ x, x = (sg L k).1 := ⟨_, rfl⟩
      obtain ⟨y, hy⟩ : ∃ x, x = (sg L k).2 := ⟨_, rfl⟩
      rw [← hx] at c0 run
      rw [← hy] at c1 run
      have RUN := Lib.hid run
      have hki : (k : Int) < (n : Int) := by omega
      clear run O2 hb2 mx hx hy hO hD hcm
      go_wp2_with fail
      refine wp_region_plan [(false, 0), (false, 1), (false, 2), (false, 3), (false, 4), (false, 5), (false, 6), (false, 7), (false, 8), (false, 9), (false, 10), (false, 11), (true, 12), (true, 13), (false, 14)] (Below w.heap.size w) (by kernel_rfl) (by kernel_rfl) (S0.out) _ (by simp only [pickH, List.getElem?_toArray, List.getElem?_cons_succ, List.getElem?_cons_zero]; rfl) ?_
      repeat (refine HWalk.step (fun K hK => ?_); first | (apply held_yes; (focus rfl); (focus (intro w' hw; obtain ⟨hc', hf'⟩ := below_cells hw; go_simp; rfl)); (go_simp; refine hK _ ?_; clear hK K)) | (refine ite_no (by decide) ?_; go_simp; refine hK _ ?_; clear hK K))
      refine HWalk.mark ?_
      go_wp2_with fail
      refine ⟨(S0.out.alloc S0.out.size (.cells #[.int .i64 x, .int .i64 y] 51)), ?_⟩
      repeat (refine HWalk.step (fun K hK => ?_); first | (apply held_yes; (focus rfl); (focus (intro w' hw; obtain ⟨hc', hf'⟩ := below_cells hw; go_simp; rfl)); (go_simp; refine hK _ ?_; clear hK K)) | (refine ite_no (by decide) ?_; go_simp; refine hK _ ?_; clear hK K))
      refine HWalk.mark ?_
      go_wp2_with (at_builtin; refine Hid.out ?_)
      refine Lib.hid (Lib.wpList_append_run _ rfl _ _ _ _ rfl _ _ rfl rfl _ _ (RUN.out _) ?_)
      go_wp2_with fail
      refine ⟨B2.out, ?_⟩
      repeat (refine HWalk.step (fun K hK => ?_); first | (apply held_yes; (focus rfl); (focus (intro w' hw; obtain ⟨hc', hf'⟩ := below_cells hw; go_simp; rfl)); (go_simp; refine hK _ ?_; clear hK K)) | (refine ite_no (by decide) ?_; go_simp; refine hK _ ?_; clear hK K))
      refine HWalk.done ?_
      go_wp2_with fail
      go_roundw
      case rel => exact ⟨k + 1, A2, c2, by omega, rfl, by go_num, O3, B2, MX⟩
      case measure => simp [intOf]; omega
    · obtain rfl : k = n := by omega
      go_wp2_with fail
      go_ret
      exact ⟨Ao, co, rfl, hO.out, hD.out, hcm.out⟩
set_option maxRecDepth 100000 in
set_option maxHeartbeats 1600000 in
theorem of_own (w : World) (B : Nat) (A : Option Addr) (c : Nat) (L : Sp) (h : SeesP w B A L) (hB : B ≤ w.heap.size) (hn : L.length ≤ 100000) :
    Calls Try.prog 29 #[.slice A L.length c] w fun e w' => ∃ A' c', e = .returned (.slice A' L.length c') ∧ Own w' w.heap.size 28 2 L.length c' A' (spf L) ∧ Below w.heap.size w w' ∧ c' ≤ maxLen := by
  have HS := Lib.hid (h.more hB)
  obtain ⟨n, en⟩ : ∃ n, n = L.length := ⟨_, rfl⟩
  have EN := Lib.hid en
  rw [← en] at hn ⊢
  clear h en
  go_enter Try.func29, Try.ntmps29
  go_wp2_with fail
  go_loopw [3, 4] (fun o i wr => ∃ (k : Nat) (Ao : Option Addr) (co : Nat), k ≤ n ∧ o = .slice Ao k co ∧ i = .int .i64 k ∧ Hid (Own wr w.heap.size 28 2 k co Ao (spf L)) ∧ Hid (Below w.heap.size w wr) ∧ Hid (co ≤ maxLen)) (fun _ i _ => n - (intOf i).toNat)
  case atStart => exact ⟨0, none, 0, Nat.zero_le _, rfl, rfl, Own.nil _ _ _ _ _, Below.refl _ _, Nat.zero_le _⟩
  case round =>
    obtain ⟨k, Ao, co, hk, rfl, rfl, hO, hD, hcm⟩ := hrel
    by_cases hlt : k < n
    · obtain ⟨b, o, rfl, hb, c0, c1⟩ := SeesP.cells HS.out (k := k) (by rw [← EN.out]; exact hlt)
      have S0 : Hid (Below w.heap.size w wr.drew) := hD.out.drew
      obtain ⟨A2, c2, w2, run, O2, hb2, mx⟩ := push2 Try.underlying22 infoSp wr.drew w.heap.size (hO.out.below (Below.refl _ wr).drew) S0.out.size (sg L k).1 (sg L k).2 (by omega)
      have O3 := Lib.hid (O2.congr fun j hj => spf_push j hj)
      have B2 : Hid (Below w.heap.size w w2) := S0.out.trans hb2
      have MX := Lib.hid (mx hcm.out)
      obtain ⟨x, hx⟩ : ∃ x, x = (sg L k).1 := ⟨_, rfl⟩
      obtain ⟨y, hy⟩ : ∃ x, x = (sg L k).2 := ⟨_, rfl⟩
      rw [← hx] at c0 run
      rw [← hy] at c1 run
      have RUN := Lib.hid run
      have hki : (k : Int) < (n : Int) := by omega
      clear run O2 hb2 mx hx hy hO hD hcm
      go_wp2_with fail
      refine wp_region_plan [(false, 0), (false, 1), (false, 2), (false, 3), (false, 4), (false, 5), (false, 6), (false, 7), (false, 8), (false, 9), (false, 10), (false, 11), (true, 12), (true, 13), (false, 14)] (Below w.heap.size w) (by kernel_rfl) (by kernel_rfl) (S0.out) _ (by simp only [pickH, List.getElem?_toArray, List.getElem?_cons_succ, List.getElem?_cons_zero]; rfl) ?_
      repeat (refine HWalk.step (fun K hK => ?_); first | (apply held_yes; (focus rfl); (focus (intro w' hw; obtain ⟨hc', hf'⟩ := below_cells hw; go_simp; rfl)); (go_simp; refine hK _ ?_; clear hK K)) | (refine ite_no (by decide) ?_; go_simp; refine hK _ ?_; clear hK K))
      refine HWalk.mark ?_
      go_wp2_with fail
      refine ⟨(S0.out.alloc S0.out.size (.cells #[.int .i64 x, .int .i64 y] 28)), ?_⟩
      repeat (refine HWalk.step (fun K hK => ?_); first | (apply held_yes; (focus rfl); (focus (intro w' hw; obtain ⟨hc', hf'⟩ := below_cells hw; go_simp; rfl)); (go_simp; refine hK _ ?_; clear hK K)) | (refine ite_no (by decide) ?_; go_simp; refine hK _ ?_; clear hK K))
      refine HWalk.mark ?_
      go_wp2_with (at_builtin; refine Hid.out ?_)
      refine Lib.hid (Lib.wpList_append_run _ rfl _ _ _ _ rfl _ _ rfl rfl _ _ (RUN.out _) ?_)
      go_wp2_with fail
      refine ⟨B2.out, ?_⟩
      repeat (refine HWalk.step (fun K hK => ?_); first | (apply held_yes; (focus rfl); (focus (intro w' hw; obtain ⟨hc', hf'⟩ := below_cells hw; go_simp; rfl)); (go_simp; refine hK _ ?_; clear hK K)) | (refine ite_no (by decide) ?_; go_simp; refine hK _ ?_; clear hK K))
      refine HWalk.done ?_
      go_wp2_with fail
      go_roundw
      case rel => exact ⟨k + 1, A2, c2, by omega, rfl, by go_num, O3, B2, MX⟩
      case measure => simp [intOf]; omega
    · obtain rfl : k = n := by omega
      go_wp2_with fail
      go_ret
      exact ⟨Ao, co, rfl, hO.out, hD.out, hcm.out⟩
end Go.Proofs.Ytglgkbocmnkokaa

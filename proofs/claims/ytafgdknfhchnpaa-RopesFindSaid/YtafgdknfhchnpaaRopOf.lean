/-
  R.Of of the law package: the sizes of R.
-/
import Derived.Test.YtafgdknfhchnpaaApp64
import Derived.Test.YtafgdknfhchnpaaApp2
import Derived.Test.YtafgdknfhchnpaaRopP
import Derived.LoopTactic
namespace Go.Proofs.Ytafgdknfhchnpaa
open Go.RowKit
set_option linter.unusedVariables false
set_option linter.unusedSimpArgs false

theorem infoOf : (Try.prog.info? 2).map (fun i => (i.zero, i.size, i.bytes)) = some (some (.int .i64 0), 1, 8) := by kernel_rfl
/-- append(own, v). -/
theorem push_i64 (w : World) (B : Nat) {n c : Nat} {A : Option Addr} {F : Nat → Int} (h : Own w B 2 1 n c A (i64s F)) (hB : B ≤ w.heap.size) (x : Int) (hm : n ≤ 100000) :
    ∃ A' c' w', (∀ ty, (Builtin.append_ #[22, 22] ty #[.slice A n c, .slice (some ⟨w.heap.size, 0, none⟩) 1 1]).run Try.prog (w.alloc (.cells #[.int .i64 x] 2)) = .ok (.slice A' (n + 1) c') w') ∧ Own w' B 2 1 (n + 1) c' A' (i64s fun j => if j < n then F j else x) ∧
      Fr (fun b => A.map (·.block) = some b) w w' ∧ (c ≤ maxLen → c' ≤ maxLen) := by
  obtain ⟨A', c', w', run, O, f, a, m⟩ := own_push (P := Try.prog) w B Try.underlying22 infoOf rfl h hB (.int .i64 x) rfl (by omega) (by omega)
  refine ⟨A', c', w', run, O.congr fun j _ => ?_, f, m⟩
  show (if j < n then _ else _) = Value.int .i64 (if j < n then F j else x)
  split <;> rfl

/-- The sizes of an R. -/
def rsz (f : Nat → Int) (g : Bool) (j : Nat) : Int := if j = 0 ∧ g = true then 2305843009213693952 else f j % 16
def rof (f : Nat → Int) (m : Nat) (g : Bool) : List Int := toL (rsz f g) (min m 200)
theorem rof_len (f : Nat → Int) (m : Nat) (g : Bool) : (rof f m g).length = min m 200 := by simp [rof, toL]
theorem rof_lf (f : Nat → Int) (m : Nat) (g : Bool) (j : Nat) (h : j < min m 200) : lf (rof f m g) j = rsz f g j := lf_toL _ _ _ h
theorem rsz_psum (f : Nat → Int) (g : Bool) : ∀ k, 0 ≤ psum (rsz f g) k ∧ psum (rsz f g) k ≤ 2305843009213693952 + 15 * k
  | 0 => by show (0 : Int) ≤ 0 ∧ (0 : Int) ≤ _; omega
  | k + 1 => by
    obtain ⟨h1, h2⟩ := rsz_psum f g k
    rw [psum_succ]
    by_cases c : k = 0 ∧ g = true
    · have e : rsz f g k = 2305843009213693952 := if_pos c
      obtain ⟨rfl, _⟩ := c
      have : psum (rsz f g) 0 = 0 := rfl
      omega
    · have e : rsz f g k = f k % 16 := if_neg c
      omega
theorem rof_ok (f : Nat → Int) (m : Nat) (g : Bool) : LOk (rof f m g) := by
  have hn : ∀ x ∈ rof f m g, 0 ≤ x := fun x hx => by
    obtain ⟨j, hj, rfl⟩ := List.mem_iff_getElem.1 hx
    rw [← lf_get _ hj, rof_lf f m g j (by rw [rof_len] at hj; exact hj)]
    unfold rsz
    split <;> omega
  refine ⟨hn, by rw [rof_len]; omega, ?_⟩
  rw [← psum_lf_all, rof_len]
  have e : ∀ k, k ≤ min m 200 → psum (lf (rof f m g)) k = psum (rsz f g) k := by
    intro k
    induction k with
    | zero => intro _; rfl
    | succ k ih => intro hk; rw [psum_succ, psum_succ, ih (by omega), rof_lf f m g k (by omega)]
  rw [e _ (Nat.le_refl _)]
  have := rsz_psum f g (min m 200)
  omega
theorem rof_small (f : Nat → Int) (m : Nat) (g : Bool) : ∀ x ∈ rof f m g, x ≤ 2305843009213693952 := fun x hx => by
  obtain ⟨j, hj, rfl⟩ := List.mem_iff_getElem.1 hx
  rw [← lf_get _ hj, rof_lf f m g j (by rw [rof_len] at hj; exact hj)]
  unfold rsz
  split <;> omega
/-- Bytes as values. -/
def u8s (f : Nat → Int) : Nat → Value := fun j => .int .u8 (f j)
theorem u8s_at (f : Nat → Int) (k : Nat) : u8s f k = .int .u8 (f k) := rfl

set_option maxRecDepth 100000 in
set_option maxHeartbeats 1600000 in
theorem rOf_any (w : World) (A : Option Addr) (m c : Nat) (f : Nat → Int) (g : Bool) (hs : Sees w w.heap.size A m (u8s f)) (hf : ∀ j, j < m → 0 ≤ f j ∧ f j ≤ 255) (hm : m ≤ maxLen) :
    Calls Try.prog 13 #[.agg #[.slice A m c, .bool g]] w fun e w' => ∃ A' c', e = .returned (.slice A' (rof f m g).length c') ∧ Own w' w.heap.size 2 1 (rof f m g).length c' A' (i64s (lf (rof f m g))) ∧ Below w.heap.size w w' ∧ c' ≤ maxLen := by
  have B0 : Hid (Below w.heap.size w (w.alloc (.cells #[.slice A m c, .bool g] 35))) := (Below.refl _ w).alloc (Nat.le_refl _) _
  have V0 : Hid ((w.alloc (.cells #[.slice A m c, .bool g] 35)).rowIs w.heap.size 35 2 (fun j => if j = 0 then .slice A m c else .bool g)) := World.rowIs_alloc w #[.slice A m c, .bool g] _ _ (fun j hj => by
    have : j = 0 ∨ j = 1 := by simp at hj; omega
    rcases this with rfl | rfl <;> rfl)
  have S0 := Lib.hid (hs.below B0.out)
  have HF := Lib.hid hf
  have hm2 : m ≤ 9223372036854775807 := by simpa [maxLen] using hm
  have hlen := rof_len f m g
  clear hs hf hm
  obtain ⟨N, eN⟩ : ∃ N, N = min m 200 := ⟨_, rfl⟩
  have LF := Lib.hid (rof_lf f m g)
  rw [← eN] at hlen LF
  rw [hlen]
  have EN : Hid (∀ k : Nat, k < N ↔ k < m ∧ k < 200) := fun k => by omega
  have hN : N ≤ 200 := by omega
  clear hlen eN
  obtain ⟨w0, e0⟩ : ∃ w0, w0 = w.alloc (.cells #[.slice A m c, .bool g] 35) := ⟨_, rfl⟩
  go_enter Try.func13, Try.ntmps13
  go_wp2_with fail
  change Code.wp _ _ _ _ (w.alloc _)
  rw [← e0] at B0 V0 S0 ⊢
  have lt0 : w.heap.size < w0.heap.size := by rw [e0, World.size_alloc]; omega
  clear e0
  go_loopw [3, 4] (fun o i wr => ∃ (k cc : Nat) (A' : Option Addr), i = .int .i64 k ∧ o = .slice A' k cc ∧ k ≤ N ∧ cc ≤ maxLen ∧ Hid (Own wr w0.heap.size 2 1 k cc A' (i64s fun j => f j % 16)) ∧ Hid (Below w0.heap.size w0 wr)) (fun _ i _ => N - (intOf i).toNat)
  case atStart => exact ⟨0, 0, none, rfl, rfl, Nat.zero_le _, Nat.zero_le _, Own.nil _ _ _ _ _, Below.refl _ _⟩
  case round =>
    obtain ⟨k, cc, A', rfl, rfl, hk, hcc, hO, hB⟩ := hrel
    have V1 := Lib.hid (V0.out.of_block (hB.out.block _ lt0))
    have d0 := V1.out.cell (i := 0) (by omega)
    have d1 := V1.out.cell (i := 1) (by omega)
    rw [if_pos rfl] at d0
    rw [if_neg (by decide)] at d1
    by_cases hlt : k < N
    · obtain ⟨b, o, rfl, _, hc⟩ := (S0.out.below (hB.out.mono B0.out.size)).at_ (show k < m from ((EN.out k).1 hlt).1)
      have k1 := ((EN.out k).1 hlt).1
      have k2 := ((EN.out k).1 hlt).2
      rw [u8s_at] at hc
      obtain ⟨f1, f2⟩ := HF.out k k1
      obtain ⟨A2, c2, w2, run, O2, fr, mx⟩ := push_i64 wr w0.heap.size hO.out hB.out.size (f k % 16) (by omega)
      have RUN := Lib.hid run
      have O3 : Hid (Own w2 w0.heap.size 2 1 (k + 1) c2 A2 (i64s fun j => f j % 16)) := O2.congr fun j hj => by
        show Value.int .i64 (if j < k then f j % 16 else f k % 16) = Value.int .i64 (f j % 16)
        by_cases c : j < k
        · rw [if_pos c]
        · rw [if_neg c, show j = k from by omega]
      have B3 : Hid (Below w0.heap.size w0 w2) := hB.out.trans (fr.below hB.out.size fun q hq => (hO.out.blk q hq).1)
      have hc2 := mx hcc
      clear run O2 fr mx hO
      go_wp2_with (at_builtin; refine Hid.out ?_)
      refine Lib.hid (Lib.wpList_append_run _ rfl _ _ _ _ rfl _ _ rfl rfl _ _ (RUN.out _) ?_)
      go_wp2_with fail
      go_roundw
      case rel => exact ⟨k + 1, c2, A2, by go_num, rfl, by omega, hc2, O3, B3⟩
      case measure => simp [intOf]; omega
    · obtain rfl : k = N := by omega
      have hK : ∀ h : k < m, 200 ≤ k := fun h => by
        have := (EN.out k)
        have : ¬ (k < m ∧ k < 200) := fun h' => absurd (this.2 h') (Nat.lt_irrefl k)
        omega
      have hkm : k < m ∨ ¬ k < m := Nat.lt_or_ge k m |>.imp id (fun h => by omega)
      by_cases hg : g = true ∧ 0 < k
      · obtain ⟨rfl, kp⟩ := hg
        obtain ⟨q, rfl, q1, q2, q3, q4⟩ := hO.out.at_ kp
        have e0 := q3 0 (by omega)
        have e1 := q4 0
        have O3 : Hid (Own (wr.setCell ⟨q, 0, none⟩ (.int .i64 2305843009213693952)) w.heap.size 2 1 k cc (some ⟨q, 0, none⟩) (i64s (lf (rof f m true)))) := ((hO.out.set 0 (.int .i64 2305843009213693952)).less B0.out.size).congr fun j hj => by
          show (if j = 0 then _ else Value.int .i64 (f j % 16)) = Value.int .i64 (lf (rof f m true) j)
          rw [LF.out j (by omega)]
          unfold rsz
          by_cases c : j = 0
          · rw [if_pos c, if_pos ⟨c, rfl⟩]
          · rw [if_neg c, if_neg (fun h => c h.1)]
        have B3 : Hid (Below w.heap.size w (wr.setCell ⟨q, 0, none⟩ (.int .i64 2305843009213693952))) := (B0.out.trans (hB.out.mono B0.out.size)).setCell (p := ⟨q, 0, none⟩) (by show w.heap.size ≤ q; omega) _
        clear q3 q4 hO
        rcases hkm with hkm | hkm
        · have := hK hkm
          go_wp2_with fail
          go_ret
          exact ⟨_, _, rfl, O3.out, B3.out, hcc⟩
        · go_wp2_with fail
          go_ret
          exact ⟨_, _, rfl, O3.out, B3.out, hcc⟩
      · have O3 : Hid (Own wr w.heap.size 2 1 k cc A' (i64s (lf (rof f m g)))) := (hO.out.less B0.out.size).congr fun j hj => by
          show Value.int .i64 (f j % 16) = Value.int .i64 (lf (rof f m g) j)
          rw [LF.out j (by omega)]
          unfold rsz
          rw [if_neg (fun h => hg ⟨h.2, by omega⟩)]
        have B3 : Hid (Below w.heap.size w wr) := B0.out.trans (hB.out.mono B0.out.size)
        have hg2 : g = false ∨ (g = true ∧ k = 0) := by
          cases g
          · exact .inl rfl
          · exact .inr ⟨rfl, by rcases Nat.eq_zero_or_pos k with h | h; exact h; exact absurd ⟨rfl, h⟩ hg⟩
        clear hO hg
        rcases hkm with hkm | hkm
        · have := hK hkm
          rcases hg2 with rfl | ⟨rfl, k0⟩
          · go_wp2_with fail
            go_ret
            exact ⟨_, _, rfl, O3.out, B3.out, hcc⟩
          · omega
        · rcases hg2 with rfl | ⟨rfl, k0⟩
          · go_wp2_with fail
            go_ret
            exact ⟨_, _, rfl, O3.out, B3.out, hcc⟩
          · subst k0
            go_wp2_with fail
            go_ret
            exact ⟨_, _, rfl, O3.out, B3.out, hcc⟩
end Go.Proofs.Ytafgdknfhchnpaa

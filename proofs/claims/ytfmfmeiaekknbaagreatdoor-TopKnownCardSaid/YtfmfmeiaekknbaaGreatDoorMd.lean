/-
  Contracts and plain laws that the walks of the top need, merged by a program out of one text a subject.
-/
import Derived.Test.YtfmfmeiaekknbaaGreatDoorMc
import Derived.Test.YtfmfmeiaekknbaaGreatDoorMa
import Derived.Scope
import Derived.Lib.MinMax
import Derived.Maps.OwnSet
import Derived.WalkArith
import Derived.RangeFuncBox
import Derived.RangeFuncWrites
import Derived.RangeFuncLeaves
import Derived.RangeFuncNested
import Derived.Shelf.Abstract
import Derived.WalkKit
import Derived.OwnWalkIn
import Derived.TacticsInMore
import Derived.LoopNIn
import Derived.LoopIn
import Derived.Test.YtfmfmeiaekknbaaGreatDoorMb
import Derived.Test.YtfmfmeiaekknbaaGreatDoorLibLen
import Derived.LoopTactic
import Derived.BigQuiet
import Derived.WalkMore
import Derived.Test.YtfmfmeiaekknbaaGreatDoorRows
import Derived.Deep.QuietTactic
import Derived.ProofKit
import Derived.OpenShut
import Derived.ChangeOld
import Derived.Below
import Derived.Lib.SmallJoins
import Derived.Deep.Slices
import Derived.Deep.Fields
import Derived.ChangeSame
section
/-
  Package rises: a longest rising subsequence.
-/
namespace Go.Proofs.YtfmfmeiaekknbaaGreatDoor
open Go.RowKit
set_option linter.unusedVariables false
set_option linter.unusedSimpArgs false

set_option maxRecDepth 100000 in
set_option maxHeartbeats 1600000 in
theorem maxs_any (w : World) (g n : Nat) (f : Nat → Nat) (h : w.rowIs g 3 n (i64s fun j => f j)) (h0 : 0 < n) (hn : n ≤ 4096) (hf : ∀ j, f j ≤ 100000) :
    Calls Tryz.prog 115 #[.slice (some ⟨g, 0, none⟩) n n] w fun e w' => ∃ M : Nat, e = .returned (.int .i64 M) ∧ ((∀ j, j < n → f j ≤ M) ∧ ∃ j, j < n ∧ f j = M) ∧ w = w' := by
  have H := Lib.hid h
  have c0 := h.cell (i := 0) h0
  rw [i64s_at] at c0
  have hn1 : ¬ n < 1 := by omega
  have hn1' : ¬ (n : Int) < 1 := by omega
  have hf0 := hf 0
  have S0 : Hid ((∀ j, j < 1 → f j ≤ f 0) ∧ ∃ j, j < 1 ∧ f j = f 0) := ⟨fun j hj => by rw [show j = 0 by omega]; exact Nat.le_refl _, 0, by omega, rfl⟩
  have HF := Lib.hid hf
  clear h hf
  generalize f 0 = m0 at *
  go_enter Tryz.func115, Tryz.ntmps115
  go_wp2_with fail
  go_loop [3, 4] (fun m i => ∃ (k M : Nat), 1 ≤ k ∧ k ≤ n ∧ m = .int .i64 M ∧ i = .int .i64 k ∧ M ≤ 100000 ∧ Hid ((∀ j, j < k → f j ≤ M) ∧ ∃ j, j < k ∧ f j = M)) (fun _ i => n - (intOf i).toNat)
  case atStart => exact ⟨1, m0, Nat.le_refl _, h0, rfl, rfl, hf0, S0⟩
  case round =>
    obtain ⟨k, M, hk1, hk, rfl, rfl, hM, hS⟩ := hrel
    clear S0 c0
    by_cases hlt : k < n
    · have hki : (k : Int) < (n : Int) := by omega
      have c1 := H.out.cell (i := k) hlt
      rw [i64s_at] at c1
      have hfk := HF.out k
      obtain ⟨x, ex⟩ : ∃ x, x = f k := ⟨_, rfl⟩
      rw [← ex] at c1 hfk
      have EX := Lib.hid ex
      clear ex
      by_cases hx : x ≤ M
      · have hx' : ¬ (M : Int) < (x : Int) := by omega
        have hmx : max (M : Int) (x : Int) = M := by omega
        have S2 : Hid ((∀ j, j < k + 1 → f j ≤ M) ∧ ∃ j, j < k + 1 ∧ f j = M) := ⟨fun j hj => by
          by_cases e : j = k
          · rw [e, ← EX.out]; exact hx
          · exact hS.out.1 j (by omega), by obtain ⟨j, a, b⟩ := hS.out.2; exact ⟨j, by omega, b⟩⟩
        clear hS
        go_wp2_with fail
        go_round
        case rel => exact ⟨k + 1, M, by omega, by omega, by first | rfl | rw [hmx] | (simp; omega), by go_num, hM, S2⟩
        case measure => simp [intOf]; omega
      · have hx' : (M : Int) < (x : Int) := by omega
        have hmx : max (M : Int) (x : Int) = x := by omega
        have S2 : Hid ((∀ j, j < k + 1 → f j ≤ x) ∧ ∃ j, j < k + 1 ∧ f j = x) := ⟨fun j hj => by
          by_cases e : j = k
          · rw [e, ← EX.out]; exact Nat.le_refl _
          · have := hS.out.1 j (by omega); omega, k, by omega, EX.out.symm⟩
        clear hS
        go_wp2_with fail
        go_round
        case rel => exact ⟨k + 1, x, by omega, by omega, by first | rfl | rw [hmx] | (simp; omega), by go_num, hfk, S2⟩
        case measure => simp [intOf]; omega
    · obtain rfl : k = n := by omega
      go_wp2_with fail
      go_ret
      exact ⟨M, rfl, hS.out, rfl⟩

theorem IsFr.bd {l : Nat → Int} {n : Nat} {f : Nat → Nat} (h : IsFr l n 0 f) : ∀ i, i < n → f i ≤ n - i := by
  have key : ∀ d i, i < n → n - i = d → f i ≤ d := by
    intro d
    induction d using Nat.strongRecOn with
    | _ d ih =>
      intro i hi hd
      obtain ⟨_, _, h3⟩ := h i (by omega) hi
      rcases h3 with h3 | ⟨j, a, b, _, e⟩
      · omega
      · have := ih (n - j) (by omega) j b rfl
        omega
  exact fun i hi => key _ i hi rfl
/-- What Longest leaves. -/
def LPostR (w : World) (l : Nat → Int) (n : Nat) (e : Ending) (w' : World) : Prop :=
  ∃ (A : Option Addr) (m c : Nat) (r : Nat → Nat), e = .returned (.tuple #[.slice A m c, .int .i64 0]) ∧ Longest l n m r ∧ m ≤ n ∧ Sees w' w'.heap.size A m (i64s fun a => r a) ∧ m ≤ c ∧ c ≤ maxLen ∧ Below w.heap.size w w'

set_option maxRecDepth 100000 in
set_option maxHeartbeats 6400000 in
theorem longest_any (w : World) (A : Option Addr) (n c : Nat) (l : Nat → Int) (h : Sees w w.heap.size A n (i64s l)) (hn : n ≤ 4096) :
    Calls Tryz.prog 103 #[.slice A n c] w (LPostR w l n) := by
  unfold LPostR
  by_cases hn0 : n = 0
  · subst hn0
    clear h
    go_enter Tryz.func103, Tryz.ntmps103
    go_wp2_with fail
    go_step3
    go_wp2_with fail
    rw [Exit.noGoto_ret]
    go_ret2
    exact ⟨none, 0, 0, fun _ => 0, rfl, ⟨⟨fun a h => by omega, fun a h => by omega, fun a h => by omega⟩, fun m' r' h' => by
      by_cases e : m' = 0
      · omega
      · have := h'.lt 0 (by omega); omega⟩, Nat.le_refl _, fun h => absurd h (by omega), Nat.le_refl _, Nat.zero_le _, Below.refl _ _⟩
  have HL0 := Lib.hid (lengths_any w A n c l h hn)
  have H := Lib.hid h
  have hn1 : ¬ (4096 : Int) < (n : Int) := by omega
  have hn2 : ¬ (n : Int) = 0 := by omega
  clear h
  go_enter Tryz.func103, Tryz.ntmps103
  go_wp2_with fail
  go_step3
  go_wp2_with fail
  refine (HL0.out).mono ?_
  rintro e w1 ⟨g, f, rfl, hf, hg, hg1, b1⟩
  have B1 := Lib.hid b1
  have HF := Lib.hid hf
  have G1 := Lib.hid hg
  have KM := Lib.hid (maxs_any w1 g n (fun j => if j < n then f j else 0) (hg.congr fun j hj => by show Value.int .i64 ((f j : Nat) : Int) = .int .i64 (((if j < n then f j else 0) : Nat) : Int); rw [if_pos hj]) (by omega) hn (fun j => by
    split
    · rename_i hj; have := hf.bd j hj; omega
    · omega))
  clear HL0 b1 hf hg
  go_wp2_with fail
  refine (KM.out).mono ?_
  rintro e w2 ⟨M, rfl, ⟨hM1, hM2⟩, rfl⟩
  have M1 : Hid (∀ i, i < n → f i ≤ M) := fun i hi => by have := hM1 i hi; rwa [if_pos hi] at this
  have M2 : Hid (∃ i, i < n ∧ f i = M) := by obtain ⟨i, a, b⟩ := hM2; exact ⟨i, a, by rwa [if_pos a] at b⟩
  have hMn : M ≤ n := by obtain ⟨i, a, b⟩ := M2.out; have := HF.out.bd i a; omega
  have mk := make_introom M (by omega)
  have O0 : Hid (Own (w1.alloc (.cells (madeCells #[.int .i64 0] M) 3)) w1.heap.size 3 1 0 M (some ⟨w1.heap.size, 0, none⟩) (i64s fun a => ((fun _ => 0 : Nat → Nat) a : Nat)) ∧ M ≤ maxLen) := ⟨.inr ⟨Nat.zero_le _, w1.heap.size, _, rfl, Nat.le_refl _, by rw [Nat.mul_one]; exact World.rowIs_made w1 (.int .i64 0) M 3, fun j hj => by omega⟩, by unfold maxLen; omega⟩
  have D0 : Hid (Below w1.heap.size w1 (w1.alloc (.cells (madeCells #[.int .i64 0] M) 3))) := (Below.refl _ w1).alloc (Nat.le_refl _) _
  clear KM hM1 hM2
  go_wp2_with fail
  go_step3
  go_wp2_with fail
  clear mk
  go_loopw [5, 6, 23] (fun lv o iv wr => ∃ (k q : Nat) (A' : Option Addr) (c' : Nat) (r : Nat → Nat), k ≤ n ∧ q ≤ M ∧ lv = .int .i64 ((M - q : Nat) : Int) ∧ o = .slice A' q c' ∧ iv = .int .i64 k ∧ Hid (Scan l n f M k q r) ∧ Hid (Own wr w1.heap.size 3 1 q c' A' (i64s fun a => r a) ∧ c' ≤ maxLen) ∧ Hid (Below w1.heap.size w1 wr)) (fun _ _ iv _ => n - (intOf iv).toNat)
  case atStart => exact ⟨0, 0, _, _, _, Nat.zero_le _, Nat.zero_le _, by rw [Nat.sub_zero], rfl, rfl, Scan.start l n f M _, O0, D0⟩
  case round =>
    obtain ⟨k, q, A', c', r, hk, hq, rfl, rfl, rfl, hT, hO, hD⟩ := hrel
    clear O0 D0
    by_cases hlt : k < n
    · have hki : (k : Int) < (n : Int) := by omega
      have BW : Below w.heap.size w wr := B1.out.trans (hD.out.mono B1.out.size)
      obtain ⟨b, o, rfl, _, c1⟩ := (H.out.below BW).at_ hlt
      have c2 := (G1.out.of_block (hD.out.block g G1.out.lt)).cell (i := k) hlt
      rw [i64s_at] at c1 c2
      obtain ⟨L, hL⟩ : ∃ L, M - q = L := ⟨_, rfl⟩
      rw [hL]
      by_cases hL0 : L = 0
      · obtain rfl : q = M := by omega
        subst hL0
        have hle := hO.out.1.le
        have R2 := hO.out.1.sees
        rw [Nat.mul_one] at R2
        have FIN : Hid (Longest l n q r ∧ q ≤ n ∧ Sees wr wr.heap.size A' q (i64s fun a => r a) ∧ q ≤ c' ∧ c' ≤ maxLen ∧ Below w.heap.size w wr) :=
          ⟨⟨hT.out.rise, fun m' r' h' => h'.le HF.out M1.out⟩, hMn, R2, hle, hO.out.2, BW⟩
        clear hT hO hD R2 BW hL
        go_wp2_with fail
        rw [Exit.noGoto_ret]
        go_ret2
        exact ⟨A', q, c', r, rfl, FIN.out⟩
      · have hqM : q < M := by omega
        have hLi : ¬ (L : Int) = 0 := by omega
        by_cases hfl : f k = L
        · rw [hfl] at c2
          cases q with
          | zero =>
            obtain ⟨A2, c2, w2, run, O2, fr, _, mx⟩ := own_push (P := Tryz.prog) wr w1.heap.size Tryz.underlying64 infoIntR rfl hO.out.1 hD.out.size (.int .i64 k) rfl (by omega) (by omega)
            have T2 := Lib.hid (hT.out.take hlt hqM ((by rw [hfl, hL])) ((fun h => by omega)))
            have O3 : Hid (Own w2 w1.heap.size 3 1 (0 + 1) c2 A2 (i64s fun a => ((if a = 0 then k else r a : Nat) : Int)) ∧ c2 ≤ maxLen) := ⟨O2.congr fun j hj => by
              show (if j < 0 then Value.int .i64 ((r j : Nat) : Int) else .int .i64 k) = .int .i64 (((if j = 0 then k else r j) : Nat) : Int)
              by_cases e : j < 0
              · rw [if_pos e, if_neg (by omega)]
              · rw [if_neg e, if_pos (by omega)], mx hO.out.2⟩
            have D3 := Lib.hid (hD.out.trans (fr.below hD.out.size fun b hb => (hO.out.1.blk b hb).1))
            have RUN := Lib.hid run
            have HL : Hid (M - (0) = L) := hL
            clear run O2 fr hO hD hT mx
            go_wp2_with (at_builtin; refine Hid.out ?_)
            refine Lib.hid (Lib.wpList_append_run _ rfl _ _ _ _ rfl _ _ rfl rfl _ _ (RUN.out _) ?_)
            go_wp2_with fail
            go_roundw
            case rel => exact ⟨k + 1, 0 + 1, A2, c2, _, by omega, by omega, by rw [show M - (0 + 1) = L - 1 by have := HL.out; omega]; exact congrArg (Value.int .i64) (by go_num), rfl, by go_num, T2, O3, D3⟩
            case measure => simp [intOf]; omega
          | succ q =>
            obtain ⟨g', hA', hg1', hg2', hcells, _⟩ := hO.out.1.at_ (by omega)
            subst hA'
            have c3 : wr.cell? ⟨g', q, none⟩ = some (.int .i64 ((r q : Nat) : Int)) := hcells q (by omega)
            clear hcells
            have hr := (hT.out.lt q (by omega)).1
            have c4 : wr.cell? ⟨b, o + r q, none⟩ = some (.int .i64 (l (r q))) := by
              obtain ⟨b', o', e, _, c4⟩ := (H.out.below BW).at_ (k := r q) (by omega)
              cases e
              rwa [i64s_at] at c4
            have hrn : (r q : Int) < (n : Int) := by omega
            have hle := hO.out.1.le
            by_cases hc : l k ≤ l (r q)
            · clear BW
              have T2 := Lib.hid (hT.out.skip (.inr ⟨by omega, by rw [Nat.add_sub_cancel]; exact hc⟩))
              clear hT
              go_wp2_with fail
              go_roundw
              case rel => exact ⟨k + 1, q + 1, _, c', r, by omega, hq, by rw [hL], rfl, by go_num, T2, hO, hD⟩
              case measure => simp [intOf]; omega
            · clear BW
              obtain ⟨A2, c2, w2, run, O2, fr, _, mx⟩ := own_push (P := Tryz.prog) wr w1.heap.size Tryz.underlying64 infoIntR rfl hO.out.1 hD.out.size (.int .i64 k) rfl (by omega) (by omega)
              have T2 := Lib.hid (hT.out.take hlt hqM ((by rw [hfl, hL])) ((fun h => by rw [Nat.add_sub_cancel]; omega)))
              have O3 : Hid (Own w2 w1.heap.size 3 1 (q + 1 + 1) c2 A2 (i64s fun a => ((if a = q + 1 then k else r a : Nat) : Int)) ∧ c2 ≤ maxLen) := ⟨O2.congr fun j hj => by
                show (if j < q + 1 then Value.int .i64 ((r j : Nat) : Int) else .int .i64 k) = .int .i64 (((if j = q + 1 then k else r j) : Nat) : Int)
                by_cases e : j < q + 1
                · rw [if_pos e, if_neg (by omega)]
                · rw [if_neg e, if_pos (by omega)], mx hO.out.2⟩
              have D3 := Lib.hid (hD.out.trans (fr.below hD.out.size fun b hb => (hO.out.1.blk b hb).1))
              have RUN := Lib.hid run
              have HL : Hid (M - (q + 1) = L) := hL
              clear run O2 fr hO hD hT mx
              go_wp2_with (at_builtin; refine Hid.out ?_)
              refine Lib.hid (Lib.wpList_append_run _ rfl _ _ _ _ rfl _ _ rfl rfl _ _ (RUN.out _) ?_)
              go_wp2_with fail
              go_roundw
              case rel => exact ⟨k + 1, q + 1 + 1, A2, c2, _, by omega, by omega, by rw [show M - (q + 1 + 1) = L - 1 by have := HL.out; omega]; exact congrArg (Value.int .i64) (by go_num), rfl, by go_num, T2, O3, D3⟩
              case measure => simp [intOf]; omega
        · have hfi : ¬ ((f k : Nat) : Int) = (L : Int) := by omega
          clear BW
          have T2 := Lib.hid (hT.out.skip (.inl (by rw [hL]; exact hfl)))
          clear hT
          go_wp2_with fail
          go_roundw
          case rel => exact ⟨k + 1, q, _, c', r, by omega, hq, by rw [hL], rfl, by go_num, T2, hO, hD⟩
          case measure => simp [intOf]; omega
    · obtain rfl : n = k := by omega
      obtain rfl : M = q := (hT.out.done HF.out M2.out).symm
      have BW : Below w.heap.size w wr := B1.out.trans (hD.out.mono B1.out.size)
      have hle := hO.out.1.le
      have R2 := hO.out.1.sees
      rw [Nat.mul_one] at R2
      have FIN : Hid (Longest l n M r ∧ M ≤ n ∧ Sees wr wr.heap.size A' M (i64s fun a => r a) ∧ M ≤ c' ∧ c' ≤ maxLen ∧ Below w.heap.size w wr) :=
        ⟨⟨hT.out.rise, fun m' r' h' => h'.le HF.out M1.out⟩, hMn, R2, hle, hO.out.2, BW⟩
      clear hT hO hD R2 BW
      go_wp2_with fail
      rw [Exit.noGoto_ret]
      go_ret2
      exact ⟨A', M, c', r, rfl, FIN.out⟩
end Go.Proofs.YtfmfmeiaekknbaaGreatDoor
end

section
/-
  Maps of numbers that a call makes (map[int]bool, map[int]int), in words of functions; rises.Check.
-/
namespace Go.Proofs.YtfmfmeiaekknbaaGreatDoor
open Go.RowKit Go.Maps
set_option linter.unusedVariables false
set_option linter.unusedSimpArgs false

theorem keyI : Keyed Tryz.prog 3 := int_keyed Tryz.underlying3
theorem keyI_of {x : Int} (h : Fits x) : keyOf Tryz.prog 3 (.int .i64 x) = some (.int .i64 x) := keyOf_int_mk Tryz.underlying3 (WalkArith.wf_i64 h)
theorem zeroB (w : World) : (zeroValue 4).run Tryz.prog w = .ok (.bool false) w := by kernel_rfl
theorem zeroI (w : World) : (zeroValue 3).run Tryz.prog w = .ok (.int .i64 0) w := by kernel_rfl
theorem plainElem_bool_inv {H : Type} {P : Program} {e : TypeId} (he : P.underlying e = some .bool) {v : Value} {z : DataW H × List MemPlace} (h : plainElem P e v = some z) : ∃ x, v = .bool x ∧ z = (.lit (.bool x), []) := by
  unfold plainElem at h
  rw [he] at h
  cases v <;> simp at h
  exact ⟨_, rfl, h.symm⟩
/-- Block b is a map[int]bool whose element at x is S x. -/
def BM (w : World) (b n : Nat) (S : Int → Bool) : Prop := ∃ D : DataW Unit, w.ownsMap Tryz.prog 3 (plainElem Tryz.prog 4) b n D ∧ ∀ x, D.atKey (.int .i64 x) (.lit (.bool false)) = .lit (.bool (S x))
theorem BM.made (w : World) : BM (w.alloc (.map #[] 0)) w.heap.size 0 (fun _ => false) := ⟨.map [], World.ownsMap_made w _ _ _, fun x => rfl⟩
theorem BM.fr {w w' : World} {b n : Nat} {S : Int → Bool} (h : BM w b n S) (k : w'.heap[b]? = w.heap[b]?) : BM w' b n S := by
  obtain ⟨D, ⟨es, clock, hb, F, hs, hD⟩, h2⟩ := h
  exact ⟨D, ⟨es, clock, k.trans hb, F, hs, hD⟩, h2⟩
theorem BM.lt {w : World} {b n : Nat} {S : Int → Bool} (h : BM w b n S) : b < w.heap.size := by obtain ⟨D, h1, _⟩ := h; exact h1.lt
set_option maxRecDepth 100000 in
theorem BM.look {w : World} {b n : Nat} {S : Int → Bool} (h : BM w b n S) {x : Int} (hx : Fits x) : (Instr.lookup 181 (.map (some b)) (.int .i64 x) false).run Tryz.prog w = .ok (.bool (S x)) w := by
  obtain ⟨D, h1, h2⟩ := h
  obtain ⟨v, ps, hr, hv⟩ := h1.lookup keyI Tryz.underlying181 (zeroB w) (plainElem_bool Tryz.underlying4 false) (keyI_of hx)
  rw [h2] at hv
  obtain ⟨q, hq, e⟩ := plainElem_bool_inv Tryz.underlying4 hv
  have e := congrArg Prod.fst e
  injection e with e
  injection e with e
  rw [hq, ← e] at hr
  exact hr
theorem BM.put {w : World} {b n : Nat} {S : Int → Bool} (h : BM w b n S) {x : Int} (hx : Fits x) (hn : n < 1000000) : ∃ w', (Instr.mapUpdate 181 (.map (some b)) (.int .i64 x) (.bool true)).run Tryz.prog w = .ok () w' ∧ BM w' b (n + 1) (fun y => if y = x then true else S y) ∧ w.grownBy w' (some b) := by
  obtain ⟨D, h1, h2⟩ := h
  obtain ⟨w', r1, r2, r3⟩ := h1.update keyI Tryz.underlying181 (by unfold maxLen; omega) (keyI_of hx) (plainElem_bool Tryz.underlying4 true)
  refine ⟨w', r1, ⟨_, r2, fun y => ?_⟩, r3⟩
  show _ = DataW.lit (Lit.bool (if y = x then true else S y))
  by_cases e : y = x
  · subst e
    rw [if_pos rfl, atKey_put_same (k := .int .i64 y) (h1.tidy keyI).isMap trivial]
  · rw [if_neg e, atKey_put_other (fun h => e (by injection h))]
    exact h2 y
/-- Block b is a map[int]int: F x is its element at x, if there is one. -/
def IM (w : World) (b n : Nat) (F : Int → Option Int) : Prop := ∃ D : DataW Unit, w.ownsMap Tryz.prog 3 (plainElem Tryz.prog 3) b n D ∧ ∀ x, Maps.has D (.int .i64 x) = (F x).isSome ∧ D.atKey (.int .i64 x) (.lit (.int .i64 0)) = .lit (.int .i64 ((F x).getD 0))
theorem IM.made (w : World) : IM (w.alloc (.map #[] 0)) w.heap.size 0 (fun _ => none) := ⟨.map [], World.ownsMap_made w _ _ _, fun x => ⟨rfl, rfl⟩⟩
theorem IM.fr {w w' : World} {b n : Nat} {F : Int → Option Int} (h : IM w b n F) (k : w'.heap[b]? = w.heap[b]?) : IM w' b n F := by
  obtain ⟨D, ⟨es, clock, hb, F, hs, hD⟩, h2⟩ := h
  exact ⟨D, ⟨es, clock, k.trans hb, F, hs, hD⟩, h2⟩
theorem IM.lt {w : World} {b n : Nat} {F : Int → Option Int} (h : IM w b n F) : b < w.heap.size := by obtain ⟨D, h1, _⟩ := h; exact h1.lt
set_option maxRecDepth 100000 in
theorem IM.look {w : World} {b n : Nat} {F : Int → Option Int} (h : IM w b n F) {x : Int} (hx : Fits x) : (Instr.lookup 172 (.map (some b)) (.int .i64 x) true).run Tryz.prog w = .ok (.tuple #[.int .i64 ((F x).getD 0), .bool (F x).isSome]) w := by
  obtain ⟨D, h1, h2⟩ := h
  obtain ⟨v, ps, hr, hv⟩ := h1.look_ok keyI Tryz.underlying172 (zeroI w) (plainElem_int (q := .i64) Tryz.underlying3 (by decide)) (keyI_of hx)
  rw [(h2 x).2] at hv
  obtain ⟨a, ha, e, _⟩ := plainElem_int_inv (q := .i64) Tryz.underlying3 hv
  have e := congrArg Prod.fst e
  injection e with e
  injection e with _ e
  rw [ha, (h2 x).1, ← e] at hr
  exact hr
theorem IM.put {w : World} {b n : Nat} {F : Int → Option Int} (h : IM w b n F) {x v : Int} (hx : Fits x) (hv : Fits v) (hn : n < 1000000) : ∃ w', (Instr.mapUpdate 172 (.map (some b)) (.int .i64 x) (.int .i64 v)).run Tryz.prog w = .ok () w' ∧ IM w' b (n + 1) (fun y => if y = x then some v else F y) ∧ w.grownBy w' (some b) := by
  obtain ⟨D, h1, h2⟩ := h
  obtain ⟨w', r1, r2, r3⟩ := h1.update keyI Tryz.underlying172 (by unfold maxLen; omega) (keyI_of hx) (plainElem_int (q := .i64) Tryz.underlying3 (WalkArith.wf_i64 hv))
  refine ⟨w', r1, ⟨_, r2, fun y => ?_⟩, r3⟩
  show _ = (if y = x then some v else F y).isSome ∧ _ = DataW.lit (Lit.int .i64 ((if y = x then some v else F y).getD 0))
  by_cases e : y = x
  · subst e
    rw [if_pos rfl, atKey_put_same (k := .int .i64 y) (h1.tidy keyI).isMap trivial, has_put_same (k := .int .i64 y) (h1.tidy keyI).isMap trivial]
    exact ⟨rfl, rfl⟩
  · have hne : (Lit.int .i64 y) ≠ .int .i64 x := fun h => e (by injection h)
    rw [if_neg e, atKey_put_other hne, has_put_other hne]
    exact h2 y
theorem Fr.of_grown {w w' : World} {b : Nat} (h : w.grownBy w' (some b)) : Fr (fun c => c = b) w w' := ⟨h.os, h.tape, h.output, h.size, fun k hk hn => h.block k hk (fun e => hn (by injection e))⟩

/-- An order: no number is below 0, none stands twice. -/
structure Ord (l : Nat → Int) (n : Nat) : Prop where
  pos : ∀ i, i < n → 0 ≤ l i ∧ l i ≤ 9223372036854775807
  inj : ∀ i j, i < n → j < n → l i = l j → i = j
set_option maxRecDepth 100000 in
set_option maxHeartbeats 3200000 in
theorem rcheck_ok (w : World) (A : Option Addr) (n c : Nat) (l : Nat → Int) (h : Sees w w.heap.size A n (i64s l)) (hn : n ≤ 4096) (ho : Ord l n) :
    Calls Tryz.prog 102 #[.slice A n c] w fun e w' => e = .returned (.int .i64 0) ∧ Below w.heap.size w w' := by
  have H := Lib.hid h
  have HO := Lib.hid ho
  have hmm := @run_makeMap Tryz.prog
  have hn1 : ¬ (4096 : Int) < (n : Int) := by omega
  have M0 : Hid (BM (w.alloc (.map #[] 0)) w.heap.size 0 (fun _ => false)) := BM.made w
  have B0 : Hid (Below w.heap.size w (w.alloc (.map #[] 0))) := (Below.refl _ w).alloc (Nat.le_refl _) _
  clear h ho
  go_enter Tryz.func102, Tryz.ntmps102
  go_wp2_with fail
  clear hmm
  obtain ⟨b, eb⟩ : ∃ b, b = w.heap.size := ⟨_, rfl⟩
  have EB := Lib.hid eb
  rw [← eb] at M0 ⊢
  clear eb
  go_loopw [12] (fun iv wr => ∃ (k : Nat) (S : Int → Bool), k ≤ n ∧ iv = .int .i64 k ∧ Hid (BM wr b k S) ∧ Hid (∀ x, S x = true → ∃ j, j < k ∧ l j = x) ∧ Hid (Below w.heap.size w wr)) (fun iv _ => n - (intOf iv).toNat)
  case atStart => exact ⟨0, _, Nat.zero_le _, rfl, M0, fun x hx => absurd hx (by simp), B0⟩
  case round =>
    obtain ⟨k, S, hk, rfl, hM, hS, hD⟩ := hrel
    clear M0 B0
    by_cases hlt : k < n
    · have hki : (k : Int) < (n : Int) := by omega
      obtain ⟨b', o, rfl, _, c1⟩ := (H.out.below hD.out).at_ hlt
      rw [i64s_at] at c1
      obtain ⟨p1, p2⟩ := HO.out.pos k hlt
      have hSk : S (l k) = false := by
        cases e : S (l k) with
        | false => rfl
        | true =>
          obtain ⟨j, a, q⟩ := hS.out _ e
          have := HO.out.inj j k (by omega) hlt q
          omega
      obtain ⟨x, ex⟩ : ∃ x, x = l k := ⟨_, rfl⟩
      have EX := Lib.hid ex
      rw [← ex] at c1 p1 p2 hSk
      have fx : Fits x := ⟨by omega, p2⟩
      have L1 := hM.out.look fx
      rw [hSk] at L1
      obtain ⟨w2, L2, M2, G2⟩ := hM.out.put fx (by omega)
      have N2 := Lib.hid M2
      have S2 : Hid (∀ y, (if y = x then true else S y) = true → ∃ j, j < k + 1 ∧ l j = y) := fun y hy => by
        by_cases e : y = x
        · exact ⟨k, by omega, by rw [e, EX.out]⟩
        · rw [if_neg e] at hy
          obtain ⟨j, a, q⟩ := hS.out y hy
          exact ⟨j, by omega, q⟩
      have D2 : Hid (Below w.heap.size w w2) := hD.out.trans ((Fr.of_grown G2).below hD.out.size (fun c hc => by rw [hc, EB.out]; exact Nat.le_refl _))
      have p3 : ¬ x < 0 := by omega
      clear hM hS hD M2 G2 ex hSk
      go_wp2_with fail
      go_roundw
      case rel => exact ⟨k + 1, _, by omega, by go_num, N2, S2, D2⟩
      case measure => simp [intOf]; omega
    · obtain rfl : k = n := by omega
      go_wp2_with fail
      go_ret
      exact ⟨rfl, hD.out⟩
end Go.Proofs.YtfmfmeiaekknbaaGreatDoor
end

section
/-
  Package rises: what is kept of an order, where the other one has the same numbers.
-/
namespace Go.Proofs.YtfmfmeiaekknbaaGreatDoor
open Go.RowKit Go.Maps
set_option linter.unusedVariables false
set_option linter.unusedSimpArgs false

/-- Two orders of the same n numbers: place i of the new one is place pos i of the old one. -/
structure Two (l m : Nat → Int) (n : Nat) (pos : Nat → Nat) : Prop where
  ol : Ord l n
  om : Ord m n
  pos : ∀ i, i < n → pos i < n ∧ l (pos i) = m i
theorem szSl : (Tryz.prog.info? 64).map (·.size) = some 1 := by kernel_rfl
theorem index_two0 (A A2 : Option Addr) (n c n2 c2 : Nat) (wx : World) : (Instr.index 170 (.agg #[.slice A n c, .slice A2 n2 c2]) (.int .i64 0)).run Tryz.prog wx = .ok (.slice A n c) wx := by
  simp [Instr.index, asIntOf, run_underlying Tryz.underlying170, run_underlying Tryz.underlying64, sizeOf_eq szSl, part, isAgg]
theorem index_two1 (A A2 : Option Addr) (n c n2 c2 : Nat) (wx : World) : (Instr.index 170 (.agg #[.slice A n c, .slice A2 n2 c2]) (.int .i64 1)).run Tryz.prog wx = .ok (.slice A2 n2 c2) wx := by
  simp [Instr.index, asIntOf, run_underlying Tryz.underlying170, run_underlying Tryz.underlying64, sizeOf_eq szSl, part, isAgg]
set_option maxRecDepth 100000 in
set_option maxHeartbeats 6400000 in
theorem kept_ok (w : World) (A : Option Addr) (A2 : Option Addr) (n c c2 : Nat) (l m : Nat → Int) (pos : Nat → Nat) (h : Sees w w.heap.size A n (i64s l)) (h2 : Sees w w.heap.size A2 n (i64s m)) (hn : n ≤ 4096) (ht : Two l m n pos) :
    Calls Tryz.prog 79 #[.slice A n c, .slice A2 n c2] w (LPostR w (fun i => pos i) n) := by
  unfold LPostR
  have H := Lib.hid h
  have H2 := Lib.hid h2
  have HT := Lib.hid ht
  have hmm := @run_makeMap Tryz.prog
  clear h h2 ht
  go_enter Tryz.func79, Tryz.ntmps79
  go_wp2_with fail
  go_loopw [20] (fun iv wr => ∃ k : Nat, k ≤ 2 ∧ iv = .int .i64 k ∧ Hid (Below w.heap.size w wr)) (fun iv _ => 2 - (intOf iv).toNat)
  case atStart => exact ⟨0, by omega, rfl, Below.refl _ _⟩
  case round =>
    obtain ⟨k, hk, rfl, hD⟩ := hrel
    rcases (show k = 0 ∨ k = 1 ∨ k = 2 by omega) with rfl | rfl | rfl
    · have hix := index_two0 A A2 n c n c2
      have KC := Lib.hid (rcheck_ok wr A n c l ((H.out.below hD.out).more hD.out.size) hn HT.out.ol)
      go_wp2_with fail
      clear hix
      refine (KC.out).mono ?_
      rintro e w2 ⟨rfl, b⟩
      have D2 := Lib.hid (hD.out.trans (b.mono hD.out.size))
      clear hD b KC
      go_wp2_with fail
      go_roundw
      case rel => exact ⟨1, by omega, by go_num, D2⟩
      case measure => simp [intOf]
    · have hix := index_two1 A A2 n c n c2
      have KC := Lib.hid (rcheck_ok wr A2 n c2 m ((H2.out.below hD.out).more hD.out.size) hn HT.out.om)
      go_wp2_with fail
      clear hix
      refine (KC.out).mono ?_
      rintro e w2 ⟨rfl, b⟩
      have D2 := Lib.hid (hD.out.trans (b.mono hD.out.size))
      clear hD b KC
      go_wp2_with fail
      go_roundw
      case rel => exact ⟨2, by omega, by go_num, D2⟩
      case measure => simp [intOf]
    · have M0 : Hid (IM (wr.alloc (.map #[] 0)) wr.heap.size 0 (fun _ => none)) := IM.made wr
      have B0 : Hid (Below w.heap.size w (wr.alloc (.map #[] 0))) := hD.out.alloc hD.out.size _
      have hb0 := hD.out.size
      clear hD
      go_wp2_with fail
      obtain ⟨b, eb⟩ : ∃ b, b = wr.heap.size := ⟨_, rfl⟩
      rw [← eb] at M0 hb0 ⊢
      clear eb
      go_loopw [32] (fun iv wq => ∃ (k : Nat) (F : Int → Option Int), k ≤ n ∧ iv = .int .i64 k ∧ Hid (IM wq b k F) ∧ Hid (∀ j, j < k → F (l j) = some (j : Int)) ∧ Hid (Below w.heap.size w wq)) (fun iv _ => n - (intOf iv).toNat)
      case atStart => exact ⟨0, _, Nat.zero_le _, rfl, M0, fun j hj => by omega, B0⟩
      case round =>
        obtain ⟨k, F, hk, rfl, hM, hS, hD⟩ := hrel
        clear M0 B0
        by_cases hlt : k < n
        · have hki : (k : Int) < (n : Int) := by omega
          obtain ⟨b', o, rfl, _, c1⟩ := (H.out.below hD.out).at_ hlt
          rw [i64s_at] at c1
          obtain ⟨p1, p2⟩ := HT.out.ol.pos k hlt
          obtain ⟨x, ex⟩ : ∃ x, x = l k := ⟨_, rfl⟩
          have EX := Lib.hid ex
          rw [← ex] at c1 p1 p2
          obtain ⟨w2, L2, M2, G2⟩ := hM.out.put (x := x) (v := (k : Int)) ⟨by omega, p2⟩ ⟨by omega, by omega⟩ (by omega)
          have N2 := Lib.hid M2
          have S2 : Hid (∀ j, j < k + 1 → (if l j = x then some (k : Int) else F (l j)) = some (j : Int)) := fun j hj => by
            by_cases e : l j = x
            · rw [if_pos e]
              have := HT.out.ol.inj j k (by omega) hlt (by rw [e, EX.out])
              rw [this]
            · rw [if_neg e]
              exact hS.out j (by
                by_cases e2 : j = k
                · rw [e2, EX.out] at e; exact absurd rfl e
                · omega)
          have D2 : Hid (Below w.heap.size w w2) := hD.out.trans ((Fr.of_grown G2).below hD.out.size (fun c hc => by omega))
          clear hM hS hD M2 G2 ex
          go_wp2_with fail
          go_roundw
          case rel => exact ⟨k + 1, _, by omega, by go_num, N2, S2, D2⟩
          case measure => simp [intOf]; omega
        · obtain rfl : n = k := by omega
          have mk := make_ints n (by omega)
          have M1 : Hid (IM (wr.alloc (.cells (madeCells #[.int .i64 0] n) 3)) b n F) := hM.out.fr (Below.heap_alloc _ _ _ hM.out.lt)
          have B1 : Hid (Below w.heap.size w (wr.alloc (.cells (madeCells #[.int .i64 0] n) 3))) := hD.out.alloc hD.out.size _
          have R1 : Hid ((wr.alloc (.cells (madeCells #[.int .i64 0] n) 3)).rowIs wr.heap.size 3 n (i64s fun j => if j < 0 then pos j else 0)) := (World.rowIs_made wr (.int .i64 0) n 3).congr fun j _ => by
            show Value.int .i64 0 = Value.int .i64 (if j < 0 then (pos j : Int) else 0)
            rw [if_neg (by omega)]
          have hg0 := hD.out.size
          have hbg := hM.out.lt
          clear hM hD
          go_wp2_with fail
          clear mk
          obtain ⟨g, eg⟩ : ∃ g, g = wr.heap.size := ⟨_, rfl⟩
          rw [← eg] at R1 hg0 hbg ⊢
          clear eg
          go_loopw [46] (fun iv wr => ∃ k : Nat, k ≤ n ∧ iv = .int .i64 k ∧ Hid (IM wr b n F) ∧ Hid (wr.rowIs g 3 n (i64s fun j => if j < k then pos j else 0)) ∧ Hid (Below w.heap.size w wr)) (fun iv _ => n - (intOf iv).toNat)
          case atStart => exact ⟨0, Nat.zero_le _, rfl, M1, R1, B1⟩
          case round =>
            obtain ⟨k, hk, rfl, hM, hR, hD⟩ := hrel
            clear M1 B1 R1
            by_cases hlt : k < n
            · have hki : (k : Int) < (n : Int) := by omega
              obtain ⟨b', o, rfl, _, c1⟩ := (H2.out.below hD.out).at_ hlt
              rw [i64s_at] at c1
              obtain ⟨p1, p2⟩ := HT.out.om.pos k hlt
              obtain ⟨q1, q2⟩ := HT.out.pos k hlt
              have hF := hS.out _ q1
              rw [q2] at hF
              obtain ⟨x, ex⟩ : ∃ x, x = m k := ⟨_, rfl⟩
              rw [← ex] at c1 p1 p2 hF
              have L2 := hM.out.look (x := x) ⟨by omega, p2⟩
              rw [hF] at L2
              have R2 : Hid ((wr.setCell ⟨g, k, none⟩ (.int .i64 (pos k))).rowIs g 3 n (i64s fun j => if j < k + 1 then pos j else 0)) := (hR.out.set k (.int .i64 (pos k))).congr fun j hj => by
                show (if j = k then Value.int .i64 (pos k) else .int .i64 (if j < k then (pos j : Int) else 0)) = .int .i64 (if j < k + 1 then (pos j : Int) else 0)
                by_cases e : j = k
                · rw [if_pos e, if_pos (by omega), e]
                · rw [if_neg e]
                  by_cases e2 : j < k
                  · rw [if_pos e2, if_pos (by omega)]
                  · rw [if_neg e2, if_neg (by omega)]
              have M2 : Hid (IM (wr.setCell ⟨g, k, none⟩ (.int .i64 (pos k))) b n F) := hM.out.fr (Below.heap_setCell _ _ _ _ (by show b ≠ g; omega))
              have D2 : Hid (Below w.heap.size w (wr.setCell ⟨g, k, none⟩ (.int .i64 (pos k)))) := hD.out.setCell (p := ⟨g, k, none⟩) (by show w.heap.size ≤ g; exact hg0) _
              have c2 := hR.out.cell (i := k) hlt
              have c3 := hR.out.frozen k
              rw [i64s_at, if_neg (by omega)] at c2
              clear hM hR hD ex hF q1 q2
              generalize pos k = pk at *
              go_wp2_with fail
              go_roundw
              case rel => exact ⟨k + 1, by omega, by go_num, M2, R2, D2⟩
              case measure => simp [intOf]; omega
            · obtain rfl : n = k := by omega
              have R3 : wr.rowIs g 3 n (i64s fun j => pos j) := hR.out.congr fun j hj => by
                show Value.int .i64 (if j < n then (pos j : Int) else 0) = _
                rw [if_pos hj]; rfl
              have KL := Lib.hid (longest_any wr (some ⟨g, 0, none⟩) n n (fun j => pos j) (Sees.row R3 (Nat.le_refl _)) hn)
              have D2 := Lib.hid hD.out
              clear hM hR hD R3
              go_wp2_with fail
              refine (KL.out).mono ?_
              rintro e w2 ⟨A', q, c', r, rfl, k1, k2, k3, k4, k5, k6⟩
              have FIN : Hid (Longest (fun i => (pos i : Int)) n q r ∧ q ≤ n ∧ Sees w2 w2.heap.size A' q (i64s fun a => r a) ∧ q ≤ c' ∧ c' ≤ maxLen ∧ Below w.heap.size w w2) := ⟨k1, k2, k3, k4, k5, D2.out.trans (k6.mono D2.out.size)⟩
              clear k1 k2 k3 k4 k5 k6 KL D2
              go_wp2_with fail
              go_ret2
              exact ⟨A', q, c', r, rfl, FIN.out⟩
end Go.Proofs.YtfmfmeiaekknbaaGreatDoor
end

section
/-
  slices.Backward over a slice of int: what it yields; the state of rises.Moves from round to round, plainly.
-/
namespace Go.Proofs.YtfmfmeiaekknbaaGreatDoor
open Go.RowKit Go.Shelf
set_option linter.unusedVariables false
set_option linter.unusedSimpArgs false

attribute [local go_sem] Oper.semAt_some

/-- What a round keeps: all below N, but for blocks of S. -/
structure Kz (N : Nat) (S : Nat → Prop) (w w' : World) : Prop where
  os : w'.os = w.os
  tape : w'.tape = w.tape
  output : w'.output = w.output
  size : w.heap.size ≤ w'.heap.size
  block : ∀ k, k < N → ¬ S k → w'.heap[k]? = w.heap[k]?
theorem Kz.refl (N : Nat) (S : Nat → Prop) (w : World) : Kz N S w w := ⟨rfl, rfl, rfl, Nat.le_refl _, fun _ _ _ => rfl⟩
theorem Kz.trans {N : Nat} {S : Nat → Prop} {a b c : World} (h : Kz N S a b) (k : Kz N S b c) : Kz N S a c :=
  ⟨k.os.trans h.os, k.tape.trans h.tape, k.output.trans h.output, Nat.le_trans h.size k.size, fun i hi hn => (k.block i hi hn).trans (h.block i hi hn)⟩
theorem Kz.of_below {N : Nat} {S : Nat → Prop} {a b : World} (h : Below N a b) : Kz N S a b := ⟨h.os, h.tape, h.output, h.size, fun k hk _ => h.block k hk⟩
theorem Kz.cell {N : Nat} {S : Nat → Prop} {w w' : World} (h : Kz N S w w') {p : Addr} (hp : p.block < N) (hq : ¬ S p.block) : w'.cell? p = w.cell? p := by
  unfold World.cell?; rw [h.block _ hp hq]
theorem Kz.of_fr {N : Nat} {S T : Nat → Prop} {w w' : World} (h : Fr T w w') (hN : N ≤ w.heap.size) (hT : ∀ b, T b → S b ∨ N ≤ b) : Kz N S w w' :=
  ⟨h.os, h.tape, h.output, h.size, fun k hk hn => h.block k (by omega) (fun t => by
    rcases hT k t with h | h
    · exact hn h
    · omega)⟩
theorem Kz.grown {N : Nat} {S : Nat → Prop} {w w' : World} {row : Option Nat} (hg : w.grownBy w' row) (hN : N ≤ w.heap.size) (hr : ∀ r, row = some r → N ≤ r) : Kz N S w w' :=
  ⟨hg.os, hg.tape, hg.output, hg.size, fun k hk _ => hg.block k (by omega) (fun e => by have := hr k e.symm; omega)⟩
/-- The pairs of a place and its number, from the last one back. -/
def bk (m : Nat → Int) (n k : Nat) : List (Int × Int) := (List.range k).map fun j => (((n - 1 - j : Nat) : Int), m (n - 1 - j))
theorem bk_succ (m : Nat → Int) (n k : Nat) : bk m n (k + 1) = bk m n k ++ [(((n - 1 - k : Nat) : Int), m (n - 1 - k))] := by simp [bk, List.range_succ]
theorem bk_len (m : Nat → Int) (n k : Nat) : (bk m n k).length = k := by simp [bk]
/-- A round of Moves: how many kept places are left; the steps; the number ahead of which the next one is put. -/
def mstep (r : Nat → Nat) (s : Nat × Sp × Int) (x : Int × Int) : Nat × Sp × Int :=
  if 0 < s.1 ∧ ((r (s.1 - 1) : Nat) : Int) = x.1 then (s.1 - 1, s.2.1, x.2) else (s.1, s.2.1 ++ [(x.2, s.2.2)], x.2)
def mst (r : Nat → Nat) (q : Nat) (xs : List (Int × Int)) : Nat × Sp × Int := xs.foldl (mstep r) (q, [], -1)
theorem mst_snoc (r : Nat → Nat) (q : Nat) (xs : List (Int × Int)) (x : Int × Int) : mst r q (xs ++ [x]) = mstep r (mst r q xs) x := by simp [mst, List.foldl_append]
theorem mst_bd' (r : Nat → Nat) (xs : List (Int × Int)) : ∀ s : Nat × Sp × Int, (xs.foldl (mstep r) s).1 ≤ s.1 ∧ (xs.foldl (mstep r) s).2.1.length ≤ s.2.1.length + xs.length := by
  induction xs with
  | nil => intro s; exact ⟨Nat.le_refl _, Nat.le_refl _⟩
  | cons x xs ih =>
    intro s
    have h := ih (mstep r s x)
    have h1 : (mstep r s x).1 ≤ s.1 ∧ (mstep r s x).2.1.length ≤ s.2.1.length + 1 := by
      unfold mstep
      split
      · exact ⟨by show s.1 - 1 ≤ s.1; omega, by show s.2.1.length ≤ _; omega⟩
      · exact ⟨Nat.le_refl _, by show (s.2.1 ++ [(x.2, s.2.2)]).length ≤ _; rw [List.length_append]; simp⟩
    rw [List.foldl_cons, List.length_cons]
    omega
theorem mst_bd (r : Nat → Nat) (q : Nat) (xs : List (Int × Int)) : (mst r q xs).1 ≤ q ∧ (mst r q xs).2.1.length ≤ xs.length := by
  have := mst_bd' r xs (q, [], -1)
  simpa [mst] using this

/-- The pairs that are yielded. -/
def encB (x : Int × Int) : Array Value := #[.int .i64 x.1, .int .i64 x.2]
set_option maxRecDepth 100000 in
set_option maxHeartbeats 2000000 in
theorem backward1_in (n : Nat) (hn : 1 ≤ n) (l Bs N : Nat) (T : Nat → Prop) (A : Option Addr) (len cap : Nat) (m : Nat → Int) (hlen : len ≤ 4096) (hBs : Bs < N) (hBT : ¬ T Bs) (J Jx : List (Int × Int) → World → Prop)
    (hY : ∀ pre x W, J pre W → pre.length < len → YieldAt Fence.wide (n - 1) Tryz.prog l (encB x) W fun e W' =>
      (e = .returned (.bool true) ∧ J (pre ++ [x]) W' ∧ Kz N T W W') ∨ (e = .returned (.bool false) ∧ Jx (pre ++ [x]) W'))
    (W : World) (cBs : W.cell? ⟨Bs, 0, none⟩ = some (.slice A len cap)) (hs : 0 < len → ∃ b o, A = some ⟨b, o, none⟩ ∧ b < N ∧ ¬ T b ∧ ∀ j, j < len → W.cell? ⟨b, o + j, none⟩ = some (.int .i64 (m j))) (h0 : J [] W) :
    CallsIn Fence.wide n Tryz.prog 104 #[.func (.yield l) #[] #[], .pointer (some ⟨Bs, 0, none⟩)] W fun e W' => (∃ v, e = .returned v) ∧
      ((∃ ys : List (Int × Int), ys = bk m len len ∧ J ys W') ∨ (∃ pre : List (Int × Int), True ∧ Jx pre W')) := by
  refine callsIn_of_wp Tryz.func104 rfl trivial ?_ rfl
  simp only [Tryz.ntmps104, List.size_toArray, List.length_cons, List.length_nil, Nat.reduceAdd, Nat.reduceSub, Array.replicate_succ, Array.replicate_zero, List.push_toArray, List.append_toArray, List.nil_append, List.cons_append]
  gi_wp2
  gi_loopw [3] (fun i wr => ∃ k : Nat, k ≤ len ∧ i = .int .i64 ((len : Int) - 1 - k) ∧ J (bk m len k) wr ∧ Kz N T W wr)
    (fun i _ => (intOf i + 1).toNat)
  case atStart => exact ⟨0, Nat.zero_le _, by simp, h0, Kz.refl _ _ _⟩
  case round =>
    obtain ⟨k, hk, rfl, hJs, hnx⟩ := hrel
    by_cases hlt : k < len
    · obtain ⟨d, ed⟩ : ∃ d : Nat, d = len - 1 - k := ⟨_, rfl⟩
      have e1 : (len : Int) - 1 - k = (d : Int) := by omega
      obtain ⟨b, o, rfl, hb, hbT, hc⟩ := hs (by omega)
      have c1 := (hnx.cell (p := ⟨b, o + d, none⟩) hb hbT).trans (hc d (by omega))
      have c2 := (hnx.cell (p := ⟨Bs, 0, none⟩) hBs hBT).trans cBs
      have hd : (d : Int) < (len : Int) := by omega
      have hd0 : (0 : Int) ≤ (d : Int) := by omega
      obtain ⟨fn, tmps, assign, body, hy, hR⟩ := hY _ (((d : Nat) : Int), m d) wr hJs (by rw [bk_len]; exact hlt)
      simp only [encB] at hy
      rw [e1]
      have HNX := Lib.hid hnx
      have ED := Lib.hid ed
      clear hs hc cBs hnx ed
      gi_wp2
      refine hR.mono ?_
      rintro e W3 (⟨rfl, hJ3, hk3⟩ | ⟨rfl, hJx3⟩)
      · gi_wp2
        go_roundw
        case rel => exact ⟨k + 1, by omega, by have := ED.out; first | (rw [show (len : Int) - 1 - ((k + 1 : Nat) : Int) = (d : Int) - 1 by omega]; done) | (simp; omega) | (congr 1; omega), by rw [bk_succ, ← ED.out]; exact hJ3, HNX.out.trans hk3⟩
        case measure => simp [intOf]
      · gi_wp2
        refine bodyPost_ret (results_none rfl _ _ _) rfl ?_
        exact ⟨⟨_, rfl⟩, .inr ⟨_, trivial, hJx3⟩⟩
    · obtain rfl : k = len := by omega
      have e1 : ((k : Int) - 1 - k) = -1 := by omega
      rw [e1]
      gi_wp2
      go_end0
      exact ⟨⟨_, rfl⟩, .inl ⟨_, rfl, hJs⟩⟩
theorem wpListIn_append_run {F : Fence} {n : Nat} {P : Program} (w : World) {ops : Array Oper} {rest : List Oper} {o : Oper} {a : Act} {Q : Exit → Act → World → Prop}
    (hg : o.guard = none) (s x : Operand) (t tn : TypeId) (hop : o.op = Op.call { callee := Callee.builtin Builtin.append, args := #[s, x], argTypes := #[t, tn] }) (vs vx : Value) (hs : a.eval s = vs) (hx : a.eval x = vx)
    (v' : Value) (w' : World) (hr : (Builtin.append_ #[t, tn] o.type #[vs, vx]).run P w = .ok v' w') (h : wpListIn F n P ops Q rest (a.put o.dst v') w') : wpListIn F n P ops Q (o :: rest) a w := by
  refine wpListIn_plain hg fun K hK' => ?_
  unfold Oper.wpIn
  refine ⟨?_, ?_⟩
  · simp [Oper.about, hop, resolve, Target.leads, Sem.run_pure]
  · rw [Oper.semAt_plain F _ _ (by rw [hop]; intro c hc'; cases hc')]
    simp [execOp, hop, resolve, invoke, builtin, hs, hx, hr, Result.andThen]
    exact hK' _ _ h
theorem backward_any (w : World) (A : Option Addr) (n c : Nat) :
    Calls Tryz.prog 80 #[.slice A n c] w fun e w' => e = .returned (.func (.func 104) #[] #[.pointer (some ⟨w.heap.size, 0, none⟩)]) ∧ w' = w.alloc (.cells #[.slice A n c] 64) := by
  go_enter Tryz.func80, Tryz.ntmps80
  go_wp2_with fail
  go_ret
  exact ⟨rfl, rfl⟩
end Go.Proofs.YtfmfmeiaekknbaaGreatDoor
end

section
/-
  Package rises: Moves, where the other order has the same numbers.
-/
namespace Go.Proofs.YtfmfmeiaekknbaaGreatDoor
open Go.RowKit Go.Shelf
set_option linter.unusedVariables false
set_option linter.unusedSimpArgs false

attribute [local go_sem] Oper.semAt_some

theorem infoStep : (Tryz.prog.info? 109).map (fun i => (i.zero, i.size, i.bytes)) = some (some (.agg #[.int .i64 0, .int .i64 0]), 2, 16) := by kernel_rfl
/-- append(own, a pair). -/
theorem push_step (w : World) (B : Nat) {n c : Nat} {A : Option Addr} {F : Nat → Value} (h : Own w B 109 2 n c A F) (hB : B ≤ w.heap.size) (x y : Int) (hm : n ≤ 900000000) :
    ∃ A' c' w', (∀ ty, (Builtin.append_ #[105, 105] ty #[.slice A n c, .slice (some ⟨w.heap.size, 0, none⟩) 1 1]).run Tryz.prog (w.alloc (.cells #[.int .i64 x, .int .i64 y] 109)) = .ok (.slice A' (n + 1) c') w') ∧ Own w' B 109 2 (n + 1) c' A' (fun j => if j < n * 2 then F j else if j = n * 2 then .int .i64 x else .int .i64 y) ∧ Fr (fun b => A.map (·.block) = some b) w w' ∧ (A' = A ∨ ∃ g, A' = some ⟨g, 0, none⟩ ∧ w.heap.size ≤ g) ∧ (c ≤ maxLen → c' ≤ maxLen) := by
  have L0 : Below w.heap.size w (w.alloc (.cells #[.int .i64 x, .int .i64 y] 109)) := (Below.refl _ w).alloc (Nat.le_refl _) _
  have hs : Sees (w.alloc (.cells #[.int .i64 x, .int .i64 y] 109)) (w.heap.size + 1) (some ⟨w.heap.size, 0, none⟩) (1 * 2) (fun j => if j = 0 then .int .i64 x else .int .i64 y) := by
    have := Sees.lit w #[.int .i64 x, .int .i64 y] 109 (fun j => if j = 0 then .int .i64 x else .int .i64 y) 2 rfl (fun j hj => by
      have : j = 0 ∨ j = 1 := by omega
      rcases this with rfl | rfl <;> rfl)
    simpa using this
  obtain ⟨A', c', w', run, O, fr, a, m⟩ := own_append2' (P := Tryz.prog) (w.alloc (.cells #[.int .i64 x, .int .i64 y] 109)) B Tryz.underlying105 infoStep rfl (by omega) Tryz.underlying105 (h.below L0) (by rw [World.size_alloc]; omega) (c2 := 1) hs (fun j => by split <;> rfl) (by omega) (by omega)
  refine ⟨A', c', w', run, O.congr fun j hj => ?_, (Fr.of_below L0).trans fr, ?_, m⟩
  · by_cases d : j < n * 2
    · rw [if_pos d, if_pos d]
    · rw [if_neg d, if_neg d]
      by_cases d2 : j = n * 2
      · rw [if_pos (by omega), if_pos d2]
      · rw [if_neg (by omega), if_neg d2]
  · rcases a with a | ⟨g, a1, a2⟩
    · exact .inl a
    · exact .inr ⟨g, a1, by rw [World.size_alloc] at a2; omega⟩
theorem spf_push1 {L : Sp} {x y : Int} : ∀ j, j < (L.length + 1) * 2 → (if j < L.length * 2 then spf L j else if j = L.length * 2 then Value.int .i64 x else .int .i64 y) = spf (L ++ [(x, y)]) j := fun j hj => by
  unfold spf
  rw [sg_app]
  by_cases d : j < L.length * 2
  · rw [if_pos d, if_pos (show j / 2 < L.length by omega)]
  · rw [if_neg d, if_neg (show ¬ j / 2 < L.length by omega)]
    by_cases d2 : j = L.length * 2
    · rw [if_pos d2, if_pos (show j % 2 = 0 by omega), show j / 2 - L.length = 0 from by omega]; rfl
    · rw [if_neg d2, if_neg (show ¬ j % 2 = 0 by omega), show j / 2 - L.length = 0 from by omega]; rfl

/-- What the rounds of Moves keep: the kept places that are left, the steps, the number ahead. -/
structure MI (wB : World) (b6 b8 b9 g0 : Nat) (A : Option Addr) (c : Nat) (r : Nat → Nat) (q : Nat) (pre : List (Int × Int)) (W : World) : Prop where
  x6 : Boxed W b6 64 (.slice A (mst r q pre).1 c)
  x9 : Boxed W b9 3 (.int .i64 (mst r q pre).2.2)
  x8 : ∃ Ao co, Boxed W b8 105 (.slice Ao (mst r q pre).2.1.length co) ∧ Own W g0 109 2 (mst r q pre).2.1.length co Ao (spf (mst r q pre).2.1) ∧ ∀ k, Ao.map (·.block) = some k → k = g0 ∨ wB.heap.size ≤ k
  kz : Kz wB.heap.size (fun b => b = b6 ∨ b = b8 ∨ b = b9 ∨ b = g0) wB W
theorem Own.grown {w w' : World} {B : Nat} {e : TypeId} {sz n c : Nat} {A : Option Addr} {F : Nat → Value} {row : Option Nat} (h : Own w B e sz n c A F) (hg : w.grownBy w' row) (hr : ∀ r, row = some r → ∃ o : Obj, w.heap[r]? = some o ∧ o.isCells = false) : Own w' B e sz n c A F := by
  rcases h with h | ⟨h1, g, F', h2, h3, h4, h5⟩
  · exact .inl h
  · refine .inr ⟨h1, g, F', h2, h3, h4.of_block (hg.block g h4.lt (fun e => ?_)), h5⟩
    obtain ⟨o, a, b⟩ := hr g e.symm
    obtain ⟨cs, e1, _⟩ := h4
    rw [e1] at a
    cases a
    cases b
theorem boxed_grown {W W' : World} {row : Option Nat} {B : Nat} {t : TypeId} {v : Value} (h : Boxed W B t v) (hg : W.grownBy W' row) (hr : ∀ r, row = some r → ∃ o : Obj, W.heap[r]? = some o ∧ o.isCells = false) : Boxed W' B t v :=
  h.kept hg (fun e => by
    obtain ⟨o, a, b⟩ := hr B e.symm
    rw [show W.heap[B]? = _ from h] at a
    cases a
    cases b)
theorem MI.own (wB : World) (b6 b8 b9 g0 : Nat) (A : Option Addr) (c : Nat) (r : Nat → Nat) (q : Nat) : OwnFrom wB.heap.size (fun (pre : List (Int × Int)) W => MI wB b6 b8 b9 g0 A c r q pre W) := by
  rintro pre X Y row h hg hr
  have hr' : ∀ x, row = some x → ∃ o : Obj, X.heap[x]? = some o ∧ o.isCells = false := fun x e => (hr x e).2
  obtain ⟨Ao, co, h1, h2, h3⟩ := h.x8
  exact ⟨boxed_grown h.x6 hg hr', boxed_grown h.x9 hg hr', ⟨Ao, co, boxed_grown h1 hg hr', h2.grown hg hr', h3⟩, h.kz.trans (Kz.grown hg h.kz.size (fun x e => (hr x e).1))⟩

theorem szInt' : (Tryz.prog.info? 3).map (·.size) = some 1 := by kernel_rfl
set_option maxRecDepth 100000 in
set_option maxHeartbeats 6400000 in
theorem moves_ok (w : World) (A A2 : Option Addr) (n c c2 : Nat) (l m : Nat → Int) (pos : Nat → Nat) (h : Sees w w.heap.size A n (i64s l)) (h2 : Sees w w.heap.size A2 n (i64s m)) (hn : n ≤ 4096) (ht : Two l m n pos) :
    Calls Tryz.prog 43 #[.slice A n c, .slice A2 n c2] w fun e w' => ∃ (q : Nat) (r : Nat → Nat) (O : Sp) (A' : Option Addr) (c' : Nat), e = .returned (.tuple #[.slice A' O.length c', .int .i64 0]) ∧ Longest (fun i => (pos i : Int)) n q r ∧ (O = (mst r q (bk m n n)).2.1 ∨ q = n ∧ O = []) ∧ Sees w' w'.heap.size A' (O.length * 2) (spf O) ∧ Below w.heap.size w w' := by
  have H2 := Lib.hid h2
  have KK := Lib.hid (kept_ok w A A2 n c c2 l m pos h h2 hn ht)
  clear h h2
  refine (callsIn_wide (n := 8)).1 (callsIn_of_wp_marks Tryz.func43 rfl trivial ?_ rfl)
  simp only [Tryz.ntmps43, List.size_toArray, List.length_cons, List.length_nil, Nat.reduceAdd, Nat.reduceSub, Array.replicate_succ, Array.replicate_zero, List.push_toArray, List.append_toArray, List.nil_append, List.cons_append]
  refine wpIn_wide.2 ?_
  go_wp2_with fail
  refine (KK.out).mono ?_
  rintro e w1 ⟨A1, q, c1, r, rfl, k1, k2, k3, k4, k5, k6⟩
  have K1 := Lib.hid k1
  have K3 := Lib.hid k3
  have B1 := Lib.hid k6
  clear KK k1 k3 k6
  by_cases hq : q = n
  · subst hq
    have FIN : Hid (Below w.heap.size w (w1.alloc (.cells #[.slice A1 q c1] 64))) := B1.out.alloc B1.out.size _
    go_wp2_with fail
    exact ⟨.tuple #[.slice none 0 0, .int .i64 0], by simp [results, Tryz.results43, go_sem], q, r, [], none, 0, rfl, K1.out, .inr ⟨rfl, rfl⟩, fun h => absurd h (by simp), FIN.out⟩
  have hqi : ¬ (q : Int) = (n : Int) := by omega
  have mk : ∀ W : World, (Instr.makeSlice 105 (.int .i64 0) (.int .i64 ((n : Int) - (q : Int)))).run Tryz.prog W = .ok (.slice (some ⟨W.heap.size, 0, none⟩) 0 (n - q)) (W.alloc (.cells (madeCells #[.int .i64 0, .int .i64 0] ((n - q) * 2)) 109)) := fun W => by
    obtain ⟨i, hi, hzz⟩ := Option.map_eq_some_iff.1 infoStep
    simp only [Prod.mk.injEq] at hzz
    obtain ⟨hz, hs, hb⟩ := hzz
    have := run_make (P := Tryz.prog) W 105 109 i _ Tryz.underlying105 hi hz .i64 .i64 0 ((n : Int) - q) (by omega) (by omega) (by rw [hb]; omega) (by omega)
    rw [hs, show ((n : Int) - q).toNat = n - q by omega] at this
    exact this
  go_wp2_with fail
  refine (backward_any _ A2 n c2).mono ?_
  rintro e wB ⟨rfl, eB⟩
  obtain ⟨bs, ebs⟩ : ∃ b, b = w1.heap.size := ⟨_, rfl⟩
  have MB : MI wB w1.heap.size (w1.heap.size + 1 + 1) (w1.heap.size + 1 + 1 + 1) (w1.heap.size + 1) A1 c1 r q [] wB ∧ Boxed wB (w1.heap.size + 1 + 1 + 1 + 1) 64 (.slice A2 n c2) ∧ Below w1.heap.size w1 wB ∧ wB.heap.size = w1.heap.size + 5 := by
    rw [eB]
    have x6 := ((((Boxed.new w1 64 (.slice A1 q c1)).alloc (.cells (madeCells #[.int .i64 0, .int .i64 0] ((n - q) * 2)) 109)).alloc (.cells #[.slice (some ⟨w1.heap.size + 1, 0, none⟩) 0 (n - q)] 105)).alloc (.cells #[.int .i64 (-1)] 3)).alloc (.cells #[.slice A2 n c2] 64)
    have rg := World.rowIs_alloc (w1.alloc (.cells #[.slice A1 q c1] 64)) (madeCells #[.int .i64 0, .int .i64 0] ((n - q) * 2)) 109 (fun _ => .int .i64 0) (fun j hj => by
      rw [size_madeCells] at hj
      have h2 : j % 2 = 0 ∨ j % 2 = 1 := by omega
      rcases h2 with h | h <;> simp [madeCells, hj, h])
    have rg2 := row_alloc (row_alloc (row_alloc rg (.cells #[.slice (some ⟨w1.heap.size + 1, 0, none⟩) 0 (n - q)] 105)) (.cells #[.int .i64 (-1)] 3)) (.cells #[.slice A2 n c2] 64)
    have x8 := ((Boxed.new ((w1.alloc (.cells #[.slice A1 q c1] 64)).alloc (.cells (madeCells #[.int .i64 0, .int .i64 0] ((n - q) * 2)) 109)) 105 (.slice (some ⟨w1.heap.size + 1, 0, none⟩) 0 (n - q))).alloc (.cells #[.int .i64 (-1)] 3)).alloc (.cells #[.slice A2 n c2] 64)
    have x9 := (Boxed.new (((w1.alloc (.cells #[.slice A1 q c1] 64)).alloc (.cells (madeCells #[.int .i64 0, .int .i64 0] ((n - q) * 2)) 109)).alloc (.cells #[.slice (some ⟨w1.heap.size + 1, 0, none⟩) 0 (n - q)] 105)) 3 (.int .i64 (-1))).alloc (.cells #[.slice A2 n c2] 64)
    have xs := Boxed.new ((((w1.alloc (.cells #[.slice A1 q c1] 64)).alloc (.cells (madeCells #[.int .i64 0, .int .i64 0] ((n - q) * 2)) 109)).alloc (.cells #[.slice (some ⟨w1.heap.size + 1, 0, none⟩) 0 (n - q)] 105)).alloc (.cells #[.int .i64 (-1)] 3)) 64 (.slice A2 n c2)
    simp only [World.size_alloc, size_madeCells] at rg2 x8 x9 xs
    refine ⟨⟨x6, x9, ⟨_, n - q, x8, .inr ⟨Nat.zero_le _, _, _, rfl, Nat.le_refl _, rg2, fun j hj => absurd hj (by simp [mst])⟩, fun k hk => by injection hk with hk; exact .inl hk.symm⟩, Kz.refl _ _ _⟩, xs, ?_, by simp⟩
    exact (((((Below.refl _ w1).alloc (Nat.le_refl _) _).alloc (by simp) _).alloc (by simp; omega) _).alloc (by simp; omega) _).alloc (by simp; omega) _
  obtain ⟨M0, XS, BB, SZ⟩ := MB
  have XS := Lib.hid XS
  have M0 := Lib.hid M0
  have SZ' := Lib.hid SZ
  clear eB mk SZ
  go_wp2_with fail
  have SZ := SZ'.out
  obtain ⟨B, eBs⟩ : ∃ B, B = w1.heap.size := ⟨_, rfl⟩
  have lB : w.heap.size ≤ w1.heap.size := B1.out.size
  refine (wpIn_wide (n := 8)).1 ?_
  refine wpIn_rangeFunc_ownH (F := Fence.wide) (n := 8) rfl (by omega) (gf := 104) (lb := #[.pointer (some ⟨w1.heap.size + 1 + 1 + 1 + 1, 0, none⟩)]) (by simp [go_sem]; done) trivial (enters_of Tryz.func104 (by kernel_rfl) rfl)
    (encs := encB) (Kp := Kz wB.heap.size (fun b => b = w1.heap.size ∨ b = w1.heap.size + 1 + 1 ∨ b = w1.heap.size + 1 + 1 + 1 ∨ b = w1.heap.size + 1)) (S := fun ys => ys = bk m n n) (Sp := fun _ => True) (N := n) (w0 := wB)
    (fun l J Jx W hW hJ _ hY h0 => backward1_in 7 (by omega) l (w1.heap.size + 1 + 1 + 1 + 1) wB.heap.size _ A2 n c2 m hn (by omega) (by omega) J Jx hY W ((hW.cell (p := ⟨w1.heap.size + 1 + 1 + 1 + 1, 0, none⟩) (by show w1.heap.size + 1 + 1 + 1 + 1 < _; omega)).trans XS.out.cell)
      (fun h => by
        obtain ⟨b, o, e, hb, hc⟩ := H2.out h
        exact ⟨b, o, e, by omega, by omega, fun j hj => (hW.cell (p := ⟨b, o + j, none⟩) (by show b < _; omega)).trans ((BB.cell (p := ⟨b, o + j, none⟩) (by show b < _; omega)).trans ((B1.out.cell (p := ⟨b, o + j, none⟩) hb).trans (hc j hj)))⟩) h0)
    (fun h k => h.trans k) (fun W l o o' hl h h1 h2 => Kz.of_below (belowK_b (w := wB) (Nat.le_refl _) W l o o' hl h h1 h2)) (Below.refl _ _) (fun _ => rfl)
    (fun pre W => MI wB w1.heap.size (w1.heap.size + 1 + 1) (w1.heap.size + 1 + 1 + 1) (w1.heap.size + 1) A1 c1 r q pre W) (fun _ _ _ => False) (MI.own _ _ _ _ _ _ _ _ _) (fun _ _ _ _ _ hs _ _ => hs)
    M0.out
    (fun x a' W => a' = { tmps := #[.slice A n c, .slice A2 n c2, undef, undef, .slice none 0 0, .int .i64 0, .pointer (some ⟨w1.heap.size, 0, none⟩), .int .i64 0, .pointer (some ⟨w1.heap.size + 1 + 1, 0, none⟩), .pointer (some ⟨w1.heap.size + 1 + 1 + 1, 0, none⟩), .int .i64 x.1, .int .i64 x.2, undef,
      .tuple #[.slice A1 q c1, .int .i64 0], .slice A n c, .slice A2 n c2, .tuple #[.slice A1 q c1, .int .i64 0], .slice A1 q c1, .int .i64 0, .int .i64 0, .bool false, .bool false, .slice A1 q c1, .int .i64 q, .slice A2 n c2, .int .i64 n, .bool false, .bool false, undef, .slice A2 n c2, .int .i64 n, .slice A1 q c1, .int .i64 q, .int .i64 ((n : Int) - q),
      .slice (some ⟨w1.heap.size + 1, 0, none⟩) 0 (n - q), .slice A2 n c2, .func (.func 104) #[] #[.pointer (some ⟨w1.heap.size + 1 + 1 + 1 + 1, 0, none⟩)], .int .i64 x.1, .int .i64 x.2,
      undef, undef, undef, undef, undef, undef, undef, undef, undef, undef, undef, undef, undef, undef, undef, undef, undef, undef, undef, undef, undef, undef, undef, undef, undef], defers := [] })
    (fun x a' _ X Y row hs hg hr => hs)
    ?assign ?body ?done ?stop
  case assign =>
    rintro l pre x W K hM hK
    simp only [encB]
    gi_wp2
    exact hK _ _ (KeepsFrom.refl _ _) (Kz.refl _ _ _) hM rfl
  case body =>
    rintro l pre x a' W hl ⟨r', hr'⟩ hM rfl hlt
    clear hr'
    dsimp only
    obtain ⟨i, v⟩ := x
    obtain ⟨Ao, co, y1, y2, y3⟩ := hM.x8
    have x6 := hM.x6
    have x9 := hM.x9
    have KZ := Lib.hid hM.kz
    have hbd := mst_bd r q pre
    obtain ⟨⟨q', O, av⟩, ep⟩ : ∃ s, s = mst r q pre := ⟨_, rfl⟩
    have em : Hid (mst r q (pre ++ [(i, v)]) = mstep r (q', O, av) (i, v)) := by show _ = _; rw [mst_snoc, ← ep]
    rw [← ep] at y1 y2 x6 x9 hbd
    dsimp only at y1 y2 x6 x9 hbd
    clear hM ep
    obtain ⟨hb1, hb2⟩ := hbd
    have c6 := x6.cell
    have f6 := x6.frozen
    have c8 := y1.cell
    have f8 := y1.frozen
    have c9 := x9.cell
    have f9 := x9.frozen
    have l6 := x6.lt
    have l8 := y1.lt
    have l9 := x9.lt
    have n68 : ¬ w1.heap.size = w1.heap.size + 1 + 1 := by omega
    have n69 : ¬ w1.heap.size = w1.heap.size + 1 + 1 + 1 := by omega
    have n89 : ¬ w1.heap.size + 1 + 1 = w1.heap.size + 1 + 1 + 1 := by omega
    have n86 : ¬ w1.heap.size + 1 + 1 = w1.heap.size := by omega
    have n96 : ¬ w1.heap.size + 1 + 1 + 1 = w1.heap.size := by omega
    have n98 : ¬ w1.heap.size + 1 + 1 + 1 = w1.heap.size + 1 + 1 := by omega
    have PUT : ∀ (W2 : World) (A' : Option Addr) (c' : Nat), Fr (fun b => Ao.map (·.block) = some b) W W2 → Own W2 (w1.heap.size + 1) 109 2 (O.length + 1) c' A' (fun j => if j < O.length * 2 then spf O j else if j = O.length * 2 then .int .i64 v else .int .i64 av) → (A' = Ao ∨ ∃ g, A' = some ⟨g, 0, none⟩ ∧ W.heap.size ≤ g) → (¬ (0 < q' ∧ ((r (q' - 1) : Nat) : Int) = i)) →
        KeepsFrom wB.heap.size W ((W2.setCell ⟨w1.heap.size + 1 + 1, 0, none⟩ (.slice A' (O.length + 1) c')).setCell ⟨w1.heap.size + 1 + 1 + 1, 0, none⟩ (.int .i64 v)) ∧ Kz wB.heap.size (fun b => b = w1.heap.size ∨ b = w1.heap.size + 1 + 1 ∨ b = w1.heap.size + 1 + 1 + 1 ∨ b = w1.heap.size + 1) W ((W2.setCell ⟨w1.heap.size + 1 + 1, 0, none⟩ (.slice A' (O.length + 1) c')).setCell ⟨w1.heap.size + 1 + 1 + 1, 0, none⟩ (.int .i64 v)) ∧
        MI wB w1.heap.size (w1.heap.size + 1 + 1) (w1.heap.size + 1 + 1 + 1) (w1.heap.size + 1) A1 c1 r q (pre ++ [(i, v)]) ((W2.setCell ⟨w1.heap.size + 1 + 1, 0, none⟩ (.slice A' (O.length + 1) c')).setCell ⟨w1.heap.size + 1 + 1 + 1, 0, none⟩ (.int .i64 v)) := by
      intro W2 A' c' fr O2 ha hno
      have hAo : ∀ k, Ao.map (·.block) = some k → k ≠ w1.heap.size ∧ k ≠ w1.heap.size + 1 + 1 ∧ k ≠ w1.heap.size + 1 + 1 + 1 := fun k hk => by rcases y3 k hk with h | h <;> omega
      have hA' : ∀ k, A'.map (·.block) = some k → k = w1.heap.size + 1 ∨ wB.heap.size ≤ k := fun k hk => by
        rcases ha with rfl | ⟨g, rfl, hg⟩
        · exact y3 k hk
        · injection hk with hk
          have := KZ.out.size
          right; show wB.heap.size ≤ k; rw [← hk]; show wB.heap.size ≤ g; omega
      have z6 : Boxed W2 w1.heap.size 64 (.slice A1 q' c1) := (fr.block _ l6 (fun e => (hAo _ e).1 rfl)).trans x6
      have z8 : Boxed W2 (w1.heap.size + 1 + 1) 105 (.slice Ao O.length co) := (fr.block _ l8 (fun e => (hAo _ e).2.1 rfl)).trans y1
      have z9 : Boxed W2 (w1.heap.size + 1 + 1 + 1) 3 (.int .i64 av) := (fr.block _ l9 (fun e => (hAo _ e).2.2 rfl)).trans x9
      have F2 : Fr (fun b => (b = w1.heap.size + 1 + 1 ∨ b = w1.heap.size + 1 + 1 + 1) ∨ Ao.map (·.block) = some b) W ((W2.setCell ⟨w1.heap.size + 1 + 1, 0, none⟩ (.slice A' (O.length + 1) c')).setCell ⟨w1.heap.size + 1 + 1 + 1, 0, none⟩ (.int .i64 v)) :=
        Fr.setCell (S := fun b => (b = w1.heap.size + 1 + 1 ∨ b = w1.heap.size + 1 + 1 + 1) ∨ Ao.map (·.block) = some b) (Fr.setCell (S := fun b => (b = w1.heap.size + 1 + 1 ∨ b = w1.heap.size + 1 + 1 + 1) ∨ Ao.map (·.block) = some b) (fr.mono fun b h => .inr h) (p := ⟨w1.heap.size + 1 + 1, 0, none⟩) (.inl (.inl rfl)) _) (p := ⟨w1.heap.size + 1 + 1 + 1, 0, none⟩) (.inl (.inr rfl)) _
      have KF : Kz wB.heap.size (fun b => b = w1.heap.size ∨ b = w1.heap.size + 1 + 1 ∨ b = w1.heap.size + 1 + 1 + 1 ∨ b = w1.heap.size + 1) W ((W2.setCell ⟨w1.heap.size + 1 + 1, 0, none⟩ (.slice A' (O.length + 1) c')).setCell ⟨w1.heap.size + 1 + 1 + 1, 0, none⟩ (.int .i64 v)) :=
        Kz.of_fr F2 KZ.out.size fun b hb => by
          rcases hb with (h | h) | h
          · exact .inl (.inr (.inl h))
          · exact .inl (.inr (.inr (.inl h)))
          · rcases y3 b h with h | h
            · exact .inl (.inr (.inr (.inr h)))
            · exact .inr h
      have KW : KeepsFrom wB.heap.size W ((W2.setCell ⟨w1.heap.size + 1 + 1, 0, none⟩ (.slice A' (O.length + 1) c')).setCell ⟨w1.heap.size + 1 + 1 + 1, 0, none⟩ (.int .i64 v)) :=
        ⟨F2.size, fun k o hk ho hc => (F2.block k (Array.getElem?_eq_some_iff.1 ho).1 (fun h => by
          rcases h with (h | h) | h
          · omega
          · omega
          · rcases y2 with ⟨e, _⟩ | ⟨_, g, F', e, _, row, _⟩
            · rw [e] at h; cases h
            · rw [e] at h
              injection h with h
              obtain ⟨cs, e1, _⟩ := row
              rw [show g = k from h] at e1
              rw [e1] at ho
              cases ho
              cases hc)).trans ho⟩
      refine ⟨KW, KF, ?_, ?_, ?_, KZ.out.trans KF⟩
      · rw [em.out]; unfold mstep; rw [if_neg hno]
        exact (z6.other (by omega) _).other (by omega) _
      · rw [em.out]; unfold mstep; rw [if_neg hno]
        exact (z9.other (by omega) _).set _
      · rw [em.out]; unfold mstep; rw [if_neg hno]
        refine ⟨A', c', ?_, ?_, hA'⟩
        · show Boxed _ _ _ (.slice A' (O ++ [(v, av)]).length c')
          rw [List.length_append]
          exact (z8.set _).other (by omega) _
        · show Own _ _ _ _ (O ++ [(v, av)]).length _ _ (spf (O ++ [(v, av)]))
          rw [List.length_append]
          have hA'' : ∀ k, A'.map (·.block) = some k → k ≠ w1.heap.size + 1 + 1 ∧ k ≠ w1.heap.size + 1 + 1 + 1 := fun k hk => by rcases hA' k hk with h | h <;> omega
          refine Own.fr (S := fun b => b = w1.heap.size + 1 + 1 ∨ b = w1.heap.size + 1 + 1 + 1) (O2.congr fun j hj => spf_push1 j hj) (Fr.setCell (S := fun b => b = w1.heap.size + 1 + 1 ∨ b = w1.heap.size + 1 + 1 + 1) (Fr.setCell (S := fun b => b = w1.heap.size + 1 + 1 ∨ b = w1.heap.size + 1 + 1 + 1) (Fr.refl _ _) (p := ⟨w1.heap.size + 1 + 1, 0, none⟩) (.inl rfl) _) (p := ⟨w1.heap.size + 1 + 1 + 1, 0, none⟩) (.inr rfl) _) (fun b hb h => ?_)
          have := hA'' b hb
          rcases h with h | h
          · exact this.1 h
          · exact this.2 h
    have PUT := Lib.hid PUT
    obtain ⟨A2', c2', w2, run, O2, fr, ha, _⟩ := push_step W (w1.heap.size + 1) y2 (by omega) v av (by omega)
    have RUN := Lib.hid run
    have OO := Lib.hid O2
    have FF := Lib.hid fr
    have HA := Lib.hid ha
    obtain ⟨nO, enO⟩ : ∃ k, k = O.length := ⟨_, rfl⟩
    have ENO := Lib.hid enO
    rw [← enO] at c8 RUN
    have Z : Hid (∀ (W2 : World), Fr (fun b => Ao.map (·.block) = some b) W W2 → W2.cell? ⟨w1.heap.size + 1 + 1, 0, none⟩ = some (.slice Ao nO co) ∧ W2.frozen? ⟨w1.heap.size + 1 + 1, 0, none⟩ = false ∧ W2.cell? ⟨w1.heap.size + 1 + 1 + 1, 0, none⟩ = some (.int .i64 av) ∧ W2.frozen? ⟨w1.heap.size + 1 + 1 + 1, 0, none⟩ = false) := fun W2 fr => by
      have hAo : ∀ k, Ao.map (·.block) = some k → k ≠ w1.heap.size ∧ k ≠ w1.heap.size + 1 + 1 ∧ k ≠ w1.heap.size + 1 + 1 + 1 := fun k hk => by rcases y3 k hk with h | h <;> omega
      have z8 : Boxed W2 (w1.heap.size + 1 + 1) 105 (.slice Ao O.length co) := (fr.block _ l8 (fun e => (hAo _ e).2.1 rfl)).trans y1
      have z9 : Boxed W2 (w1.heap.size + 1 + 1 + 1) 3 (.int .i64 av) := (fr.block _ l9 (fun e => (hAo _ e).2.2 rfl)).trans x9
      rw [ENO.out]
      exact ⟨z8.cell, z8.frozen, z9.cell, z9.frozen⟩
    cases q' with
    | zero =>
      clear run O2 fr ha y1 y2 y3 enO x6 x9
      gi_wp2_with (gi_at_builtin; refine Hid.out ?_)
      refine Lib.hid (wpListIn_append_run _ rfl _ _ _ _ rfl _ _ rfl rfl _ _ (RUN.out _) ?_)
      obtain ⟨u1, u2, u3, u4⟩ := Z.out w2 FF.out
      gi_wp2_with fail
      have FIN := PUT.out w2 A2' c2' FF.out OO.out HA.out (by omega)
      rw [← ENO.out] at FIN
      exact FIN
    | succ p =>
      have hk : ∃ b o, A1 = some ⟨b, o, none⟩ ∧ W.cell? ⟨b, o + p, none⟩ = some (.int .i64 (r p)) := by
        obtain ⟨b, o, e, hb, hc⟩ := K3.out.at_ (k := p) (by omega)
        refine ⟨b, o, e, ?_⟩
        rw [i64s_at] at hc
        exact (KZ.out.cell (p := ⟨b, o + p, none⟩) (by show b < _; omega) (by show ¬ (b = w1.heap.size ∨ b = w1.heap.size + 1 + 1 ∨ b = w1.heap.size + 1 + 1 + 1 ∨ b = w1.heap.size + 1); omega)).trans ((BB.cell (p := ⟨b, o + p, none⟩) hb).trans hc)
      obtain ⟨b, o, eA, ck⟩ := hk
      have hpi : (p : Int) < (p : Int) + 1 := by omega
      have hp0 : (0 : Int) < (p : Int) + 1 := by omega
      by_cases hri : ((r p : Nat) : Int) = i
      · have hsl : ∀ wx, (Instr.sliceAt 64 (.slice A1 (p + 1) c1) none (some (.int .i64 p)) none).run Tryz.prog wx = .ok (.slice A1 p c1) wx := fun wx => by
          have hb : ∀ wx, (Instr.sliceBounds true (p + 1) c1 none (some (.int .i64 p)) none).run Tryz.prog wx = .ok (0, p, c1) wx := slice_bounds_h p c1 (p + 1) (by omega)
          have := slice_of_bounds (P := Tryz.prog) (sz := 1) Tryz.underlying64 szInt' A1 (p + 1) c1 none (some (.int .i64 p)) none hb wx
          rw [subA_zero] at this
          exact this
        have FIN : Hid (KeepsFrom wB.heap.size W ((W.setCell ⟨w1.heap.size, 0, none⟩ (.slice A1 p c1)).setCell ⟨w1.heap.size + 1 + 1 + 1, 0, none⟩ (.int .i64 v)) ∧ Kz wB.heap.size (fun b => b = w1.heap.size ∨ b = w1.heap.size + 1 + 1 ∨ b = w1.heap.size + 1 + 1 + 1 ∨ b = w1.heap.size + 1) W ((W.setCell ⟨w1.heap.size, 0, none⟩ (.slice A1 p c1)).setCell ⟨w1.heap.size + 1 + 1 + 1, 0, none⟩ (.int .i64 v)) ∧
            MI wB w1.heap.size (w1.heap.size + 1 + 1) (w1.heap.size + 1 + 1 + 1) (w1.heap.size + 1) A1 c1 r q (pre ++ [(i, v)]) ((W.setCell ⟨w1.heap.size, 0, none⟩ (.slice A1 p c1)).setCell ⟨w1.heap.size + 1 + 1 + 1, 0, none⟩ (.int .i64 v))) := by
          have F2 : Fr (fun b => b = w1.heap.size ∨ b = w1.heap.size + 1 + 1 + 1) W ((W.setCell ⟨w1.heap.size, 0, none⟩ (.slice A1 p c1)).setCell ⟨w1.heap.size + 1 + 1 + 1, 0, none⟩ (.int .i64 v)) :=
            Fr.setCell (S := fun b => b = w1.heap.size ∨ b = w1.heap.size + 1 + 1 + 1) (Fr.setCell (S := fun b => b = w1.heap.size ∨ b = w1.heap.size + 1 + 1 + 1) (Fr.refl _ _) (p := ⟨w1.heap.size, 0, none⟩) (.inl rfl) _) (p := ⟨w1.heap.size + 1 + 1 + 1, 0, none⟩) (.inr rfl) _
          have KF : Kz wB.heap.size (fun b => b = w1.heap.size ∨ b = w1.heap.size + 1 + 1 ∨ b = w1.heap.size + 1 + 1 + 1 ∨ b = w1.heap.size + 1) W _ := Kz.of_fr F2 KZ.out.size fun b hb => by
            rcases hb with h | h
            · exact .inl (.inl h)
            · exact .inl (.inr (.inr (.inl h)))
          have hAo : ∀ k, Ao.map (·.block) = some k → k ≠ w1.heap.size ∧ k ≠ w1.heap.size + 1 + 1 ∧ k ≠ w1.heap.size + 1 + 1 + 1 := fun k hk => by rcases y3 k hk with h | h <;> omega
          have ep : mstep r (p + 1, O, av) (i, v) = (p, O, v) := by
            unfold mstep
            rw [if_pos ⟨by show 0 < p + 1; omega, by show ((r (p + 1 - 1) : Nat) : Int) = i; rw [Nat.add_sub_cancel]; exact hri⟩]
            show (p + 1 - 1, O, v) = _
            rw [Nat.add_sub_cancel]
          refine ⟨⟨F2.size, fun k o hk ho hc => (F2.block k (Array.getElem?_eq_some_iff.1 ho).1 (fun h => by omega)).trans ho⟩, KF, ?_, ?_, ?_, KZ.out.trans KF⟩
          · rw [em.out, ep]
            exact (x6.set _).other (by omega) _
          · rw [em.out, ep]
            exact (x9.other (by omega) _).set _
          · rw [em.out, ep]
            refine ⟨Ao, co, (y1.other (by omega) _).other (by omega) _, Own.fr y2 F2 (fun b hb h => ?_), y3⟩
            have := hAo b hb
            rcases h with h | h
            · exact this.1 h
            · exact this.2.2 h
        clear run O2 fr ha y1 y2 y3 enO x6 x9 PUT
        subst eA
        generalize r p = rp at *
        subst hri
        gi_wp2_with fail
        exact FIN.out
      · have hno : ¬ (0 < p + 1 ∧ ((r (p + 1 - 1) : Nat) : Int) = i) := by rw [Nat.add_sub_cancel]; exact fun h => hri h.2
        have HNO := Lib.hid hno
        clear run O2 fr ha y1 y2 y3 enO x6 x9 hno
        subst eA
        generalize r p = rp at *
        gi_wp2_with (gi_at_builtin; refine Hid.out ?_)
        refine Lib.hid (wpListIn_append_run _ rfl _ _ _ _ rfl _ _ rfl rfl _ _ (RUN.out _) ?_)
        obtain ⟨u1, u2, u3, u4⟩ := Z.out w2 FF.out
        gi_wp2_with fail
        have FIN := PUT.out w2 A2' c2' FF.out OO.out HA.out HNO.out
        rw [← ENO.out] at FIN
        exact FIN
  case done =>
    rintro D ys W hD rfl hM hK
    obtain ⟨Ao, co, y1, y2, y3⟩ := hM.x8
    have c8 := y1.cell
    have KZ := Lib.hid hM.kz
    have HK := Lib.hid hK
    have OO := Lib.hid y2
    have lD := (Array.getElem?_eq_some_iff.1 hK).1
    obtain ⟨O, eO⟩ : ∃ O, O = (mst r q (bk m n n)).2.1 := ⟨_, rfl⟩
    rw [← eO] at c8 OO
    have EO := Lib.hid eO
    clear hM hK y1 y2 y3 eO
    go_wp2_with fail
    refine ⟨by simp, .inl ⟨_, _, rfl, run_takeDeferred HK.out, ?_⟩⟩
    have FW : Fr (fun b => (b = w1.heap.size ∨ b = w1.heap.size + 1 + 1 ∨ b = w1.heap.size + 1 + 1 + 1 ∨ b = w1.heap.size + 1) ∨ wB.heap.size ≤ b) wB W := ⟨KZ.out.os, KZ.out.tape, KZ.out.output, KZ.out.size, fun k hk hn => KZ.out.block k hk (fun h => hn (.inl h))⟩
    have BW : Below w.heap.size w W := B1.out.trans ((BB.mono (by omega)).trans (FW.below (by omega) (fun b h => by omega)))
    have FD : Fr (fun b => b = D) W (W.putObj D (.deferred none)) := ⟨rfl, rfl, rfl, by simp [World.putObj], fun k _ hn => World.putObj_heap_other (fun e => hn e)⟩
    have SW : Sees (W.putObj D (.deferred none)) (W.putObj D (.deferred none)).heap.size Ao (O.length * 2) (spf O) := by
      refine Own.sees (B := w1.heap.size + 1) (e := 109) (c := co) (Own.fr OO.out FD (fun b hb h => ?_))
      rcases OO.out with ⟨e, _⟩ | ⟨_, g, F', e, _, row, _⟩
      · rw [e] at hb; cases hb
      · rw [e] at hb
        injection hb with hb
        obtain ⟨cs, e1, _⟩ := row
        have e2 := HK.out
        rw [← h, ← show g = b from hb, e1] at e2
        cases e2
    refine ⟨.tuple #[.slice Ao O.length co, .int .i64 0], ?_, q, r, O, Ao, co, rfl, K1.out, .inl EO.out, SW, BW.trans (FD.below (by omega) (fun b h => by omega))⟩
    simp [results, Tryz.results43, go_sem]
  case stop =>
    rintro D c pre W _ _ h _
    exact h.elim
end Go.Proofs.YtfmfmeiaekknbaaGreatDoor
end

section
/-
  The last examples of live11: tops, a rope, a Fenwick tree, flags, spans and moves.
-/
namespace Go.Proofs.YtfmfmeiaekknbaaGreatDoor
open Go.RowKit
set_option linter.unusedVariables false
set_option linter.unusedSimpArgs false

abbrev tL3 : List Int := [10, 4, 3]
theorem tL3_fits : ∀ x ∈ tL3, Fits x := by
  intro x hx
  simp only [tL3, List.mem_cons, List.not_mem_nil, or_false] at hx
  rcases hx with rfl | rfl | rfl <;> exact ⟨by decide, by decide⟩
theorem tm6 (W : World) (A : Option Addr) (h : SeesL W W.heap.size A tL3) : Calls Tryz.prog 40 #[.slice A 3 3] W fun e w' => ∃ g, e = .returned (.tuple #[.slice (some ⟨g, 0, none⟩) 4 4, .int .i64 0]) ∧ w'.rowIs g 2 4 (i64s (psum (lf tL3))) ∧ Below W.heap.size W w' :=
  (tops_any A 3 3 (lf tL3) W h (lf_fits tL3_fits) (by omega)).mono fun e w' hp => by
    rcases hp with ⟨_, g, h1, h2, h3, h4⟩ | ⟨h, _⟩
    · exact ⟨g, h1, h2, h4⟩
    · exact absurd (show chk (lf tL3) 3 = 0 by decide) h
theorem tm7 (W : World) (A : Option Addr) (h : SeesL W W.heap.size A tL3) : Calls Tryz.prog 41 #[.slice A 3 3] W fun e w' => ∃ a, e = .returned (.tuple #[.agg #[.pointer a], .int .i64 0]) ∧ Rp w' a tL3 ∧ Below W.heap.size W w' :=
  (of_any W A 3 W.heap.size tL3 h (Nat.le_refl _) (Nat.le_refl _) (by unfold maxLen; decide) (by decide) tL3_fits).mono fun e w' hp => by
    have : chkL tL3 = 0 := by decide
    rw [this] at hp
    exact hp
theorem tm8 (W : World) (A : Option Addr) (h : SeesL W W.heap.size A tL3) : Calls Tryz.prog 42 #[.slice A 3 3] W (FNewPost W 3 (lf tL3)) :=
  fnew_ok A 3 3 (lf tL3) W h (lf_fits tL3_fits) (by decide)
theorem tm10 (W : World) (b : Nat) (hb : b < W.heap.size) (h0 : W.cell? ⟨b, 0, none⟩ = some (.int .i64 1)) (h1 : W.cell? ⟨b, 1, none⟩ = some (.int .i64 2)) : Calls Tryz.prog 24 #[.slice (some ⟨b, 0, none⟩) 2 2] W fun e w' => ∃ A, e = .returned (.tuple #[.slice A 1 1, .int .i64 0]) ∧ SeesP w' w'.heap.size A [(1, 3)] ∧ Below W.heap.size W w' :=
  (sof_any W (some ⟨b, 0, none⟩) 2 [1, 2] (.inr ⟨b, 0, 2, rfl, hb, fun j hj => by
    have : j = 0 ∨ j = 1 := by simp at hj; omega
    rcases this with rfl | rfl
    · exact h0
    · exact h1⟩) (by decide) (by
    intro x hx
    simp only [List.mem_cons, List.not_mem_nil, or_false] at hx
    rcases hx with rfl | rfl <;> exact ⟨by decide, by decide⟩)).mono fun e w' hp => by
    rcases hp with ⟨⟨x, hx, hc⟩, _⟩ | ⟨_, R, hN, hm, hp⟩
    · exfalso
      simp only [List.mem_cons, List.not_mem_nil, or_false] at hx
      rcases hx with rfl | rfl <;> omega
    · have e : R = [(1, 3)] := NFfrom.unique hN (show NF [(1, 3)] from ⟨by omega, by omega, by omega, trivial⟩) fun i => by
        rw [hm, memS_cons]
        have := memS_nil i
        simp only [List.mem_cons, List.not_mem_nil, or_false, this]
        omega
      subst e
      exact hp
def tA (j : Nat) : Int := if j = 0 then 7 else if j = 1 then 8 else 9
def tBf (j : Nat) : Int := if j = 0 then 8 else if j = 1 then 9 else 7
def tPos (j : Nat) : Nat := if j = 0 then 1 else if j = 1 then 2 else 0
theorem tm11 (W : World) (A A2 : Option Addr) (h : Sees W W.heap.size A 3 (i64s tA)) (h2 : Sees W W.heap.size A2 3 (i64s tBf)) : Calls Tryz.prog 43 #[.slice A 3 3, .slice A2 3 3] W fun e w' => ∃ A' c', e = .returned (.tuple #[.slice A' 1 c', .int .i64 0]) ∧ Sees w' w'.heap.size A' 2 (spf [(7, -1)]) ∧ Below W.heap.size W w' :=
  (moves_ok W A A2 3 3 3 tA tBf tPos h h2 (by omega) ⟨⟨fun i hi => by
      have : i = 0 ∨ i = 1 ∨ i = 2 := by omega
      rcases this with rfl | rfl | rfl <;> decide, fun i j hi hj => by
      have : i = 0 ∨ i = 1 ∨ i = 2 := by omega
      have : j = 0 ∨ j = 1 ∨ j = 2 := by omega
      rcases ‹i = 0 ∨ i = 1 ∨ i = 2› with rfl | rfl | rfl <;> rcases ‹j = 0 ∨ j = 1 ∨ j = 2› with rfl | rfl | rfl <;> decide⟩, ⟨fun i hi => by
      have : i = 0 ∨ i = 1 ∨ i = 2 := by omega
      rcases this with rfl | rfl | rfl <;> decide, fun i j hi hj => by
      have : i = 0 ∨ i = 1 ∨ i = 2 := by omega
      have : j = 0 ∨ j = 1 ∨ j = 2 := by omega
      rcases ‹i = 0 ∨ i = 1 ∨ i = 2› with rfl | rfl | rfl <;> rcases ‹j = 0 ∨ j = 1 ∨ j = 2› with rfl | rfl | rfl <;> decide⟩, fun i hi => by
      have : i = 0 ∨ i = 1 ∨ i = 2 := by omega
      rcases this with rfl | rfl | rfl <;> exact ⟨by decide, by decide⟩⟩).mono fun e w' hp => by
    obtain ⟨q, r, O, A', c', he, hl, hO, hs, hb⟩ := hp
    have hp0 : ∀ i : Nat, ((tPos i : Nat) : Int) = if i = 0 then 1 else if i = 1 then 2 else 0 := fun i => by
      unfold tPos
      split
      · rfl
      · split <;> rfl
    have h2 : 2 ≤ q := hl.best 2 (fun a => a) ⟨fun a ha => by show a < 3; omega, fun a ha => by show a < a + 1; omega, fun a ha => by
      have : a = 0 := by omega
      subst this
      show ((tPos 0 : Nat) : Int) < ((tPos 1 : Nat) : Int)
      decide⟩
    have l0 := hl.rise.lt 0 (by omega)
    have l1 := hl.rise.lt 1 (by omega)
    have u0 := hl.rise.up 0 (by omega)
    have n0 : ((tPos (r 0) : Nat) : Int) < ((tPos (r (0 + 1)) : Nat) : Int) := hl.rise.num 0 (by omega)
    rw [hp0, hp0] at n0
    have q2 : q = 2 := by
      rcases Nat.lt_or_ge 2 q with h | h
      · have l2 := hl.rise.lt 2 (by omega)
        have u1 := hl.rise.up 1 (by omega)
        have n1 : ((tPos (r 1) : Nat) : Int) < ((tPos (r (1 + 1)) : Nat) : Int) := hl.rise.num 1 (by omega)
        rw [hp0, hp0] at n1
        exfalso
        have e0 : r 0 = 0 := by simp only [Nat.zero_add, Nat.reduceAdd] at *; omega
        have e1 : r 1 = 1 := by simp only [Nat.zero_add, Nat.reduceAdd] at *; omega
        have e2 : r 2 = 2 := by simp only [Nat.zero_add, Nat.reduceAdd] at *; omega
        simp [e1, e2] at n1
      · omega
    subst q2
    simp only [Nat.zero_add] at u0 n0
    have e1 : r 1 = 1 ∧ r 0 = 0 := by
      have : r 1 = 1 ∨ r 1 = 2 := by omega
      rcases this with h | h
      · exact ⟨h, by omega⟩
      · exfalso
        rw [h] at n0
        have : r 0 = 0 ∨ r 0 = 1 := by omega
        rcases this with h' | h' <;> rw [h'] at n0 <;> simp at n0
    have eO : O = [(7, -1)] := by
      rcases hO with h | ⟨h, _⟩
      · rw [h]
        have eb : bk tBf 3 3 = [(2, 7), (1, 9), (0, 8)] := by decide
        rw [eb]
        simp [mst, mstep, e1.1, e1.2]
      · omega
    subst eO
    exact ⟨A', c', he, hs, hb⟩
/-- A slice one cell of which is no number of the flags lies outside them. -/
theorem sees_past {w w' : World} {B p n : Nat} {A : Option Addr} {f : Nat → Value} {l : List Bool} (h : Sees w B A n f) (hF : Fl w p l) (hB : B ≤ w.heap.size) (hf : Fr (fun b => b = p) w w') (k : Nat) (hk : k < n) (v : Int) (hv : f k = .int .i64 v) (h1 : v ≠ (l.length : Int)) (h2 : v ≠ (cn l : Int)) : Sees w' w'.heap.size A n f := by
  intro hn
  obtain ⟨b, o, e1, hb, hc⟩ := h hn
  have hbp : ¬ b = p := by
    rintro rfl
    have h0 := hc k hk
    rw [hv] at h0
    obtain ⟨cs, q1, q2, q3⟩ := hF.row
    have g0 : cs[o + k]? = some (.int .i64 v) := by simpa [World.cell?, q1] using h0
    have ho : o + k < 66 := by
      obtain ⟨q, _⟩ := Array.getElem?_eq_some_iff.1 g0
      omega
    have f0 := (q3 (o + k) ho).symm.trans g0
    unfold flc at f0
    by_cases c : o + k = 0
    · rw [if_pos c] at f0
      cases f0
      exact h1 rfl
    · rw [if_neg c] at f0
      by_cases c : o + k = 1
      · rw [if_pos c] at f0
        cases f0
        exact h2 rfl
      · rw [if_neg c] at f0
        cases f0
  exact ⟨b, o, e1, by have := hf.size; omega, fun j hj => (World.cell?_of_block (w := w) (hf.block b (by omega) hbp)).trans (hc j hj)⟩
theorem tm9 (W : World) (hT : Tab W) (hs : 0 < W.heap.size) : Calls Tryz.prog 6 #[.int .i64 3] W fun e w' => ∃ p, e = .returned (.tuple #[.pointer (some ⟨p, 0, none⟩), .int .i64 0]) ∧ Fl w' p (List.replicate 3 false) ∧ W.heap.size ≤ p ∧ Below W.heap.size W w' := fnew_any W hT hs 3 (by omega)
theorem tm12 (W : World) (p : Nat) (h : Fl W p (List.replicate 3 false)) : Calls Tryz.prog 9 #[.pointer (some ⟨p, 0, none⟩), .int .i64 1, .bool true] W fun e w' => e = .returned (.int .i64 0) ∧ Fl w' p [false, true, false] ∧ Fr (fun b => b = p) W w' := fSet_ok W p (List.replicate 3 false) h 1 (by decide) true
theorem tm13 (W : World) (p : Nat) (h : Fl W p [false, true, false]) : Calls Tryz.prog 13 #[.pointer (some ⟨p, 0, none⟩)] W fun e w' => e = .returned (.int .i64 1) ∧ W = w' := fcount_any W p [false, true, false] h
theorem tm14 (W : World) (A : Option Addr) (h : SeesP W W.heap.size A [(1, 3)]) : Calls Tryz.prog 12 #[.slice A 1 1] W fun e w' => e = .returned (.int .i64 2) ∧ Below W.heap.size W w' := scount_any W W.heap.size A 1 [(1, 3)] h (Nat.le_refl _) (fun s hs => by
  rw [List.mem_singleton.1 hs]
  exact ⟨⟨by decide, by decide⟩, ⟨by decide, by decide⟩⟩) (by decide)
theorem tm15 (W : World) (a : Option Addr) (h : Rp W a tL3) : Calls Tryz.prog 39 #[.agg #[.pointer a]] W fun e w' => e = .returned (.int .i64 17) ∧ Below W.heap.size W w' := rtotal_any W a tL3 h
theorem tm16 (W : World) (B p : Nat) (h : Fen W B p 3 (lf tL3)) : Calls Tryz.prog 44 #[.pointer (some ⟨p, 0, none⟩)] W fun e w' => e = .returned (.int .i64 17) ∧ W = w' := ftotal_any W B p 3 (lf tL3) h
theorem tm17 (W : World) : Calls Tryz.prog 24 #[.slice (some ⟨W.heap.size, 0, none⟩) 2 2] (W.alloc (.cells #[.int .i64 1, .int .i64 2] 3)) fun e w' => ∃ A, e = .returned (.tuple #[.slice A 1 1, .int .i64 0]) ∧ SeesP w' w'.heap.size A [(1, 3)] ∧ Below W.heap.size W w' := by
  have RW := World.rowIs_alloc W #[.int .i64 1, .int .i64 2] 3 (fun j => if j = 0 then .int .i64 1 else .int .i64 2) (fun j hj => by
    have : j = 0 ∨ j = 1 := by simp at hj; omega
    rcases this with rfl | rfl <;> rfl)
  refine (tm10 _ W.heap.size RW.lt (RW.cell (i := 0) (by simp)) (RW.cell (i := 1) (by simp))).mono fun e w' hp => ?_
  obtain ⟨A, h1, h2, h3⟩ := hp
  have b1 : Below W.heap.size W (W.alloc (.cells #[.int .i64 1, .int .i64 2] 3)) := (Below.refl _ W).alloc (Nat.le_refl _) _
  exact ⟨A, h1, h2, b1.trans (h3.mono b1.size)⟩
theorem litA (W : World) : Sees (W.alloc (.cells #[.int .i64 7, .int .i64 8, .int .i64 9] 3)) (W.alloc (.cells #[.int .i64 7, .int .i64 8, .int .i64 9] 3)).heap.size (some ⟨W.heap.size, 0, none⟩) 3 (i64s tA) := Sees.lit W #[.int .i64 7, .int .i64 8, .int .i64 9] 3 (i64s tA) 3 rfl (fun j hj => by
  have : j = 0 ∨ j = 1 ∨ j = 2 := by omega
  rcases this with rfl | rfl | rfl <;> rfl)
theorem litB (W : World) : Sees (W.alloc (.cells #[.int .i64 8, .int .i64 9, .int .i64 7] 3)) (W.alloc (.cells #[.int .i64 8, .int .i64 9, .int .i64 7] 3)).heap.size (some ⟨W.heap.size, 0, none⟩) 3 (i64s tBf) := Sees.lit W #[.int .i64 8, .int .i64 9, .int .i64 7] 3 (i64s tBf) 3 rfl (fun j hj => by
  have : j = 0 ∨ j = 1 ∨ j = 2 := by omega
  rcases this with rfl | rfl | rfl <;> rfl)
theorem tm18 (W : World) : Calls Tryz.prog 43 #[.slice (some ⟨W.heap.size, 0, none⟩) 3 3, .slice (some ⟨W.heap.size + 1, 0, none⟩) 3 3] ((W.alloc (.cells #[.int .i64 7, .int .i64 8, .int .i64 9] 3)).alloc (.cells #[.int .i64 8, .int .i64 9, .int .i64 7] 3)) fun e w' => ∃ A' c', e = .returned (.tuple #[.slice A' 1 c', .int .i64 0]) ∧ Sees w' w'.heap.size A' 2 (spf [(7, -1)]) ∧ Below W.heap.size W w' := by
  have b1 : Below W.heap.size W (W.alloc (.cells #[.int .i64 7, .int .i64 8, .int .i64 9] 3)) := (Below.refl _ W).alloc (Nat.le_refl _) _
  have b2 : Below (W.alloc (.cells #[.int .i64 7, .int .i64 8, .int .i64 9] 3)).heap.size (W.alloc (.cells #[.int .i64 7, .int .i64 8, .int .i64 9] 3)) ((W.alloc (.cells #[.int .i64 7, .int .i64 8, .int .i64 9] 3)).alloc (.cells #[.int .i64 8, .int .i64 9, .int .i64 7] 3)) := (Below.refl _ _).alloc (Nat.le_refl _) _
  have s2 := litB (W.alloc (.cells #[.int .i64 7, .int .i64 8, .int .i64 9] 3))
  have s1 := ((litA W).below b2).more b2.size
  have e : (W.alloc (.cells #[.int .i64 7, .int .i64 8, .int .i64 9] 3)).heap.size = W.heap.size + 1 := by rw [World.size_alloc]
  have b3 := b1.trans (b2.mono b1.size)
  clear b1 b2
  rw [show (some (⟨(W.alloc (.cells #[.int .i64 7, .int .i64 8, .int .i64 9] 3)).heap.size, 0, none⟩ : Addr)) = some ⟨W.heap.size + 1, 0, none⟩ by rw [e]] at s2
  refine (tm11 _ _ _ s1 s2).mono fun e w' hp => ?_
  obtain ⟨A, c, h1, h2, h3⟩ := hp
  exact ⟨A, c, h1, h2, b3.trans (h3.mono b3.size)⟩
end Go.Proofs.YtfmfmeiaekknbaaGreatDoor
end

section
/-
  The examples of the layers 1 to 11 hold (live11).
-/
namespace Go.Proofs.YtfmfmeiaekknbaaGreatDoor
open Go.RowKit
set_option linter.unusedVariables false
set_option linter.unusedSimpArgs false

theorem litT (w : World) (L : List Int) : SeesL (w.alloc (.cells ((L.map (fun x => Value.int .i64 x)).toArray) 2)) (w.alloc (.cells ((L.map (fun x => Value.int .i64 x)).toArray) 2)).heap.size (some ⟨w.heap.size, 0, none⟩) L :=
  Sees.lit w ((L.map (fun x => Value.int .i64 x)).toArray) 2 (i64s (lf L)) L.length (by simp) (fun j hj => by
    rw [List.getElem?_toArray, List.getElem?_map, List.getElem?_eq_getElem hj]
    show some (Value.int .i64 L[j]) = some (Value.int .i64 (lf L j))
    rw [lf_get L hj])
def tR0 : Rws := [(10, false), (10, false), (10, false)]
def tR1 : Rws := [(10, false), (10, false), (4, true)]
def tR2 : Rws := [(3, true), (10, false), (4, true)]
def tR3 : Rws := [(10, false), (4, true), (3, true)]
theorem tl1 (W : World) (A : Option Addr) (h : SeesL W W.heap.size A [10, 10, 10]) : Calls Tryz.prog 19 #[ixv none none 0, .int .i64 0, .slice A 3 3, .bool false] W (IPost W tR0 0) :=
  (iinsert_any W none none [] [] (Ix.new W) 0 A 3 W.heap.size [10, 10, 10] false ⟨by omega, by omega⟩ h (Nat.le_refl _) (Nat.le_refl _) (by unfold maxLen; decide) (by decide) (by unfold Fits; decide)).mono fun e w' hp => hp.cast (by decide) (by decide)
theorem tl2 (W : World) (a A : Option Addr) (S : Sp) (g : Ix W a A S tR0) : Calls Tryz.prog 34 #[ixv a A S.length, .int .i64 2, .int .i64 4, .bool true] W (IPost W tR1 0) :=
  (iset_any W a A S tR0 g 2 4 true ⟨by omega, by omega⟩ ⟨by omega, by omega⟩).mono fun e w' hp => hp.cast (by decide) (by decide)
theorem tl3 (W : World) (a A : Option Addr) (S : Sp) (g : Ix W a A S tR1) : Calls Tryz.prog 34 #[ixv a A S.length, .int .i64 0, .int .i64 3, .bool true] W (IPost W tR2 0) :=
  (iset_any W a A S tR1 g 0 3 true ⟨by omega, by omega⟩ ⟨by omega, by omega⟩).mono fun e w' hp => hp.cast (by decide) (by decide)
theorem tl4 (W : World) (a A : Option Addr) (S : Sp) (g : Ix W a A S tR2) : Calls Tryz.prog 35 #[ixv a A S.length, .int .i64 0, .int .i64 1, .int .i64 2] W (IPost W tR3 0) :=
  (imove_ok W a A S tR2 g 0 1 2 (by decide) (by decide)).mono fun e w' hp => hp.cast (by decide) rfl
/-- The keys. -/
def keyF (i : Nat) : Int := if i = 0 then 7 else if i = 1 then 8 else 9
/-- The values of the first k keys. -/
def tT : Nat → Int → Option Int
  | 0 => fun _ => none
  | k + 1 => tput (tT k) (keyF k) k
theorem rp_frS {w w' : World} {a : Option Addr} {L : List Int} {S : Nat → Prop} (h : Rp w a L) (hf : Fr S w w') (hS : ∀ b f, w.rowIs b 159 6 f → ¬ S b) : Rp w' a L := by
  obtain ⟨t, h1, h2, h3⟩ := h
  exact ⟨t, h1.stay fun b f hr => hf.block b hr.lt (hS b f hr), h2, h3⟩
def DepT (q : Nat) (a A : Option Addr) (S : Sp) : Prop := q = q ∧ a = a ∧ A = A ∧ S = S
/-- Behind a region with several orders: what they come to. -/
theorem wp_joinT {P : Program} {c : Code} {Q : Exit → Act → World → Prop} {a : Act} {w : World} {T : Nat → Option Addr → Option Addr → Sp → Act} (X : Nat → Option Addr → Option Addr → Sp → World → Prop)
    (h1 : c.wp P (fun e x y => e = .normal ∧ ∃ q a A S, x = T q a A S ∧ X q a A S y) a w) (h2 : ∀ q a A S y, X q a A S y → Q .normal (T q a A S) y) : c.wp P Q a w :=
  Code.wp_mono (fun e x y h => by
    obtain ⟨rfl, q, a, A, S, rfl, h⟩ := h
    exact h2 q a A S y h) h1
/-- An index variable of which the sizes matter alone. -/
structure YV (w : World) (q : Nat) (a A : Option Addr) (n : Nat) (L : List Int) : Prop where
  xv : XVar w q a A n
  rp : Rp w a L
theorem YV.below {w w' : World} {q n : Nat} {a A : Option Addr} {L : List Int} (h : YV w q a A n L) (hb : Below w.heap.size w w') : YV w' q a A n L := ⟨World.rowIs.of_block h.xv (hb.block q (World.rowIs.lt h.xv)), h.rp.below hb⟩
theorem YV.cells {w : World} {q n : Nat} {a A : Option Addr} {L : List Int} (h : YV w q a A n L) : w.cell? ⟨q, 0, none⟩ = some (.pointer a) ∧ w.cell? ⟨q, 1, none⟩ = some (.slice A n n) ∧ w.frozen? ⟨q, 0, none⟩ = false ∧ w.frozen? ⟨q, 1, none⟩ = false ∧ q < w.heap.size :=
  ⟨World.rowIs.cell h.xv (i := 0) (by omega), World.rowIs.cell h.xv (i := 1) (by omega), World.rowIs.frozen h.xv 0, World.rowIs.frozen h.xv 1, World.rowIs.lt h.xv⟩
/-- The rows of the index in the second loop. -/
def tRk (k : Nat) : Rws := if k = 0 then tR0 else if k = 1 then tR1 else tR2
set_option maxRecDepth 100000 in
set_option maxHeartbeats 12800000 in
theorem live11_yes (w : World) (hT : Tab w) (h0 : 0 < w.heap.size) : Calls Tryz.prog 17 #[] w fun e w' => e = .returned (.bool true) ∧ Below w.heap.size w w' := by
  have V0 := Lib.hid (LX.start (Below.refl _ w))
  have HTab := Lib.hid hT
  have HPos := Lib.hid h0
  clear hT h0
  go_enter Tryz.func17, Tryz.ntmps17
  go_wp2_with fail
  refine (new_any w).mono ?_
  rintro e w1 ⟨rfl, hb⟩
  have V1 := Lib.hid (V0.out.below hb)
  clear hb
  go_wp2_with fail
  refine (tl1 _ _ (litT w1 [10, 10, 10])).mono ?_
  rintro e w2 ⟨a2, A2, S2, rfl, q, hb⟩
  have V2 := Lib.hid (((V1.out.alloc (.cells #[.int .i64 10, .int .i64 10, .int .i64 10] 2)).below hb).cons q)
  clear hb q
  obtain ⟨bx, ebx⟩ : ∃ b, b = w2.heap.size := ⟨_, rfl⟩
  have V2' : Hid (LX w (ixw w2 a2 A2 S2.length) [(bx, a2, A2, S2, tR0)] []) := by rw [ebx]; exact V2.out
  have HS : Sees ((ixw w2 a2 A2 S2.length).alloc (.cells #[.int .u64 7, .int .u64 8, .int .u64 9] 58)) ((ixw w2 a2 A2 S2.length).alloc (.cells #[.int .u64 7, .int .u64 8, .int .u64 9] 58)).heap.size (some ⟨bx + 1, 0, none⟩) 3 (fun j => .int .u64 (keyF j)) := by
    have := Sees.lit (ixw w2 a2 A2 S2.length) #[.int .u64 7, .int .u64 8, .int .u64 9] 58 (fun j => .int .u64 (keyF j)) 3 rfl (fun j hj => by
      have : j = 0 ∨ j = 1 ∨ j = 2 := by omega
      rcases this with rfl | rfl | rfl <;> rfl)
    rwa [show (ixw w2 a2 A2 S2.length).heap.size = bx + 1 by rw [ebx]; simp] at this
  have KB := Lib.hid (GapU.new_ok _ 3 3 _ keyF HS (by omega))
  have EBX := Lib.hid ebx
  clear V2 HS ebx
  go_wp2_with fail
  rw [← EBX.out]
  refine (KB.out).mono ?_
  rintro e w4 ⟨pb, rfl, hbuf, hb⟩
  have V4 := Lib.hid ((V2'.out.alloc _).below hb)
  have BU := Lib.hid hbuf
  have lB : bx < ((ixw w2 a2 A2 S2.length).alloc (.cells #[.int .u64 7, .int .u64 8, .int .u64 9] 58)).heap.size := by rw [World.size_alloc, World.size_alloc, EBX.out]; omega
  generalize ((ixw w2 a2 A2 S2.length).alloc (.cells #[.int .u64 7, .int .u64 8, .int .u64 9] 58)).heap.size = B0 at BU lB
  have KN := Lib.hid (knew_any w4)
  clear KB V2' hbuf hb
  go_wp2_with fail
  refine (KN.out).mono ?_
  rintro e w5 ⟨rfl, k1, k2⟩
  obtain ⟨pm, epm⟩ : ∃ b, b = w4.heap.size := ⟨_, rfl⟩
  have EPM := Lib.hid epm
  have R5 := Lib.hid k1
  have D5 := Lib.hid k2
  rw [← epm] at R5 ⊢
  clear KN k1 k2 epm
  go_wp2_with fail
  go_loopw [6] (fun iv wr => ∃ k : Nat, k ≤ 3 ∧ iv = .int .i64 k ∧ Hid ((k = 0 ∧ wr.rowIs pm 130 3 (kmc none 0 0)) ∨ (0 < k ∧ ∃ g, w4.heap.size ≤ g ∧ KG wr pm g (tT k))) ∧ Hid (Below w4.heap.size w4 wr)) (fun iv _ => 3 - (intOf iv).toNat)
  case atStart => exact ⟨0, by omega, rfl, .inl ⟨rfl, R5.out⟩, D5⟩
  case round =>
    obtain ⟨k, hk, rfl, hM, hD⟩ := hrel
    clear R5 D5
    rcases (show k = 0 ∨ k = 1 ∨ k = 2 ∨ k = 3 by omega) with rfl | rfl | rfl | rfl
    · have hR : wr.rowIs pm 130 3 (kmc none 0 0) := by
        rcases hM.out with ⟨_, h⟩ | ⟨h, _⟩
        · exact h
        · omega
      -- 0 k, 7 key, kput_first wd pm (by obtain ⟨q, rfl⟩ := hd; exact hR) 7 0 (.inl rfl) the Put's contract ;; ⟨g, rfl, k1, k2, k3⟩ its pattern ;;  new state
      have KA : Hid (Calls Tryz.prog 30 #[.pointer (some ⟨pb, 0, none⟩), .int .i64 0] wr fun e w' => e = .returned (.tuple #[.int .u64 7, .int .i64 0]) ∧ Drawn wr w') := GapU.at_ok wr _ pb 3 3 keyF (BU.out.below hD.out) 0 (by omega)
      go_wp2_with fail
      refine (KA.out).mono ?_
      rintro e wd ⟨rfl, hd⟩
      have D1 := Lib.hid (hD.out.trans ((hd.below _).mono (Nat.le_refl _)))
      have KP := Lib.hid (kput_first wd pm (by obtain ⟨q, rfl⟩ := hd; exact hR) 7 0 (.inl rfl))
      have HM := hM.out
      clear hd KA hD hM
      go_wp2_with fail
      refine (KP.out).mono ?_
      rintro e w5 ⟨g, rfl, k1, k2, k3⟩
      have S1 : Hid ((1 = 0 ∧ w5.rowIs pm 130 3 (kmc none 0 0)) ∨ (0 < 1 ∧ ∃ g, w4.heap.size ≤ g ∧ KG w5 pm g (tT 1))) := .inr ⟨by omega, g, by have := D1.out.size; omega, k1⟩
      have D2 : Hid (Below w4.heap.size w4 w5) := D1.out.trans (k3.below D1.out.size (fun b h => by have := EPM.out; have := D1.out.size; omega))
      clear k1 k2 k3 hR HM KP
      go_wp2_with fail
      go_roundw
      case rel => exact ⟨1, by omega, by go_num, S1, D2⟩
      case measure => simp [intOf]
    · obtain ⟨g, hg, hR⟩ : ∃ g, w4.heap.size ≤ g ∧ KG wr pm g (tT 1) := by
        rcases hM.out with ⟨h, _⟩ | ⟨_, h⟩
        · omega
        · exact h
      -- 1 k, 8 key, kput_new wd pm g (tT 1) (by obtain ⟨q, rfl⟩ := hd; exact hR.keep rfl rfl) 8 1 (.inr (.inl rfl)) rfl (by decide) the Put's contract ;; ⟨rfl, k1, k3⟩ its pattern ;;  new state
      have KA : Hid (Calls Tryz.prog 30 #[.pointer (some ⟨pb, 0, none⟩), .int .i64 1] wr fun e w' => e = .returned (.tuple #[.int .u64 8, .int .i64 0]) ∧ Drawn wr w') := GapU.at_ok wr _ pb 3 3 keyF (BU.out.below hD.out) 1 (by omega)
      go_wp2_with fail
      refine (KA.out).mono ?_
      rintro e wd ⟨rfl, hd⟩
      have D1 := Lib.hid (hD.out.trans ((hd.below _).mono (Nat.le_refl _)))
      have KP := Lib.hid (kput_new wd pm g (tT 1) (by obtain ⟨q, rfl⟩ := hd; exact hR.keep rfl rfl) 8 1 (.inr (.inl rfl)) rfl (by decide))
      have HM := hM.out
      clear hd KA hD hM
      go_wp2_with fail
      refine (KP.out).mono ?_
      rintro e w5 ⟨rfl, k1, k3⟩
      have S1 : Hid ((2 = 0 ∧ w5.rowIs pm 130 3 (kmc none 0 0)) ∨ (0 < 2 ∧ ∃ g, w4.heap.size ≤ g ∧ KG w5 pm g (tT 2))) := .inr ⟨by omega, g, hg, k1⟩
      have D2 : Hid (Below w4.heap.size w4 w5) := D1.out.trans (k3.below D1.out.size (fun b h => by have := EPM.out; omega))
      clear k1 k3 hR HM KP
      go_wp2_with fail
      go_roundw
      case rel => exact ⟨2, by omega, by go_num, S1, D2⟩
      case measure => simp [intOf]
    · obtain ⟨g, hg, hR⟩ : ∃ g, w4.heap.size ≤ g ∧ KG wr pm g (tT 2) := by
        rcases hM.out with ⟨h, _⟩ | ⟨_, h⟩
        · omega
        · exact h
      -- 2 k, 9 key, kput_new wd pm g (tT 2) (by obtain ⟨q, rfl⟩ := hd; exact hR.keep rfl rfl) 9 2 (.inr (.inr rfl)) rfl (by decide) the Put's contract ;; ⟨rfl, k1, k3⟩ its pattern ;;  new state
      have KA : Hid (Calls Tryz.prog 30 #[.pointer (some ⟨pb, 0, none⟩), .int .i64 2] wr fun e w' => e = .returned (.tuple #[.int .u64 9, .int .i64 0]) ∧ Drawn wr w') := GapU.at_ok wr _ pb 3 3 keyF (BU.out.below hD.out) 2 (by omega)
      go_wp2_with fail
      refine (KA.out).mono ?_
      rintro e wd ⟨rfl, hd⟩
      have D1 := Lib.hid (hD.out.trans ((hd.below _).mono (Nat.le_refl _)))
      have KP := Lib.hid (kput_new wd pm g (tT 2) (by obtain ⟨q, rfl⟩ := hd; exact hR.keep rfl rfl) 9 2 (.inr (.inr rfl)) rfl (by decide))
      have HM := hM.out
      clear hd KA hD hM
      go_wp2_with fail
      refine (KP.out).mono ?_
      rintro e w5 ⟨rfl, k1, k3⟩
      have S1 : Hid ((3 = 0 ∧ w5.rowIs pm 130 3 (kmc none 0 0)) ∨ (0 < 3 ∧ ∃ g, w4.heap.size ≤ g ∧ KG w5 pm g (tT 3))) := .inr ⟨by omega, g, hg, k1⟩
      have D2 : Hid (Below w4.heap.size w4 w5) := D1.out.trans (k3.below D1.out.size (fun b h => by have := EPM.out; omega))
      clear k1 k3 hR HM KP
      go_wp2_with fail
      go_roundw
      case rel => exact ⟨3, by omega, by go_num, S1, D2⟩
      case measure => simp [intOf]
    · obtain ⟨g, hg, hR⟩ : ∃ g, w4.heap.size ≤ g ∧ KG wr pm g (tT 3) := by
        rcases hM.out with ⟨h, _⟩ | ⟨_, h⟩
        · omega
        · exact h
      have lpm : pm < wr.heap.size := hR.hp.lt
      obtain ⟨tb, etb⟩ : ∃ t, t = wr.heap.size := ⟨_, rfl⟩
      have TB : Hid ((wr.alloc (.cells #[.int .u64 9, .int .i64 4, .int .u64 7, .int .i64 3] 83)).rowIs tb 83 4 tabC) := by
        rw [etb]
        exact World.rowIs_alloc wr _ _ _ (fun j hj => by
          have : j = 0 ∨ j = 1 ∨ j = 2 ∨ j = 3 := by simp at hj; omega
          rcases this with rfl | rfl | rfl | rfl <;> rfl)
      have L6 : Below wr.heap.size wr (wr.alloc (.cells #[.int .u64 9, .int .i64 4, .int .u64 7, .int .i64 3] 83)) := (Below.refl _ wr).alloc (Nat.le_refl _) _
      have R6 := Lib.hid (hR.below L6)
      have D6 : Hid (Below w4.heap.size w4 (wr.alloc (.cells #[.int .u64 9, .int .i64 4, .int .u64 7, .int .i64 3] 83))) := hD.out.trans (L6.mono hD.out.size)
      have KC := Lib.hid (tcheck_ok _ tb TB.out)
      have ETB := Lib.hid etb
      have LW := hD.out.size
      have LTB : Hid (w4.heap.size ≤ tb) := by show _ ≤ _; omega
      clear hM hD hR L6 etb LW
      go_wp2_with fail
      rw [← ETB.out]
      refine (KC.out).mono ?_
      rintro e w7 ⟨rfl, hb⟩
      have D7 : Hid (Below w4.heap.size w4 w7) := D6.out.trans (hb.mono D6.out.size)
      have R7 := Lib.hid (R6.out.below hb)
      have TB7 := Lib.hid (TB.out.of_block (hb.block _ TB.out.lt))
      have V7 := Lib.hid (V4.out.below D7.out)
      clear hb KC R6 D6 TB
      go_wp2_with fail
      have VL : Hid (bx < w4.heap.size) := (V4.out.get (.head _)).lt
      have B7 := Lib.hid (GapU.Buf.below BU.out D7.out)
      clear V4 BU D7
      go_loopw [12] (fun iv wr => ∃ (k : Nat) (a A : Option Addr) (S : Sp), k ≤ 2 ∧ iv = .int .i64 k ∧ Hid (LX w wr [(bx, a, A, S, tRk k)] []) ∧ Hid (wr.rowIs tb 83 4 tabC) ∧ Hid (KG wr pm g (tT 3)) ∧ Hid (GapU.Buf wr B0 pb 3 3 keyF)) (fun iv _ => 2 - (intOf iv).toNat)
      case atStart => exact ⟨0, a2, A2, S2, by omega, rfl, V7, TB7, R7, B7⟩
      case round =>
        obtain ⟨k, a, A, S, hk, rfl, L, T8, K8, B8⟩ := hrel
        clear V7 TB7 R7 B7
        rcases (show k = 0 ∨ k = 1 ∨ k = 2 by omega) with rfl | rfl | rfl
        · -- (kget_any wr pm g (tT 3) K8.out 9 (.inr (.inr rfl)) (by decide) : Calls Tryz.prog 33 #[.pointer (some ⟨pm, 0, none⟩), .int .u64 9] wr fun e w' => e = .returned (.tuple #[.int .i64 2, .bool true]) ∧ Below wr.heap.size wr w') the Get's contract at wr (a fact), tl2 the Set's contract, tR0 rows before, tR1 rows behind, 1 k behind,  cells of the table: key's offset,  size's offset,  literals
          obtain ⟨x1, x2, x3, x4, _, lx⟩ := L.out.get (.head _)
          have t0 : wr.cell? ⟨tb, 0, none⟩ = some (.int .u64 9) := T8.out.cell (i := 0) (by omega)
          have t2 : wr.cell? ⟨tb, 2, none⟩ = some (.int .u64 7) := T8.out.cell (i := 2) (by omega)
          have KGET := Lib.hid ((kget_any wr pm g (tT 3) K8.out 9 (.inr (.inr rfl)) (by decide) : Calls Tryz.prog 33 #[.pointer (some ⟨pm, 0, none⟩), .int .u64 9] wr fun e w' => e = .returned (.tuple #[.int .i64 2, .bool true]) ∧ Below wr.heap.size wr w'))
          clear x1 x2 x3 x4 lx
          go_wp2_with fail
          refine (KGET.out).mono ?_
          rintro e wa ⟨rfl, hb⟩
          have La := Lib.hid (L.out.below hb)
          have Ta := Lib.hid (T8.out.of_block (hb.block _ T8.out.lt))
          have Ra := Lib.hid (K8.out.below hb)
          have Ba := Lib.hid (GapU.Buf.below B8.out hb)
          clear hb KGET L T8 K8 B8 t0 t2
          have t1 : wa.cell? ⟨tb, 1, none⟩ = some (.int .i64 4) := Ta.out.cell (i := 1) (by omega)
          have t3 : wa.cell? ⟨tb, 3, none⟩ = some (.int .i64 3) := Ta.out.cell (i := 3) (by omega)
          have lt := Ta.out.lt
          obtain ⟨x1, x2, x3, x4, _, lx⟩ := La.out.get (.head _)
          have D1 : Hid (Below wa.heap.size wa wa.drew) := (Below.refl _ _).drew
          have BE : Hid (∀ o, Below wa.heap.size wa ((wa.alloc o).drew)) := fun o => ((Below.refl _ wa).alloc (Nat.le_refl _) _).drew
          go_wp2_with fail
          apply wp_joinT (X := fun q a' A' S' y => LX w y [(q, a', A', S', tR1), (bx, a, A, S, tR0)] [] ∧ Below wa.heap.size wa y ∧ DepT q a' A' S' ∧ q ≠ bx)
          case h1 =>
            refine wp_region_tree ((PT.pures [0, 1, 2, 3, 4, 5, 6] (.two 7 11 (.pures [8, 9, 10] (.mark 11 (.mark 12 (.pure 13 .fin)))) (.mark 7 (.pures [8, 9, 10] (.mark 12 (.pure 13 .fin))))))) (Below wa.heap.size wa) (by kernel_rfl) (by kernel_rfl) (D1.out) ?_
            repeat (refine HT.pure (by simp only [List.getElem?_toArray, List.getElem?_cons_succ, List.getElem?_cons_zero]; rfl) (fun K hK => ?_); first | (apply held_yes; (focus rfl); (focus (intro w' hw; obtain ⟨hc', hf'⟩ := below_cells hw; go_simp; rfl)); (go_simp; refine hK _ ?_; clear hK K)) | (refine ite_no (by decide) ?_; go_simp; refine hK _ ?_; clear hK K))
            refine HT.two (by simp only [List.getElem?_toArray, List.getElem?_cons_succ, List.getElem?_cons_zero]; rfl) (by simp only [List.getElem?_toArray, List.getElem?_cons_succ, List.getElem?_cons_zero]; rfl) ?_ ?_
            · go_wp2_with fail
              refine (tl2 _ _ _ _ ((La.out.below D1.out).get (.head _)).ix).mono ?_
              rintro e wb ⟨ab, Ab, Sb, rfl, p, hb⟩
              have BB : Hid (Below wa.heap.size wa wb) := D1.out.trans hb
              have BC : Hid (∀ o, Below wa.heap.size wa (wb.alloc o)) := fun o => BB.out.alloc BB.out.size _
              have L5 := Lib.hid ((La.out.below BB.out).cons p)
              have lq : wb.heap.size ≠ bx := by have := BB.out.size; omega
              have LQ := Lib.hid lq
              clear hb p lq
              go_wp2_with fail
              refine ⟨BB.out, ?_⟩
              repeat (refine HT.pure (by simp only [List.getElem?_toArray, List.getElem?_cons_succ, List.getElem?_cons_zero]; rfl) (fun K hK => ?_); first | (apply held_yes; (focus rfl); (focus (intro w' hw; obtain ⟨hc', hf'⟩ := below_cells hw; go_simp; rfl)); (go_simp; refine hK _ ?_; clear hK K)) | (refine ite_no (by decide) ?_; go_simp; refine hK _ ?_; clear hK K))
              refine HT.mark (by simp only [List.getElem?_toArray, List.getElem?_cons_succ, List.getElem?_cons_zero]; rfl) ?_
              go_wp2_with fail
              refine ⟨(BC.out _), ?_⟩
              repeat (refine HT.pure (by simp only [List.getElem?_toArray, List.getElem?_cons_succ, List.getElem?_cons_zero]; rfl) (fun K hK => ?_); first | (apply held_yes; (focus rfl); (focus (intro w' hw; obtain ⟨hc', hf'⟩ := below_cells hw; go_simp; rfl)); (go_simp; refine hK _ ?_; clear hK K)) | (refine ite_no (by decide) ?_; go_simp; refine hK _ ?_; clear hK K))
              refine HT.mark (by simp only [List.getElem?_toArray, List.getElem?_cons_succ, List.getElem?_cons_zero]; rfl) ?_
              go_wp2_with fail
              refine ⟨(BC.out _), ?_⟩
              repeat (refine HT.pure (by simp only [List.getElem?_toArray, List.getElem?_cons_succ, List.getElem?_cons_zero]; rfl) (fun K hK => ?_); first | (apply held_yes; (focus rfl); (focus (intro w' hw; obtain ⟨hc', hf'⟩ := below_cells hw; go_simp; rfl)); (go_simp; refine hK _ ?_; clear hK K)) | (refine ite_no (by decide) ?_; go_simp; refine hK _ ?_; clear hK K))
              refine HT.fin ?_
              have B5 := BC.out (.cells #[.pointer ab, .slice Ab Sb.length Sb.length] 32)
              have L6 := L5.out
              have L7 := LQ.out
              obtain ⟨qq, hq⟩ : ∃ q, q = wb.heap.size := ⟨_, rfl⟩
              rw [← hq] at L6 L7 ⊢
              exact ⟨rfl, qq, ab, Ab, Sb, rfl, L6, B5, ⟨rfl, rfl, rfl, rfl⟩, L7⟩
            · go_wp2_with fail
              refine ⟨(BE.out _), ?_⟩
              repeat (refine HT.pure (by simp only [List.getElem?_toArray, List.getElem?_cons_succ, List.getElem?_cons_zero]; rfl) (fun K hK => ?_); first | (apply held_yes; (focus rfl); (focus (intro w' hw; obtain ⟨hc', hf'⟩ := below_cells hw; go_simp; rfl)); (go_simp; refine hK _ ?_; clear hK K)) | (refine ite_no (by decide) ?_; go_simp; refine hK _ ?_; clear hK K))
              refine HT.mark (by simp only [List.getElem?_toArray, List.getElem?_cons_succ, List.getElem?_cons_zero]; rfl) ?_
              go_wp2_with fail
              refine (tl2 _ _ _ _ ((La.out.below (BE.out _)).get (.head _)).ix).mono ?_
              rintro e wb ⟨ab, Ab, Sb, rfl, p, hb⟩
              have BB : Hid (Below wa.heap.size wa wb) := (BE.out _).trans (hb.mono (BE.out _).size)
              have LV := La.out.cons (Ix.new _)
              have L6 := Lib.hid ((LV.drawn (w' := (wa.alloc (.cells #[.pointer none, .slice none 0 0] 32)).drew) ⟨1, rfl⟩).below hb)
              obtain ⟨y1, y2, y3, y4, l1⟩ := L6.out.get0 (.head _)
              have BC : Hid (∀ v v', Below wa.heap.size wa ((wb.setCell ⟨wa.heap.size, 0, none⟩ v).setCell ⟨wa.heap.size, 1, none⟩ v')) := fun v v' => (BB.out.setCell (p := ⟨wa.heap.size, 0, none⟩) (Nat.le_refl _) v).setCell (p := ⟨wa.heap.size, 1, none⟩) (Nat.le_refl _) v'
              have L7 := Lib.hid (L6.out.put (.head _) p [(bx, a, A, S, tR0)] (fun x hx => by
                rw [List.mem_singleton.1 hx]
                exact ⟨.tail _ (.head _), by show bx ≠ _; omega⟩))
              clear hb p LV
              go_wp2_with fail
              refine ⟨BB.out, ?_⟩
              repeat (refine HT.pure (by simp only [List.getElem?_toArray, List.getElem?_cons_succ, List.getElem?_cons_zero]; rfl) (fun K hK => ?_); first | (apply held_yes; (focus rfl); (focus (intro w' hw; obtain ⟨hc', hf'⟩ := below_cells hw; go_simp; rfl)); (go_simp; refine hK _ ?_; clear hK K)) | (refine ite_no (by decide) ?_; go_simp; refine hK _ ?_; clear hK K))
              refine HT.mark (by simp only [List.getElem?_toArray, List.getElem?_cons_succ, List.getElem?_cons_zero]; rfl) ?_
              go_wp2_with fail
              refine ⟨(BC.out _ _), ?_⟩
              repeat (refine HT.pure (by simp only [List.getElem?_toArray, List.getElem?_cons_succ, List.getElem?_cons_zero]; rfl) (fun K hK => ?_); first | (apply held_yes; (focus rfl); (focus (intro w' hw; obtain ⟨hc', hf'⟩ := below_cells hw; go_simp; rfl)); (go_simp; refine hK _ ?_; clear hK K)) | (refine ite_no (by decide) ?_; go_simp; refine hK _ ?_; clear hK K))
              refine HT.fin ?_
              exact ⟨rfl, wa.heap.size, ab, Ab, Sb, rfl, L7.out, BC.out _ _, ⟨rfl, rfl, rfl, rfl⟩, by omega⟩
          case h2 =>
            rintro q a' A' S' y ⟨L, HB, _, hqx⟩
            have L4 := Lib.hid L
            have Ty := Lib.hid (Ta.out.of_block (HB.block _ Ta.out.lt))
            have Ry := Lib.hid (Ra.out.below HB)
            have By := Lib.hid (GapU.Buf.below Ba.out HB)
            clear L HB x1 x2 x3 x4 lx t1 t3 lt Ta Ra Ba D1 BE La
            obtain ⟨x1, x2, x3, x4, xi, lx⟩ := L4.out.get (.head _)
            obtain ⟨z1, z2, z3, z4, _, lz⟩ := L4.out.get (.tail _ (.head _))
            have L5 := Lib.hid (L4.out.put1 (.tail _ (.head _)) xi)
            have hp1 : pm ≠ bx := by have := EPM.out; have := VL.out; omega
            have hp2 : g ≠ bx := by have := VL.out; omega
            have hp3 : tb ≠ bx := by have := LTB.out; have := VL.out; omega
            have Tz := Lib.hid (row_past (row_past Ty.out hp3 (i := 0) (.pointer a')) hp3 (i := 1) (.slice A' S'.length S'.length))
            have Rz : Hid (KG ((y.setCell ⟨bx, 0, none⟩ (.pointer a')).setCell ⟨bx, 1, none⟩ (.slice A' S'.length S'.length)) pm g (tT 3)) := Ry.out.keep (by rw [Below.heap_setCell _ _ _ _ hp1, Below.heap_setCell _ _ _ _ hp1]) (by rw [Below.heap_setCell _ _ _ _ hp2, Below.heap_setCell _ _ _ _ hp2])
            have Bz : Hid (GapU.Buf ((y.setCell ⟨bx, 0, none⟩ (.pointer a')).setCell ⟨bx, 1, none⟩ (.slice A' S'.length S'.length)) B0 pb 3 3 keyF) := GapU.Buf.keep By.out (fun b h1 h2 => by
              rw [Below.heap_setCell _ _ _ _ (show b ≠ bx by omega), Below.heap_setCell _ _ _ _ (show b ≠ bx by omega)])
            clear Ty Ry By L4 hp1 hp2 hp3 xi hqx
            go_wp2_with fail
            go_roundw
            case rel => exact ⟨1, a', A', S', by omega, by go_num, L5, Tz, Rz, Bz⟩
            case measure => simp [intOf]
        · -- (kget_any wr pm g (tT 3) K8.out 7 (.inl rfl) (by decide) : Calls Tryz.prog 33 #[.pointer (some ⟨pm, 0, none⟩), .int .u64 7] wr fun e w' => e = .returned (.tuple #[.int .i64 0, .bool true]) ∧ Below wr.heap.size wr w') the Get's contract at wr (a fact), tl3 the Set's contract, tR1 rows before, tR2 rows behind, 2 k behind,  cells of the table: key's offset,  size's offset,  literals
          obtain ⟨x1, x2, x3, x4, _, lx⟩ := L.out.get (.head _)
          have t0 : wr.cell? ⟨tb, 0, none⟩ = some (.int .u64 9) := T8.out.cell (i := 0) (by omega)
          have t2 : wr.cell? ⟨tb, 2, none⟩ = some (.int .u64 7) := T8.out.cell (i := 2) (by omega)
          have KGET := Lib.hid ((kget_any wr pm g (tT 3) K8.out 7 (.inl rfl) (by decide) : Calls Tryz.prog 33 #[.pointer (some ⟨pm, 0, none⟩), .int .u64 7] wr fun e w' => e = .returned (.tuple #[.int .i64 0, .bool true]) ∧ Below wr.heap.size wr w'))
          clear x1 x2 x3 x4 lx
          go_wp2_with fail
          refine (KGET.out).mono ?_
          rintro e wa ⟨rfl, hb⟩
          have La := Lib.hid (L.out.below hb)
          have Ta := Lib.hid (T8.out.of_block (hb.block _ T8.out.lt))
          have Ra := Lib.hid (K8.out.below hb)
          have Ba := Lib.hid (GapU.Buf.below B8.out hb)
          clear hb KGET L T8 K8 B8 t0 t2
          have t1 : wa.cell? ⟨tb, 1, none⟩ = some (.int .i64 4) := Ta.out.cell (i := 1) (by omega)
          have t3 : wa.cell? ⟨tb, 3, none⟩ = some (.int .i64 3) := Ta.out.cell (i := 3) (by omega)
          have lt := Ta.out.lt
          obtain ⟨x1, x2, x3, x4, _, lx⟩ := La.out.get (.head _)
          have D1 : Hid (Below wa.heap.size wa wa.drew) := (Below.refl _ _).drew
          have BE : Hid (∀ o, Below wa.heap.size wa ((wa.alloc o).drew)) := fun o => ((Below.refl _ wa).alloc (Nat.le_refl _) _).drew
          go_wp2_with fail
          apply wp_joinT (X := fun q a' A' S' y => LX w y [(q, a', A', S', tR2), (bx, a, A, S, tR1)] [] ∧ Below wa.heap.size wa y ∧ DepT q a' A' S' ∧ q ≠ bx)
          case h1 =>
            refine wp_region_tree ((PT.pures [0, 1, 2, 3, 4, 5, 6] (.two 7 11 (.pures [8, 9, 10] (.mark 11 (.mark 12 (.pure 13 .fin)))) (.mark 7 (.pures [8, 9, 10] (.mark 12 (.pure 13 .fin))))))) (Below wa.heap.size wa) (by kernel_rfl) (by kernel_rfl) (D1.out) ?_
            repeat (refine HT.pure (by simp only [List.getElem?_toArray, List.getElem?_cons_succ, List.getElem?_cons_zero]; rfl) (fun K hK => ?_); first | (apply held_yes; (focus rfl); (focus (intro w' hw; obtain ⟨hc', hf'⟩ := below_cells hw; go_simp; rfl)); (go_simp; refine hK _ ?_; clear hK K)) | (refine ite_no (by decide) ?_; go_simp; refine hK _ ?_; clear hK K))
            refine HT.two (by simp only [List.getElem?_toArray, List.getElem?_cons_succ, List.getElem?_cons_zero]; rfl) (by simp only [List.getElem?_toArray, List.getElem?_cons_succ, List.getElem?_cons_zero]; rfl) ?_ ?_
            · go_wp2_with fail
              refine (tl3 _ _ _ _ ((La.out.below D1.out).get (.head _)).ix).mono ?_
              rintro e wb ⟨ab, Ab, Sb, rfl, p, hb⟩
              have BB : Hid (Below wa.heap.size wa wb) := D1.out.trans hb
              have BC : Hid (∀ o, Below wa.heap.size wa (wb.alloc o)) := fun o => BB.out.alloc BB.out.size _
              have L5 := Lib.hid ((La.out.below BB.out).cons p)
              have lq : wb.heap.size ≠ bx := by have := BB.out.size; omega
              have LQ := Lib.hid lq
              clear hb p lq
              go_wp2_with fail
              refine ⟨BB.out, ?_⟩
              repeat (refine HT.pure (by simp only [List.getElem?_toArray, List.getElem?_cons_succ, List.getElem?_cons_zero]; rfl) (fun K hK => ?_); first | (apply held_yes; (focus rfl); (focus (intro w' hw; obtain ⟨hc', hf'⟩ := below_cells hw; go_simp; rfl)); (go_simp; refine hK _ ?_; clear hK K)) | (refine ite_no (by decide) ?_; go_simp; refine hK _ ?_; clear hK K))
              refine HT.mark (by simp only [List.getElem?_toArray, List.getElem?_cons_succ, List.getElem?_cons_zero]; rfl) ?_
              go_wp2_with fail
              refine ⟨(BC.out _), ?_⟩
              repeat (refine HT.pure (by simp only [List.getElem?_toArray, List.getElem?_cons_succ, List.getElem?_cons_zero]; rfl) (fun K hK => ?_); first | (apply held_yes; (focus rfl); (focus (intro w' hw; obtain ⟨hc', hf'⟩ := below_cells hw; go_simp; rfl)); (go_simp; refine hK _ ?_; clear hK K)) | (refine ite_no (by decide) ?_; go_simp; refine hK _ ?_; clear hK K))
              refine HT.mark (by simp only [List.getElem?_toArray, List.getElem?_cons_succ, List.getElem?_cons_zero]; rfl) ?_
              go_wp2_with fail
              refine ⟨(BC.out _), ?_⟩
              repeat (refine HT.pure (by simp only [List.getElem?_toArray, List.getElem?_cons_succ, List.getElem?_cons_zero]; rfl) (fun K hK => ?_); first | (apply held_yes; (focus rfl); (focus (intro w' hw; obtain ⟨hc', hf'⟩ := below_cells hw; go_simp; rfl)); (go_simp; refine hK _ ?_; clear hK K)) | (refine ite_no (by decide) ?_; go_simp; refine hK _ ?_; clear hK K))
              refine HT.fin ?_
              have B5 := BC.out (.cells #[.pointer ab, .slice Ab Sb.length Sb.length] 32)
              have L6 := L5.out
              have L7 := LQ.out
              obtain ⟨qq, hq⟩ : ∃ q, q = wb.heap.size := ⟨_, rfl⟩
              rw [← hq] at L6 L7 ⊢
              exact ⟨rfl, qq, ab, Ab, Sb, rfl, L6, B5, ⟨rfl, rfl, rfl, rfl⟩, L7⟩
            · go_wp2_with fail
              refine ⟨(BE.out _), ?_⟩
              repeat (refine HT.pure (by simp only [List.getElem?_toArray, List.getElem?_cons_succ, List.getElem?_cons_zero]; rfl) (fun K hK => ?_); first | (apply held_yes; (focus rfl); (focus (intro w' hw; obtain ⟨hc', hf'⟩ := below_cells hw; go_simp; rfl)); (go_simp; refine hK _ ?_; clear hK K)) | (refine ite_no (by decide) ?_; go_simp; refine hK _ ?_; clear hK K))
              refine HT.mark (by simp only [List.getElem?_toArray, List.getElem?_cons_succ, List.getElem?_cons_zero]; rfl) ?_
              go_wp2_with fail
              refine (tl3 _ _ _ _ ((La.out.below (BE.out _)).get (.head _)).ix).mono ?_
              rintro e wb ⟨ab, Ab, Sb, rfl, p, hb⟩
              have BB : Hid (Below wa.heap.size wa wb) := (BE.out _).trans (hb.mono (BE.out _).size)
              have LV := La.out.cons (Ix.new _)
              have L6 := Lib.hid ((LV.drawn (w' := (wa.alloc (.cells #[.pointer none, .slice none 0 0] 32)).drew) ⟨1, rfl⟩).below hb)
              obtain ⟨y1, y2, y3, y4, l1⟩ := L6.out.get0 (.head _)
              have BC : Hid (∀ v v', Below wa.heap.size wa ((wb.setCell ⟨wa.heap.size, 0, none⟩ v).setCell ⟨wa.heap.size, 1, none⟩ v')) := fun v v' => (BB.out.setCell (p := ⟨wa.heap.size, 0, none⟩) (Nat.le_refl _) v).setCell (p := ⟨wa.heap.size, 1, none⟩) (Nat.le_refl _) v'
              have L7 := Lib.hid (L6.out.put (.head _) p [(bx, a, A, S, tR1)] (fun x hx => by
                rw [List.mem_singleton.1 hx]
                exact ⟨.tail _ (.head _), by show bx ≠ _; omega⟩))
              clear hb p LV
              go_wp2_with fail
              refine ⟨BB.out, ?_⟩
              repeat (refine HT.pure (by simp only [List.getElem?_toArray, List.getElem?_cons_succ, List.getElem?_cons_zero]; rfl) (fun K hK => ?_); first | (apply held_yes; (focus rfl); (focus (intro w' hw; obtain ⟨hc', hf'⟩ := below_cells hw; go_simp; rfl)); (go_simp; refine hK _ ?_; clear hK K)) | (refine ite_no (by decide) ?_; go_simp; refine hK _ ?_; clear hK K))
              refine HT.mark (by simp only [List.getElem?_toArray, List.getElem?_cons_succ, List.getElem?_cons_zero]; rfl) ?_
              go_wp2_with fail
              refine ⟨(BC.out _ _), ?_⟩
              repeat (refine HT.pure (by simp only [List.getElem?_toArray, List.getElem?_cons_succ, List.getElem?_cons_zero]; rfl) (fun K hK => ?_); first | (apply held_yes; (focus rfl); (focus (intro w' hw; obtain ⟨hc', hf'⟩ := below_cells hw; go_simp; rfl)); (go_simp; refine hK _ ?_; clear hK K)) | (refine ite_no (by decide) ?_; go_simp; refine hK _ ?_; clear hK K))
              refine HT.fin ?_
              exact ⟨rfl, wa.heap.size, ab, Ab, Sb, rfl, L7.out, BC.out _ _, ⟨rfl, rfl, rfl, rfl⟩, by omega⟩
          case h2 =>
            rintro q a' A' S' y ⟨L, HB, _, hqx⟩
            have L4 := Lib.hid L
            have Ty := Lib.hid (Ta.out.of_block (HB.block _ Ta.out.lt))
            have Ry := Lib.hid (Ra.out.below HB)
            have By := Lib.hid (GapU.Buf.below Ba.out HB)
            clear L HB x1 x2 x3 x4 lx t1 t3 lt Ta Ra Ba D1 BE La
            obtain ⟨x1, x2, x3, x4, xi, lx⟩ := L4.out.get (.head _)
            obtain ⟨z1, z2, z3, z4, _, lz⟩ := L4.out.get (.tail _ (.head _))
            have L5 := Lib.hid (L4.out.put1 (.tail _ (.head _)) xi)
            have hp1 : pm ≠ bx := by have := EPM.out; have := VL.out; omega
            have hp2 : g ≠ bx := by have := VL.out; omega
            have hp3 : tb ≠ bx := by have := LTB.out; have := VL.out; omega
            have Tz := Lib.hid (row_past (row_past Ty.out hp3 (i := 0) (.pointer a')) hp3 (i := 1) (.slice A' S'.length S'.length))
            have Rz : Hid (KG ((y.setCell ⟨bx, 0, none⟩ (.pointer a')).setCell ⟨bx, 1, none⟩ (.slice A' S'.length S'.length)) pm g (tT 3)) := Ry.out.keep (by rw [Below.heap_setCell _ _ _ _ hp1, Below.heap_setCell _ _ _ _ hp1]) (by rw [Below.heap_setCell _ _ _ _ hp2, Below.heap_setCell _ _ _ _ hp2])
            have Bz : Hid (GapU.Buf ((y.setCell ⟨bx, 0, none⟩ (.pointer a')).setCell ⟨bx, 1, none⟩ (.slice A' S'.length S'.length)) B0 pb 3 3 keyF) := GapU.Buf.keep By.out (fun b h1 h2 => by
              rw [Below.heap_setCell _ _ _ _ (show b ≠ bx by omega), Below.heap_setCell _ _ _ _ (show b ≠ bx by omega)])
            clear Ty Ry By L4 hp1 hp2 hp3 xi hqx
            go_wp2_with fail
            go_roundw
            case rel => exact ⟨2, a', A', S', by omega, by go_num, L5, Tz, Rz, Bz⟩
            case measure => simp [intOf]
        · obtain ⟨x1, x2, x3, x4, xi, lx⟩ := L.out.get (.head _)
          have KM := Lib.hid (tl4 wr a A S xi)
          clear xi T8 K8
          go_wp2_with fail
          refine (KM.out).mono ?_
          rintro e w10 ⟨a10, A10, S10, rfl, q, hb⟩
          have L10 := Lib.hid ((L.out.below hb).cons q)
          have B10 := Lib.hid (GapU.Buf.below (GapU.Buf.below B8.out hb) (ixw_b w10 a10 A10 S10.length))
          have KB := Lib.hid (GapU.move_fr _ B0 pb 3 3 keyF B10.out 0 1 2 (by omega) (by omega) (by omega))
          have OK3 : LOk (szs tR3) := q.ok
          have OK := Lib.hid OK3
          have WB : Hid (w.heap.size ≤ bx) := (L.out.vs _ (.head _)).1
          obtain ⟨yq, eyq⟩ : ∃ b, b = w10.heap.size := ⟨_, rfl⟩
          have L10' : Hid (LX w (ixw w10 a10 A10 S10.length) [(yq, a10, A10, S10, tR3), (bx, a, A, S, tR2)] []) := by rw [eyq]; exact L10.out
          have EYQ := Lib.hid eyq
          clear hb q L B8 KM x1 x2 x3 x4 lx L10 OK3 eyq
          go_wp2_with fail
          rw [← EYQ.out]
          refine (KB.out).mono ?_
          rintro e w11 ⟨rfl, k1, gb, k2, k3, k4, ⟨f1, k5⟩, mm, f2, k6⟩
          have Y11 : Hid (YV w11 yq a10 A10 S10.length (szs tR3)) := by
            obtain ⟨_, v1, v2⟩ := L10'.out.vs _ (.head _)
            refine ⟨World.rowIs.of_block v1 (k2.block yq (World.rowIs.lt v1) (fun h => ?_)), rp_frS v2.rp k2 (fun b f hr h => ?_)⟩
            · rcases h with h | h
              · exact rows_ne v1 k5 (by decide) h
              · exact rows_ne v1 k6 (by decide) h
            · rcases h with h | h
              · exact rows_ne hr k5 (by decide) h
              · exact rows_ne hr k6 (by decide) h
          have BU11 := Lib.hid k1
          have D11 : Hid (Below w.heap.size w w11) := L10'.out.bl.trans (k2.below L10'.out.bl.size (fun b h => by have := WB.out; omega))
          clear k1 k2 k3 k4 k5 k6 KB L10' B10
          have KR := Lib.hid (moved_ok w11 3 0 1 2 (by omega) (by omega) (by omega))
          go_wp2_with fail
          refine (KR.out).mono ?_
          rintro e w12 ⟨A12, rfl, hs, hb⟩
          have Y12 := Lib.hid ((Y11.out.below hb).below ((Below.refl _ w12).alloc (Nat.le_refl _) (.cells #[.int .i64 3, .slice A12 3 3] 92)))
          have BU12 := Lib.hid (GapU.Buf.below (GapU.Buf.below BU11.out hb) ((Below.refl _ w12).alloc (Nat.le_refl _) (.cells #[.int .i64 3, .slice A12 3 3] 92)))
          have D12 : Hid (Below w.heap.size w (w12.alloc (.cells #[.int .i64 3, .slice A12 3 3] 92))) := (D11.out.trans (hb.mono D11.out.size)).alloc (by have := D11.out.size; have := hb.size; omega) _
          have SR12 : Hid (Sees (w12.alloc (.cells #[.int .i64 3, .slice A12 3 3] 92)) (w12.heap.size) A12 3 (i64s fun i => movF 0 1 2 i)) := hs.below ((Below.refl _ w12).alloc (Nat.le_refl _) _)
          have RR12 := Lib.hid (rm_new w12 3 A12 3)
          clear hb hs KR D11 BU11 Y11
          obtain ⟨rq, erq⟩ : ∃ b, b = w12.heap.size := ⟨_, rfl⟩
          have ERQ := Lib.hid erq
          obtain ⟨y1, y2, y3, y4, ly⟩ := Y12.out.cells
          go_wp2_with fail
          generalize w12.alloc (.cells #[.int .i64 3, .slice A12 3 3] 92) = w13 at Y12 BU12 D12 SR12 RR12 y1 y2 y3 y4 ly ⊢
          rw [← erq] at SR12 RR12 ⊢
          clear erq
          refine (iat_ok w13 a10 A10 S10.length tR3 Y12.out.rp OK.out 15 2 1 (by unfold Place; decide) (by decide) (by decide)).mono ?_
          rintro e w14 ⟨rfl, hb⟩
          have Y14 := Lib.hid (Y12.out.below hb)
          have BU14 := Lib.hid (GapU.Buf.below BU12.out hb)
          have D14 : Hid (Below w.heap.size w w14) := D12.out.trans (hb.mono D12.out.size)
          have RR14 := Lib.hid (RR12.out.of_block (hb.block _ RR12.out.lt))
          have SR14 := Lib.hid ((SR12.out.below (hb.mono (by have := RR12.out.lt; omega))))
          clear hb Y12 BU12 D12 SR12 RR12 y1 y2 y3 y4 ly
          obtain ⟨y1, y2, y3, y4, ly⟩ := Y14.out.cells
          go_wp2_with fail
          refine (rtotal_any w14 a10 (szs tR3) Y14.out.rp).mono ?_
          rintro e w15 ⟨rfl, hb⟩
          rw [show (szs tR3).sum = 17 by decide]
          have Y15 := Lib.hid (Y14.out.below hb)
          have BU15 := Lib.hid (GapU.Buf.below BU14.out hb)
          have D15 : Hid (Below w.heap.size w w15) := D14.out.trans (hb.mono D14.out.size)
          have RR15 := Lib.hid (RR14.out.of_block (hb.block _ RR14.out.lt))
          have SR15 := Lib.hid ((SR14.out.below (hb.mono (by have := RR14.out.lt; omega))))
          clear hb Y14 BU14 D14 RR14 SR14 y1 y2 y3 y4 ly
          obtain ⟨m1, m2, m3, _⟩ := rm_cells RR15.out
          obtain ⟨rb, ro, rfl, _, mr⟩ := SR15.out.at_ (k := 2) (by omega)
          have em : i64s (fun i => ((movF 0 1 2 i : Nat) : Int)) 2 = .int .i64 0 := by rw [i64s_at]; exact congrArg _ (by decide)
          rw [em] at mr
          have z1 := m3 0
          have z2 := m3 1
          clear m3 em RR15 SR15
          have KA := Lib.hid (GapU.at_ok w15 B0 pb 3 3 _ BU15.out 2 (by omega))
          have ek : (GapU.ins (GapU.rem keyF 0 1) 2 1 fun j => keyF (0 + j)) 2 = 7 := by decide
          rw [ek] at KA
          clear ek
          go_wp2_with fail
          refine (KA.out).mono ?_
          rintro e w16 ⟨rfl, hd⟩
          have D16 : Hid (Below w.heap.size w w16) := D15.out.trans ((hd.below _).mono (Nat.le_refl _))
          have Y16 := Lib.hid (Y15.out.below (hd.below _))
          clear hd KA m1 m2 mr z1 z2 D15 BU15 Y15 Y16
          go_wp2_with fail
          have LT := litT w16 [10, 4, 3]
          have D17 := Lib.hid (D16.out.alloc D16.out.size (.cells #[.int .i64 10, .int .i64 4, .int .i64 3] 2))
          refine (tm6 _ _ LT).mono ?_
          rintro e w17 ⟨g17, rfl, k1, hb⟩
          have T17 := Lib.hid k1
          have D18 : Hid (Below w.heap.size w w17) := D17.out.trans (hb.mono D17.out.size)
          clear k1 hb LT D16 D17
          go_wp2_with fail
          have LT := litT w17 [10, 4, 3]
          have D19 := Lib.hid (D18.out.alloc D18.out.size (.cells #[.int .i64 10, .int .i64 4, .int .i64 3] 2))
          have T18 := Lib.hid (T17.out.of_block (((Below.refl _ w17).alloc (Nat.le_refl _) (.cells #[.int .i64 10, .int .i64 4, .int .i64 3] 2)).block _ T17.out.lt))
          refine (tm7 _ _ LT).mono ?_
          rintro e w18 ⟨a18, rfl, k1, hb⟩
          have R18 := Lib.hid k1
          have D20 : Hid (Below w.heap.size w w18) := D19.out.trans (hb.mono D19.out.size)
          have T19 := Lib.hid (T18.out.of_block (hb.block _ T18.out.lt))
          clear k1 hb LT D18 D19 T17 T18
          go_wp2_with fail
          obtain ⟨sq, esq⟩ : ∃ b, b = w18.heap.size := ⟨_, rfl⟩
          have V18 : Hid (Var (w18.alloc (.cells #[.pointer a18] 27)) sq 27 (.pointer a18)) := by rw [esq]; exact Var.mk w18 _ _
          have BV : Below w18.heap.size w18 (w18.alloc (.cells #[.pointer a18] 27)) := (Below.refl _ w18).alloc (Nat.le_refl _) _
          have D20b := Lib.hid (D20.out.trans (BV.mono D20.out.size))
          have T19b := Lib.hid (T19.out.of_block (BV.block _ T19.out.lt))
          have R19b := Lib.hid (R18.out.below BV)
          have es : (w18.alloc (.cells #[.pointer a18] 27)).heap.size = sq + 1 := by rw [World.size_alloc, esq]
          rw [← esq]
          generalize w18.alloc (.cells #[.pointer a18] 27) = wB at V18 D20b T19b R19b es ⊢
          clear BV esq D20 T19 R18
          have LT := litT wB [10, 4, 3]
          rw [es] at LT
          clear es
          have BA : Hid (Below wB.heap.size wB (wB.alloc (.cells #[.int .i64 10, .int .i64 4, .int .i64 3] 2))) := (Below.refl _ wB).alloc (Nat.le_refl _) (.cells #[.int .i64 10, .int .i64 4, .int .i64 3] 2)
          have D21 := Lib.hid (D20b.out.trans (BA.out.mono D20b.out.size))
          have T20 := Lib.hid (T19b.out.of_block (BA.out.block _ T19b.out.lt))
          have R20 := Lib.hid (R19b.out.below BA.out)
          have V20 := Lib.hid (V18.out.below BA.out)
          refine (tm8 _ _ LT).mono ?_
          rintro e w19 ⟨p19, rfl, k1, hb⟩
          have F19 := Lib.hid k1
          have D22 : Hid (Below w.heap.size w w19) := D21.out.trans (hb.mono D21.out.size)
          have T21 := Lib.hid (T20.out.of_block (hb.block _ T20.out.lt))
          have R21 := Lib.hid (R20.out.below hb)
          have V21 := Lib.hid (V20.out.below hb)
          clear k1 hb LT BA D20b D21 T19b T20 R19b R20 V18 V20
          go_wp2_with fail
          have HT19 := HTab.out.below D22.out HPos.out
          have HP19 : 0 < w19.heap.size := by have := D22.out.size; have := HPos.out; omega
          refine (tm9 w19 HT19 HP19).mono ?_
          rintro e w20 ⟨p20, rfl, k1, k2, hb⟩
          have PB20 : Hid (w.heap.size ≤ p20) := Nat.le_trans D22.out.size k2
          clear k2
          have L20 := Lib.hid k1
          have D23 : Hid (Below w.heap.size w w20) := D22.out.trans (hb.mono D22.out.size)
          have T22 := Lib.hid (T21.out.of_block (hb.block _ T21.out.lt))
          have R22 := Lib.hid (R21.out.below hb)
          have F22 := Lib.hid ((F19.out.below hb).less (Nat.zero_le _))
          have V22 := Lib.hid (V21.out.below hb)
          clear k1 hb HT19 HP19 D22 T21 R21 F19 V21
          go_wp2_with fail
          refine (tm17 w20).mono ?_
          rintro e w21 ⟨A21, rfl, k1, hb⟩
          have P21 := Lib.hid k1
          have D24 : Hid (Below w.heap.size w w21) := D23.out.trans (hb.mono D23.out.size)
          have T23 := Lib.hid (T22.out.of_block (hb.block _ T22.out.lt))
          have R23 := Lib.hid (R22.out.below hb)
          have F23 := Lib.hid (F22.out.below hb)
          have V23 := Lib.hid (V22.out.below hb)
          have L23 := Lib.hid (L20.out.below hb)
          clear k1 hb D23 T22 R22 F22 V22 L20
          go_wp2_with fail
          refine (tm18 w21).mono ?_
          rintro e w22 ⟨A22, c22, rfl, k1, hb⟩
          have M22 := Lib.hid k1
          have D25 : Hid (Below w.heap.size w w22) := D24.out.trans (hb.mono D24.out.size)
          have P24 := Lib.hid ((P21.out.below hb).more hb.size)
          have T24 := Lib.hid (T23.out.of_block (hb.block _ T23.out.lt))
          have R24 := Lib.hid (R23.out.below hb)
          have F24 := Lib.hid (F23.out.below hb)
          have V24 := Lib.hid (V23.out.below hb)
          have L24 := Lib.hid (L23.out.below hb)
          clear k1 hb D24 T23 R23 F23 V23 L23 P21
          have t3 := T24.out.cell (i := 3) (by omega)
          rw [show i64s (psum (lf tL3)) 3 = .int .i64 17 by rw [i64s_at]; exact congrArg _ (by decide)] at t3
          have v0 := V24.out.c
          have v1 := V24.out.f
          clear T24
          go_wp2_with fail
          refine (tm15 w22 a18 R24.out).mono ?_
          rintro e w23 ⟨rfl, hb⟩
          have M23 := Lib.hid ((M22.out.below hb).more hb.size)
          have D26 : Hid (Below w.heap.size w w23) := D25.out.trans (hb.mono D25.out.size)
          have P25 := Lib.hid ((P24.out.below hb).more hb.size)
          have F25 := Lib.hid (F24.out.below hb)
          have L25 := Lib.hid (L24.out.below hb)
          clear hb M22 D25 P24 F24 L24 R24 V24 t3 v0 v1
          go_wp2_with fail
          refine (tm16 w23 _ p19 F25.out).mono ?_
          rintro e w24 ⟨rfl, rfl⟩
          clear F25
          go_wp2_with fail
          refine (tm12 w23 p20 L25.out).mono ?_
          rintro e w25 ⟨rfl, k1, k2⟩
          have hq : w.heap.size ≤ p20 := PB20.out
          have M24 := Lib.hid (sees_past M23.out L25.out (Nat.le_refl _) k2 0 (by omega) 7 rfl (by decide) (by decide))
          have P26 : Hid (SeesP w25 w25.heap.size A21 [(1, 3)]) := sees_past P25.out L25.out (Nat.le_refl _) k2 0 (by decide) 1 rfl (by decide) (by decide)
          have D27 : Hid (Below w.heap.size w w25) := D26.out.trans (k2.below D26.out.size (fun b h => by omega))
          have L26 := Lib.hid k1
          clear hq k1 k2 M23 P25 D26 L25
          go_wp2_with fail
          refine (tm13 w25 p20 L26.out).mono ?_
          rintro e w26 ⟨rfl, rfl⟩
          clear L26
          go_wp2_with fail
          refine (tm14 w25 A21 P26.out).mono ?_
          rintro e w27 ⟨rfl, hb⟩
          have D28 : Hid (Below w.heap.size w w27) := D27.out.trans (hb.mono D27.out.size)
          have M25 := Lib.hid ((M24.out.below hb).more hb.size)
          clear hb M24 P26 D27
          obtain ⟨mb, mo, rfl, _, mc⟩ := M25.out.at_ (k := 0) (by omega)
          rw [show spf [(7, -1)] 0 = .int .i64 7 from rfl, Nat.add_zero] at mc
          clear M25
          go_wp2_with fail
          go_ret
          exact ⟨rfl, D28.out⟩
end Go.Proofs.YtfmfmeiaekknbaaGreatDoor
end

section
/-
  Contracts of package fenwicks, fourth: the length in bits, Find.
-/
namespace Go.Proofs.YtfmfmeiaekknbaaGreatDoor
open Go.RowKit
set_option linter.unusedVariables false

/-- Where the descent stands. -/
def At (l : Nat → Int) (x : Int) (n s c : Nat) : Prop := ∃ t a, s = 2 ^ t / 2 ∧ c = a * 2 ^ t ∧ psum l c ≤ x ∧ ∀ m, c + 2 ^ t ≤ m → m ≤ n → x < psum l m
theorem At.start {l : Nat → Int} {x : Int} {n T : Nat} (h0 : 0 ≤ x) (hT : n < 2 ^ T) : At l x n (2 ^ T) 0 :=
  ⟨T + 1, 0, by rw [Nat.pow_succ]; omega, by omega, h0, fun m h1 h2 => by rw [Nat.pow_succ] at h1; omega⟩
theorem At.stop {l : Nat → Int} {x : Int} {n c i : Nat} (h : At l x n 0 c) (ok : Sizes l n) (hc : c ≤ n) (hi : i < n) (h1 : psum l i ≤ x) (h2 : x < psum l (i + 1)) : c = i := by
  obtain ⟨t, a, e1, e2, e3, e4⟩ := h
  have ht : t = 0 := by
    rcases t with _ | t
    · rfl
    · rw [Nat.pow_succ] at e1; have := Nat.two_pow_pos t; omega
  subst ht
  rcases Nat.lt_trichotomy c i with h | h | h
  · have := e4 (c + 1) (by omega) (by omega)
    have := ok.mono (a := c + 1) (b := i) (by omega) (by omega)
    omega
  · exact h
  · have := ok.mono (a := i + 1) (b := c) (by omega) hc
    omega
theorem At.clr {l : Nat → Int} {x : Int} {n s c : Nat} (h : At l x n s c) (hs : 0 < s) : clr (c + s) = c := by
  obtain ⟨t, a, e1, e2, e3, e4⟩ := h
  rcases t with _ | t
  · simp at e1; omega
  · have : s = 2 ^ t := by rw [e1, Nat.pow_succ]; omega
    rw [this, e2]; exact clr_step t a
theorem At.left {l : Nat → Int} {x : Int} {n s c : Nat} (h : At l x n s c) (hs : 0 < s) (hk : ∀ m, c + s ≤ m → m ≤ n → x < psum l m) : At l x n (s / 2) c := by
  obtain ⟨t, a, e1, e2, e3, e4⟩ := h
  rcases t with _ | t
  · simp at e1; omega
  · have e : s = 2 ^ t := by rw [e1, Nat.pow_succ]; omega
    exact ⟨t, 2 * a, by rw [e], by rw [e2, Nat.pow_succ, Nat.mul_comm (2 ^ t) 2, ← Nat.mul_assoc, Nat.mul_comm a 2], e3, fun m h1 h2 => hk m (by omega) h2⟩
theorem At.right {l : Nat → Int} {x : Int} {n s c : Nat} (h : At l x n s c) (hs : 0 < s) (hk : psum l (c + s) ≤ x) : At l x n (s / 2) (c + s) := by
  obtain ⟨t, a, e1, e2, e3, e4⟩ := h
  rcases t with _ | t
  · simp at e1; omega
  · have e : s = 2 ^ t := by rw [e1, Nat.pow_succ]; omega
    refine ⟨t, 2 * a + 1, by rw [e], ?_, hk, fun m h1 h2 => e4 m (by rw [Nat.pow_succ]; omega) h2⟩
    rw [e, e2, Nat.pow_succ, Nat.add_mul, Nat.mul_comm (2 ^ t) 2, ← Nat.mul_assoc, Nat.mul_comm a 2, Nat.one_mul]

end Go.Proofs.YtfmfmeiaekknbaaGreatDoor
end

section
/-
  The walk of the law TopOffsets.
-/
namespace Go.Proofs.YtfmfmeiaekknbaaGreatDoor
open Go.RowKit
set_option linter.unusedVariables false
set_option linter.unusedSimpArgs false

theorem place_any (l : Nat → Int) (x : Int) (h0 : 0 ≤ x) : ∀ n, x < psum l n → ∃ i, i < n ∧ psum l i ≤ x ∧ x < psum l (i + 1)
  | 0, h => absurd h (by show ¬ x < 0; omega)
  | n + 1, h => by
    by_cases c : x < psum l n
    · obtain ⟨i, h1, h2, h3⟩ := place_any l x h0 n c
      exact ⟨i, by omega, h2, h3⟩
    · exact ⟨n, by omega, by omega, h⟩
/-- What the law holds behind the four makers. -/
structure OS (w0 w : World) (qa : Nat) (a A' : Option Addr) (S : Sp) (R : Rws) (Al : Option Addr) (sq : Nat) (r : Option Addr) (p g : Nat) : Prop where
  lx : LX w0 w [(qa, a, A', S, R)] []
  sl : SeesL w w.heap.size Al (szs R)
  rv : Var w sq 27 (.pointer r)
  rp : Rp w r (szs R)
  fn : Fen w 0 p (szs R).length (lf (szs R))
  tp : w.rowIs g 2 ((szs R).length + 1) (i64s (psum (lf (szs R))))
theorem OS.below {w0 w w' : World} {qa : Nat} {a A' : Option Addr} {S : Sp} {R : Rws} {Al : Option Addr} {sq : Nat} {r : Option Addr} {p g : Nat} (h : OS w0 w qa a A' S R Al sq r p g) (hb : Below w.heap.size w w') : OS w0 w' qa a A' S R Al sq r p g :=
  ⟨h.lx.below hb, (h.sl.below hb).more hb.size, h.rv.below hb, h.rp.below hb, h.fn.below hb, h.tp.of_block (hb.block _ h.tp.lt)⟩
/-- The variable x of type I, and what it holds. -/
structure XI (w : World) (q : Nat) (A : Option Addr) (n c : Nat) (f : Nat → Int) (g : Bool) : Prop where
  v : w.rowIs q 24 2 (fun j => if j = 0 then .slice A n c else .bool g)
  s : Sees w w.heap.size A n (u8r f)
theorem XI.below {w w' : World} {q : Nat} {A : Option Addr} {n c : Nat} {f : Nat → Int} {g : Bool} (h : XI w q A n c f g) (hb : Below w.heap.size w w') : XI w' q A n c f g := ⟨h.v.of_block (hb.block _ h.v.lt), (h.s.below hb).more hb.size⟩
theorem XI.cells {w : World} {q : Nat} {A : Option Addr} {n c : Nat} {f : Nat → Int} {g : Bool} (h : XI w q A n c f g) : w.cell? ⟨q, 0, none⟩ = some (.slice A n c) ∧ w.cell? ⟨q, 1, none⟩ = some (.bool g) ∧ q < w.heap.size := ⟨h.v.cell (i := 0) (by omega), h.v.cell (i := 1) (by omega), h.v.lt⟩
theorem XI.mk' {w : World} {A : Option Addr} {n c : Nat} {f : Nat → Int} {g : Bool} (hs : Sees w w.heap.size A n (u8r f)) : XI (w.alloc (.cells #[.slice A n c, .bool g] 24)) w.heap.size A n c f g := by
  have b0 : Below w.heap.size w (w.alloc (.cells #[.slice A n c, .bool g] 24)) := (Below.refl _ w).alloc (Nat.le_refl _) _
  exact ⟨World.rowIs_alloc w #[.slice A n c, .bool g] 24 _ (fun j hj => by
    have : j = 0 ∨ j = 1 := by simp at hj; omega
    rcases this with rfl | rfl <;> rfl), (hs.below b0).more b0.size⟩
end Go.Proofs.YtfmfmeiaekknbaaGreatDoor
end

section
/-
  Flags: become.
-/
namespace Go.Proofs.YtfmfmeiaekknbaaGreatDoor
open Go.RowKit
set_option linter.unusedVariables false
set_option linter.unusedSimpArgs false

theorem set_next (P : List Bool) (r : Nat) (v : Bool) : (P ++ List.replicate (r + 1) false).set P.length v = (P ++ [v]) ++ List.replicate r false := by
  rw [List.set_append_right _ _ (Nat.le_refl _), Nat.sub_self, List.replicate_succ, List.set_cons_zero, List.append_assoc]; rfl
theorem take_snoc {M : List Bool} {j : Nat} (h : j < M.length) : M.take (j + 1) = M.take j ++ [bt M j] := by
  rw [List.take_succ_eq_append_getElem h, bt_lt h]
theorem zc_one : Tryz.zeroCells61.all (·.oneCell') = true := by
  rw [Array.all_eq_true]
  intro i hi
  have h := zc_at i (by rw [zc_size] at hi; exact hi)
  rw [Array.getElem?_eq_getElem hi] at h
  injection h with h
  rw [h]; split <;> rfl
/-- False bits alone, more of them. -/
theorem Fl.grow {w : World} {p a : Nat} (h : Fl w p (List.replicate a false)) (b : Nat) (hb : b ≤ 4096) : Fl (w.setCell ⟨p, 0, none⟩ (.int .i64 b)) p (List.replicate b false) := by
  refine ⟨World.rowIs.congr (World.rowIs.set h.row 0 (.int .i64 b)) fun j hj => ?_, by simp; exact hb, fun k hk => ?_, h.pos⟩
  · simp only [flc_rep]
    by_cases c : j = 0
    · rw [if_pos c, if_pos c]
    · rw [if_neg c, if_neg c, if_neg c]
  · have := h.pos
    rw [World.cell?_setCell_other]
    · exact h.tab k hk
    · intro e; injection e with e; omega
theorem Fl.clear {w : World} {p : Nat} {l : List Bool} (h : Fl w p l) : Fl (w.setRow p Tryz.zeroCells61) p (List.replicate 0 false) ∧ Fr (fun b => b = p) w (w.setRow p Tryz.zeroCells61) ∧ (Instr.storeAt 61 (.pointer (some ⟨p, 0, none⟩)) (.agg Tryz.zeroCells61)).run Tryz.prog w = .ok () (w.setRow p Tryz.zeroCells61) := by
  obtain ⟨cur, hg, hsz, hc⟩ := h.row
  have hfr : Fr (fun b => b = p) w (w.setRow p Tryz.zeroCells61) := ⟨rfl, rfl, rfl, by simp, fun k _ hk => setRow_other w p k _ hk⟩
  refine ⟨⟨⟨_, setRow_heap w p cur _ _ _ hg, zc_size, fun j hj => ?_⟩, by simp, ?_, h.pos⟩, hfr, ?_⟩
  · rw [zc_at j hj, flc_rep]
    by_cases c : j = 0
    · subst c; rfl
    · by_cases d : j = 1
      · subst d; rfl
      · rw [if_neg (by omega), if_neg c, if_neg d]
  · intro i hi
    have := h.pos
    rw [cell_setRow_other _ _ _ _ (show 0 ≠ p by omega)]
    exact h.tab i hi
  · simp only [Instr.storeAt, Instr.sureAddr, Sem.run_bind, Sem.run_pure, Result.andThen]
    exact run_storeVar_row _ _ 61 61 cur _ hg (by rw [zc_size]; exact infoFl) (by rw [zc_size]; exact hsz) zc_one
end Go.Proofs.YtfmfmeiaekknbaaGreatDoor
end

section
/-
  Flags: Remove, Insert, Move.
-/
namespace Go.Proofs.YtfmfmeiaekknbaaGreatDoor
open Go.RowKit
set_option linter.unusedVariables false
set_option linter.unusedSimpArgs false

theorem SeesO.first {S : Nat → Prop} {w : World} {A : Option Addr} {l : List Bool} (h : SeesO S w A l.length (bvs l)) (k : Nat) (hk : k ≤ l.length) : SeesO S w A (l.take k).length (bvs (l.take k)) := by
  intro hn
  rw [List.length_take, Nat.min_eq_left hk] at hn
  obtain ⟨b, o, h1, h2, h3, h4⟩ := h (by omega)
  refine ⟨b, o, h1, h2, h3, fun j hj => ?_⟩
  rw [List.length_take, Nat.min_eq_left hk] at hj
  rw [h4 j (by omega), bvs_at, bvs_at, bt_take hj]
theorem SeesO.part {S : Nat → Prop} {w : World} {b o c lo hi : Nat} {l : List Bool} (h : SeesO S w (some ⟨b, o, none⟩) l.length (bvs l)) (hnc : l.length ≤ c) (h1 : lo ≤ hi) (h2 : hi ≤ l.length) : SeesO S w (subA (some ⟨b, o, none⟩) c lo 1) ((l.drop lo).take (hi - lo)).length (bvs ((l.drop lo).take (hi - lo))) := by
  intro hn
  rw [List.length_take, List.length_drop, Nat.min_eq_left (by omega)] at hn
  obtain ⟨b', o', e, h3, h4, h5⟩ := h (by omega)
  injection e with e; injection e with e1 e2
  subst e1; subst e2
  refine ⟨b, o + lo, ?_, h3, h4, fun j hj => ?_⟩
  · unfold subA
    rw [if_neg (by omega)]
    show some (Addr.add _ _) = _
    rw [add_none, Nat.mul_one]
  · rw [List.length_take, List.length_drop, Nat.min_eq_left (by omega)] at hj
    rw [Nat.add_assoc, h5 _ (by omega), bvs_at, bvs_at, bt_take hj, bt_drop]
theorem SeesO.rest {S : Nat → Prop} {w : World} {b o c lo : Nat} {l : List Bool} (h : SeesO S w (some ⟨b, o, none⟩) l.length (bvs l)) (hnc : l.length ≤ c) (h1 : lo ≤ l.length) : SeesO S w (subA (some ⟨b, o, none⟩) c lo 1) (l.drop lo).length (bvs (l.drop lo)) := by
  have := SeesO.part h hnc h1 (Nat.le_refl _)
  rwa [List.take_of_length_le (by rw [List.length_drop]; exact Nat.le_refl _)] at this
theorem Fl.chkErr {w : World} {p : Nat} {l : List Bool} (h : Fl w p l) (i k : Int) : flErr l.length i k = fRemErr l i k := by
  unfold flErr fRemErr; rfl
end Go.Proofs.YtfmfmeiaekknbaaGreatDoor
end

section
/-
  Flags: no flags; the law package's made, same, bits.
-/
namespace Go.Proofs.YtfmfmeiaekknbaaGreatDoor
open Go.RowKit
set_option linter.unusedVariables false
set_option linter.unusedSimpArgs false

theorem Fr.wide {p : Nat} {w0 w w' : World} (h : Fr (fun b => b = p) w w') (hp : w0.heap.size ≤ p) (hb : Below w0.heap.size w0 w) : Below w0.heap.size w0 w' :=
  hb.trans (h.below hb.size (by rintro b rfl; exact hp))

theorem made_step (M : List Bool) {j : Nat} (h : j < M.length) : (M.take j ++ List.replicate (M.length - j) false).set j (bt M j) = M.take (j + 1) ++ List.replicate (M.length - (j + 1)) false := by
  have e := set_next (M.take j) (M.length - (j + 1)) (bt M j)
  rw [List.length_take, Nat.min_eq_left (Nat.le_of_lt h), ← take_snoc h] at e
  rw [show M.length - j = M.length - (j + 1) + 1 from by omega]
  exact e
end Go.Proofs.YtfmfmeiaekknbaaGreatDoor
end

section
/-
  Flags: Spans.
-/
namespace Go.Proofs.YtfmfmeiaekknbaaGreatDoor
open Go.RowKit
set_option linter.unusedVariables false
set_option linter.unusedSimpArgs false

/-- The places that are set, of the first k. -/
def plc (l : List Bool) : Nat → List Int
  | 0 => []
  | k + 1 => plc l k ++ (if bt l k then [(k : Int)] else [])
theorem plc_mem (l : List Bool) (x : Int) : ∀ k, x ∈ plc l k ↔ 0 ≤ x ∧ x < k ∧ bt l x.toNat = true := by
  intro k
  induction k with
  | zero => simp [plc]; omega
  | succ k ih =>
    unfold plc
    rw [List.mem_append, ih]
    constructor
    · rintro (⟨h1, h2, h3⟩ | h)
      · exact ⟨h1, by omega, h3⟩
      · cases e : bt l k with
        | false => rw [e] at h; simp at h
        | true =>
          rw [e] at h
          simp at h
          subst h
          exact ⟨by omega, by omega, by rw [Int.toNat_natCast]; exact e⟩
    · rintro ⟨h1, h2, h3⟩
      by_cases c : x < k
      · exact .inl ⟨h1, c, h3⟩
      · right
        have : x = (k : Int) := by omega
        subst this
        rw [Int.toNat_natCast] at h3
        rw [h3]; simp
theorem plc_len (l : List Bool) : ∀ k, (plc l k).length ≤ k := by
  intro k
  induction k with
  | zero => exact Nat.le_refl _
  | succ k ih => unfold plc; rw [List.length_append]; split <;> simp <;> omega
/-- R is the set of the places that are set. -/
structure SetOf (l : List Bool) (R : Sp) : Prop where
  nf : NF R
  me : ∀ i, memS R i ↔ 0 ≤ i ∧ i < l.length ∧ bt l i.toNat = true
theorem NFfrom.end_below {n : Int} {L : Sp} : ∀ {lo : Int}, NFfrom lo L → (∀ i, memS L i → i < n) → lo ≤ n → endS lo L ≤ n := by
  induction L with
  | nil => intro lo _ _ hl; exact hl
  | cons s r ih =>
    rintro lo ⟨h1, h2, h3, h4⟩ hm hl
    have := hm (s.2 - 1) ((memS_cons s r _).2 (.inl ⟨by omega, by omega⟩))
    exact ih h4 (fun i hi => hm i ((memS_cons s r i).2 (.inr hi))) (by omega)
theorem SetOf.len {l : List Bool} {R : Sp} (h : SetOf l R) : 2 * R.length ≤ l.length + 1 := by
  have h1 := h.nf.le_end
  have h2 := NFfrom.end_below (n := l.length) h.nf (fun i hi => ((h.me i).1 hi).2.1) (by omega)
  omega
def ivs (P : List Int) : Nat → Value := fun j => .int .i64 (P.getD j 0)
theorem ivs_snoc (P : List Int) (x : Int) (j : Nat) (hj : j < P.length + 1) : (if j < P.length then ivs P j else .int .i64 x) = ivs (P ++ [x]) j := by
  unfold ivs
  rw [List.getD_eq_getElem?_getD, List.getD_eq_getElem?_getD]
  by_cases c : j < P.length
  · rw [if_pos c, List.getElem?_append_left c]
  · rw [if_neg c, List.getElem?_append_right (by omega), show j - P.length = 0 from by omega]; rfl
theorem own_ints {w : World} {B c : Nat} {A : Option Addr} {P : List Int} (h : Own w B 3 1 P.length c A (ivs P)) : IntsAt w.heap.size w (.slice A P.length c) P := by
  rcases h with ⟨rfl, h2, rfl⟩ | ⟨hle, g, F', rfl, hg, hr, hF⟩
  · have : P = [] := List.eq_nil_of_length_eq_zero h2
    subst this
    exact .inl ⟨⟨_, _, rfl⟩, rfl⟩
  · refine .inr ⟨g, 0, c, rfl, hr.lt, fun j hj => ?_⟩
    rw [Nat.zero_add, hr.cell (by omega), hF j (by omega)]
    unfold ivs; rw [List.getD_eq_getElem?_getD]
set_option maxRecDepth 100000 in
set_option maxHeartbeats 3200000 in
theorem fspans_any (w : World) (p : Nat) (l : List Bool) (h : Fl w p l) :
    Calls Tryz.prog 10 #[.pointer (some ⟨p, 0, none⟩)] w fun e w' => ∃ R A, SetOf l R ∧ e = .returned (.slice A R.length R.length) ∧ SeesP w' w'.heap.size A R ∧ Below w.heap.size w w' := by
  have hn := h.len
  have HF := Lib.hid h
  have c0 := h.cells.c0
  obtain ⟨n, en⟩ : ∃ n, n = l.length := ⟨_, rfl⟩
  have EN := Lib.hid en
  rw [← en] at hn c0
  clear h en
  go_enter Tryz.func10, Tryz.ntmps10
  go_wp2_with fail
  clear c0
  go_loopw [3, 13] (fun o i wr => ∃ (k : Nat) (A : Option Addr) (c : Nat), k ≤ n ∧ o = .slice A (plc l k).length c ∧ i = .int .i64 k ∧ Hid (Own wr w.heap.size 3 1 (plc l k).length c A (ivs (plc l k))) ∧ Hid (Below w.heap.size w wr)) (fun _ i _ => n - (intOf i).toNat)
  case atStart => exact ⟨0, none, 0, Nat.zero_le _, rfl, rfl, Own.nil _ _ _ _ _, Below.refl _ _⟩
  case round =>
    obtain ⟨k, A, c, hk, rfl, rfl, hO, hD⟩ := hrel
    have hpl := plc_len l k
    by_cases hlt : k < n
    · have hki : (k : Int) < (n : Int) := by omega
      have KG := Lib.hid (fget_any wr p l (HF.out.below (hD.out)) k (by rw [← EN.out]; exact hlt))
      have EP : plc l (k + 1) = plc l k ++ (if bt l k then [(k : Int)] else []) := rfl
      have EP := Lib.hid EP
      cases hb : bt l k with
      | false =>
        rw [hb] at KG EP
        have EP2 : Hid (plc l (k + 1) = plc l k) := by show _ = _; have := EP.out; simpa using this
        clear hb EP
        go_wp2_with fail
        refine (KG.out).mono ?_
        rintro e w' ⟨rfl, rfl⟩
        go_wp2_with fail
        go_roundw
        case rel => exact ⟨k + 1, A, c, hlt, by rw [EP2.out], by go_num, by rw [EP2.out]; exact hO, hD⟩
        case measure => simp [intOf]; omega
      | true =>
        rw [hb] at KG EP
        have EP2 : Hid (plc l (k + 1) = plc l k ++ [(k : Int)]) := by show _ = _; have := EP.out; simpa using this
        obtain ⟨A2, c2, w2, run, O2, fr, _, _⟩ := own_push (P := Tryz.prog) wr w.heap.size Tryz.underlying64 infoInt rfl hO.out hD.out.size (.int .i64 k) rfl (by omega) (by omega)
        have O3 : Hid (Own w2 w.heap.size 3 1 (plc l (k + 1)).length c2 A2 (ivs (plc l (k + 1)))) := by
          show Own _ _ _ _ _ _ _ _
          rw [EP2.out, List.length_append]
          exact O2.congr fun j hj => ivs_snoc _ _ j (by simpa using hj)
        have D3 := Lib.hid (hD.out.trans (fr.below hD.out.size fun b hb => (hO.out.blk b hb).1))
        have RUN := Lib.hid run
        have LL : Hid ((plc l (k + 1)).length = (plc l k).length + 1) := by show _ = _; rw [EP2.out]; simp
        obtain ⟨m, em⟩ : ∃ m, m = (plc l k).length := ⟨_, rfl⟩
        rw [← em] at RUN LL hpl ⊢
        clear hb EP run O2 fr hO hD em
        go_wp2_with fail
        refine (KG.out).mono ?_
        rintro e w' ⟨rfl, rfl⟩
        go_wp2_with (at_builtin; refine Hid.out ?_)
        refine Lib.hid (Lib.wpList_append_run _ rfl _ _ _ _ rfl _ _ rfl rfl _ _ (RUN.out _) ?_)
        go_wp2_with fail
        go_roundw
        case rel => exact ⟨k + 1, A2, c2, hlt, by rw [LL.out], by go_num, O3, D3⟩
        case measure => simp [intOf]; omega
    · obtain rfl : k = n := by omega
      have KS := sof_any wr A c (plc l k) (own_ints hO.out) (by omega) (fun x hx => by have := (plc_mem l x k).1 hx; exact ⟨by omega, by omega⟩)
      have NB : ¬ badPlace (plc l k) := by
        rintro ⟨x, hx, hb⟩
        have := (plc_mem l x k).1 hx
        omega
      have KS := Lib.hid KS
      have NB := Lib.hid NB
      have D3 := Lib.hid hD.out
      clear hO hD hpl
      generalize hm : (plc l k).length = m at KS ⊢
      clear hm
      go_wp2_with fail
      refine (KS.out).mono ?_
      rintro e w2 hp
      rcases hp with ⟨hb, _⟩ | ⟨_, R, hR, hme, A', rfl, hs, hb⟩
      · exact absurd hb NB.out
      have HS : SetOf l R := ⟨hR, fun i => by rw [hme, plc_mem, EN.out]⟩
      have hle := HS.len
      rw [show dS R = R from by unfold dS; rw [if_neg (by rw [← EN.out] at hle; omega)]] at hs ⊢
      have HS := Lib.hid HS
      have S3 := Lib.hid hs
      have D4 := Lib.hid (D3.out.trans (hb.mono D3.out.size))
      clear hR hme hs hb hle
      go_wp2_with fail
      go_ret
      exact ⟨R, A', HS.out, rfl, S3.out, D4.out⟩
end Go.Proofs.YtfmfmeiaekknbaaGreatDoor
end

section
/-
  The law package of layer 1, second: what a function holds; same; literals; results that are known.
-/
namespace Go.Proofs.YtfmfmeiaekknbaaGreatDoor
open Go.RowKit
set_option linter.unusedVariables false
set_option linter.unusedSimpArgs false

/-- The sets that a function holds. -/
structure PS (w0 w : World) (qs : List (Option Addr × Sp)) : Prop where
  bl : Below w0.heap.size w0 w
  s : ∀ q ∈ qs, SeesP w w.heap.size q.1 q.2
theorem PS.start {w0 w : World} (hb : Below w0.heap.size w0 w) : PS w0 w [] := ⟨hb, fun q h => nomatch h⟩
theorem PS.below {w0 w w' : World} {qs : List (Option Addr × Sp)} (h : PS w0 w qs) (hb : Below w.heap.size w w') : PS w0 w' qs := ⟨h.bl.trans (hb.mono h.bl.size), fun q hq => ((h.s q hq).below hb).more hb.size⟩
theorem PS.add {w0 w : World} {qs : List (Option Addr × Sp)} (h : PS w0 w qs) {A : Option Addr} {L : Sp} (hs : SeesP w w.heap.size A L) : PS w0 w ((A, L) :: qs) := ⟨h.bl, fun q hq => by
  rcases List.mem_cons.1 hq with rfl | hq
  · exact hs
  · exact h.s q hq⟩
theorem PS.alloc {w0 w : World} {qs : List (Option Addr × Sp)} (h : PS w0 w qs) (o : Obj) : PS w0 (w.alloc o) qs := h.below ((Below.refl _ w).alloc (Nat.le_refl _) o)
theorem PS.drawn {w0 w w' : World} {qs : List (Option Addr × Sp)} (h : PS w0 w qs) (hd : Drawn w w') : PS w0 w' qs := h.below (hd.below _)
theorem PS.see {w0 w : World} {qs : List (Option Addr × Sp)} (h : PS w0 w qs) {A : Option Addr} {L : Sp} (hq : (A, L) ∈ qs) : SeesP w w.heap.size A L := h.s _ hq
theorem PS.sub {w0 w : World} {qs qs' : List (Option Addr × Sp)} (h : PS w0 w qs) (hq : ∀ x ∈ qs', x ∈ qs) : PS w0 w qs' := ⟨h.bl, fun x hx => h.s x (hq x hx)⟩

/-! ### Results that are known -/
theorem OfPost.bad {w w' : World} {L : List Int} {e : Ending} (h : OfPost w L e w') (h0 : badPlace L) : SPost w [] 4 e w' := by
  rcases h with ⟨_, h⟩ | ⟨h, _⟩
  · exact h
  · exact absurd h0 h
end Go.Proofs.YtfmfmeiaekknbaaGreatDoor
end

section
/-
  Spans, plain: how many places; how many spans; the moves.
-/
namespace Go.Proofs.YtfmfmeiaekknbaaGreatDoor
open Go.RowKit
set_option linter.unusedVariables false
set_option linter.unusedSimpArgs false

/-- How many of m places from lo on. -/
def cI (f : Int → Bool) (lo : Int) : Nat → Int
  | 0 => 0
  | m + 1 => cI f lo m + (if f (lo + m) then 1 else 0)
theorem cI_zero {f : Int → Bool} {lo : Int} {m : Nat} (h : ∀ i, lo ≤ i → i < lo + m → f i = false) : cI f lo m = 0 := by
  induction m with
  | zero => rfl
  | succ m ih =>
    show cI f lo m + (if f (lo + m) then (1 : Int) else 0) = 0
    rw [ih fun i h1 h2 => h i h1 (by push_cast; omega), h (lo + m) (by omega) (by push_cast; omega)]
    rfl
theorem cI_add (f : Int → Bool) (lo : Int) (m k : Nat) : cI f lo (m + k) = cI f lo m + cI f (lo + m) k := by
  induction k with
  | zero => show cI f lo m = cI f lo m + 0; omega
  | succ k ih =>
    show cI f lo (m + k) + (if f (lo + (m + k : Nat)) then (1 : Int) else 0) = cI f lo m + (cI f (lo + m) k + (if f (lo + m + k) then (1 : Int) else 0))
    rw [ih, show lo + ((m + k : Nat) : Int) = lo + m + k from by push_cast; omega]
    omega
theorem cI_or (f g : Int → Bool) (lo : Int) (m : Nat) : cI (fun i => f i || g i) lo m + cI (fun i => f i && g i) lo m = cI f lo m + cI g lo m := by
  induction m with
  | zero => rfl
  | succ m ih =>
    show cI (fun i => f i || g i) lo m + (if (f (lo + m) || g (lo + m)) = true then (1 : Int) else 0) + (cI (fun i => f i && g i) lo m + (if (f (lo + m) && g (lo + m)) = true then (1 : Int) else 0)) = cI f lo m + (if f (lo + m) then (1 : Int) else 0) + (cI g lo m + (if g (lo + m) then (1 : Int) else 0))
    cases f (lo + m) <;> cases g (lo + m) <;> simp <;> omega
theorem cI_seg (x y lo : Int) (m : Nat) (h : x ≤ y) : cI (fun i => decide (x ≤ i) && decide (i < y)) lo m = max 0 (min y (lo + m) - max x lo) := by
  induction m with
  | zero => show (0 : Int) = max 0 (min y (lo + (0 : Nat)) - max x lo); omega
  | succ m ih =>
    show cI (fun i => decide (x ≤ i) && decide (i < y)) lo m + (if (decide (x ≤ lo + m) && decide (lo + m < y)) = true then (1 : Int) else 0) = _
    rw [ih]
    push_cast
    by_cases c1 : x ≤ lo + m
    · by_cases c2 : lo + m < y
      · rw [decide_eq_true c1, decide_eq_true c2, if_pos (by decide)]; omega
      · rw [decide_eq_true c1, decide_eq_false c2, if_neg (by decide)]; omega
    · rw [decide_eq_false c1, if_neg (by simp)]; omega
/-- How many places of some that a set has. -/
def goneS (a n : Int) : Sp → Int
  | [] => 0
  | s :: r => max 0 (min s.2 (a + n) - max s.1 a) + goneS a n r
theorem NFfrom.cI {lo : Int} {L : Sp} (h : NFfrom lo L) (a : Int) (n : Nat) : goneS a n L = Go.Proofs.YtfmfmeiaekknbaaGreatDoor.cI (anyS L) a n := by
  induction L generalizing lo with
  | nil => exact (cI_zero fun _ _ _ => rfl).symm
  | cons s r ih =>
    obtain ⟨h1, h2, h3, h4⟩ := h
    have e := cI_or (fun i => decide (s.1 ≤ i) && decide (i < s.2)) (anyS r) a n
    have z : Go.Proofs.YtfmfmeiaekknbaaGreatDoor.cI (fun i => (decide (s.1 ≤ i) && decide (i < s.2)) && anyS r i) a n = 0 := cI_zero fun i _ _ => by
      by_cases c : i < s.2
      · have : anyS r i = false := by
          rw [← Bool.not_eq_true, anyS_iff]
          intro q
          have := h4.mem_gt q
          omega
        rw [this, Bool.and_false]
      · rw [decide_eq_false c, Bool.and_false, Bool.false_and]
    rw [z, cI_seg _ _ _ _ (by omega)] at e
    show max 0 (min s.2 (a + n) - max s.1 a) + goneS a n r = Go.Proofs.YtfmfmeiaekknbaaGreatDoor.cI (fun i => (decide (s.1 ≤ i) && decide (i < s.2)) || anyS r i) a n
    rw [ih h4]
    omega
theorem NFfrom.cnt_gone {lo : Int} {L : Sp} (h : NFfrom lo L) (hl : -1 ≤ lo) {m : Int} (hm : 1073741824 ≤ m) : cntS L = goneS 0 m L := by
  induction L generalizing lo with
  | nil => rfl
  | cons s r ih =>
    obtain ⟨h1, h2, h3, h4⟩ := h
    show s.2 - s.1 + cntS r = max 0 (min s.2 (0 + m) - max s.1 0) + goneS 0 m r
    rw [ih h4 (by omega)]
    omega
theorem NF.cnt {L : Sp} (h : NF L) {m : Nat} (hm : 1073741824 ≤ m) : cntS L = cI (anyS L) 0 m := by
  rw [NFfrom.cnt_gone h (by omega) (m := m) (by omega)]
  exact NFfrom.cI h 0 m
theorem anyS_no {L : Sp} {i : Int} (h : ¬ memS L i) : anyS L i = false := by
  rw [← Bool.not_eq_true, anyS_iff]; exact h
/-! ### How many spans -/
theorem nodup_le : ∀ (A K : List Int), A.Nodup → (∀ x ∈ A, x ∈ K) → A.length ≤ K.length
  | [], K, _, _ => Nat.zero_le _
  | a :: r, K, hn, hs => by
    have ha := hs a List.mem_cons_self
    have hn' := List.nodup_cons.1 hn
    have := nodup_le r (K.erase a) hn'.2 fun x hx => (List.mem_erase_of_ne (by rintro rfl; exact hn'.1 hx)).2 (hs x (List.mem_cons_of_mem _ hx))
    rw [List.length_erase_of_mem ha] at this
    have : 0 < K.length := List.length_pos_of_mem ha
    rw [List.length_cons]
    omega
theorem NFfrom.nodup {lo : Int} {L : Sp} (h : NFfrom lo L) : (L.map (·.1)).Nodup := by
  induction L generalizing lo with
  | nil => exact List.nodup_nil
  | cons s r ih =>
    obtain ⟨h1, h2, h3, h4⟩ := h
    refine List.nodup_cons.2 ⟨fun hx => ?_, ih h4⟩
    obtain ⟨t, ht, e⟩ := List.mem_map.1 hx
    have := (h4.mem t ht).1
    have e : t.1 = s.1 := e
    omega
/-- A span begins where the place before is not in. -/
theorem NFfrom.starts {lo : Int} {L : Sp} (h : NFfrom lo L) : ∀ s ∈ L, memS L s.1 ∧ ¬ memS L (s.1 - 1) := by
  induction L generalizing lo with
  | nil => intro s hs; cases hs
  | cons x r ih =>
    obtain ⟨h1, h2, h3, h4⟩ := h
    intro s hs
    rcases List.mem_cons.1 hs with rfl | hs
    · refine ⟨(memS_cons _ _ _).2 (.inl ⟨Int.le_refl _, h2⟩), fun q => ?_⟩
      rcases (memS_cons _ _ _).1 q with ⟨q1, q2⟩ | q
      · omega
      · have := h4.mem_gt q; omega
    · obtain ⟨q1, q2⟩ := ih h4 s hs
      refine ⟨(memS_cons _ _ _).2 (.inr q1), fun q => ?_⟩
      rcases (memS_cons _ _ _).1 q with ⟨q3, q4⟩ | q
      · have := h4.mem s hs; omega
      · exact q2 q
theorem start_mem {L : Sp} {i : Int} (h : memS L i) (h' : ¬ memS L (i - 1)) : i ∈ L.map (·.1) := by
  obtain ⟨s, hs, h1, h2⟩ := h
  refine List.mem_map.2 ⟨s, hs, ?_⟩
  by_cases c : s.1 = i
  · exact c
  · exact absurd ⟨s, hs, by omega, by omega⟩ h'
theorem stop_mem {L : Sp} {i : Int} (h : ¬ memS L i) (h' : memS L (i - 1)) : i ∈ L.map (·.2) := by
  obtain ⟨s, hs, h1, h2⟩ := h'
  refine List.mem_map.2 ⟨s, hs, ?_⟩
  by_cases c : s.2 = i
  · exact c
  · exact absurd ⟨s, hs, by omega, by omega⟩ h
theorem NFfrom.len_le {lo : Int} {R : Sp} (h : NFfrom lo R) {K : List Int} (hk : ∀ i, memS R i → ¬ memS R (i - 1) → i ∈ K) : R.length ≤ K.length := by
  have := nodup_le (R.map (·.1)) K h.nodup fun x hx => by
    obtain ⟨s, hs, rfl⟩ := List.mem_map.1 hx
    exact hk _ (h.starts s hs).1 (h.starts s hs).2
  rwa [List.length_map] at this
theorem edge_mem {L : Sp} {i : Int} (h : anyS L i ≠ anyS L (i - 1)) : i ∈ L.map (·.1) ++ L.map (·.2) := by
  by_cases c : anyS L i = true
  · refine List.mem_append_left _ (start_mem ((anyS_iff _ _).1 c) fun q => h ?_)
    rw [c, (anyS_iff _ _).2 q]
  · refine List.mem_append_right _ (stop_mem (fun q => c ((anyS_iff _ _).2 q)) ?_)
    rw [← anyS_iff]
    cases e : anyS L (i - 1)
    · exact absurd (by rw [e]; simpa using c) h
    · rfl
theorem Merged.len {kp : Bool → Bool → Bool} {L M R : Sp} (h : Merged kp L M R) : R.length ≤ 2 * L.length + 2 * M.length := by
  have := NFfrom.len_le h.nf (K := (L.map (·.1) ++ L.map (·.2)) ++ (M.map (·.1) ++ M.map (·.2))) fun i h1 h2 => by
    rw [h.me] at h1 h2
    by_cases c : anyS L i = anyS L (i - 1)
    · by_cases d : anyS M i = anyS M (i - 1)
      · rw [c, d] at h1; exact absurd h1 h2
      · exact List.mem_append_right _ (edge_mem d)
    · exact List.mem_append_left _ (edge_mem c)
  simp only [List.length_append, List.length_map] at this
  omega
/-! ### Results of sets that are not great -/
end Go.Proofs.YtfmfmeiaekknbaaGreatDoor
end

section
/-
  The walk of the law TopKnown.
-/
namespace Go.Proofs.YtfmfmeiaekknbaaGreatDoor
open Go.RowKit
set_option linter.unusedVariables false
set_option linter.unusedSimpArgs false

/-- The rows of an index that are known, as bits. -/
def kl (R : Rws) : List Bool := R.map (·.2)
theorem kl_len (R : Rws) : (kl R).length = R.length := List.length_map _
theorem bt_kl (R : Rws) (j : Nat) : bt (kl R) j = kn R j := by
  unfold bt kl kn
  rw [List.getD_eq_getElem?_getD, List.getD_eq_getElem?_getD, List.getElem?_map]
  cases R[j]? <;> rfl
def klTo (R : Rws) (k : Nat) : List Bool := (kl R).take k ++ List.replicate ((kl R).length - k) false
theorem klTo_zero (R : Rws) : klTo R 0 = List.replicate R.length false := by unfold klTo; rw [kl_len]; rfl
theorem klTo_len (R : Rws) {k : Nat} (h : k ≤ R.length) : (klTo R k).length = R.length := by
  unfold klTo
  rw [List.length_append, List.length_take, List.length_replicate, kl_len]; omega
theorem klTo_step (R : Rws) {k : Nat} (h : k < R.length) : (klTo R k).set k (kn R k) = klTo R (k + 1) := by
  have := made_step (kl R) (j := k) (by rw [kl_len]; exact h)
  rwa [bt_kl] at this
theorem klTo_all (R : Rws) : klTo R R.length = kl R := by
  unfold klTo
  rw [kl_len, Nat.sub_self, ← kl_len R, List.take_length]; simp
theorem set_kn {R : Rws} {S : Sp} (h : SetOf (kl R) S) : KnS S (kn R) := ⟨h.nf, fun j => by
  rw [h.me, kl_len, Int.toNat_natCast, bt_kl]
  constructor
  · exact fun h => h.2.2
  · exact fun h => ⟨by omega, by have := kn_lt h; omega, h⟩⟩
theorem cI_nat (f : Int → Bool) : ∀ m, cI f 0 m = ((cnt (fun j => f (j : Int)) m : Nat) : Int) := by
  intro m
  induction m with
  | zero => rfl
  | succ m ih =>
    show cI f 0 m + (if f (0 + (m : Int)) then 1 else 0) = _
    rw [ih, cnt_succ, Int.zero_add]
    split <;> simp
theorem set_count {l : List Bool} {S : Sp} (h : SetOf l S) (hl : l.length ≤ 1000) : countS S = cn l := by
  have hlen := h.len
  unfold countS
  rw [if_pos (chkS_zero.2 ⟨h.nf, by omega⟩), NF.cnt h.nf (m := l.length + (1073741824 - l.length)) (by omega), cI_add, cI_nat, cI_zero (fun i h1 h2 => anyS_no fun hm => by
    have := (h.me i).1 hm
    omega), Int.add_zero]
  unfold cn
  have hk : KnS S (bt l) := ⟨h.nf, fun j => by
    rw [h.me, Int.toNat_natCast]
    exact ⟨fun h => h.2.2, fun hb => ⟨by omega, by have := bt_mem hb; omega, hb⟩⟩⟩
  rw [cnt_congr (x := fun j => anyS S (j : Int)) (y := bt l) fun j _ => hk.any j]
theorem known_ok {R : Rws} {k : Nat} (h : k < R.length) : knVal R (k : Int) = kn R k ∧ knErr R (k : Int) = 0 := by
  unfold knVal knErr
  rw [if_neg (by omega), if_neg (by omega), Int.toNat_natCast]
  exact ⟨rfl, rfl⟩
theorem knext_yes (w : World) (p : Nat) (l : List Bool) (h : Fl w p l) (i t : Nat) (v : Bool) (hi : i ≤ t) (ht : t < l.length) (hv : bt l t = v) (hb : ∀ j, i ≤ j → j < t → bt l j = !v) :
    Calls Tryz.prog 16 #[.pointer (some ⟨p, 0, none⟩), .int .i64 i, .bool v] w fun e w' => e = .returned (.tuple #[.int .i64 t, .int .i64 0]) ∧ w = w' := by
  refine (fNext_any w p l h i (by omega) v).mono ?_
  rintro e w' ⟨⟨s, rfl, h1, h2, h3, h4⟩ | ⟨rfl, h1⟩, rfl⟩
  · rcases Nat.lt_trichotomy s t with c | c | c
    · rw [hb s h1 c] at h3; cases v <;> cases h3
    · subst c; exact ⟨rfl, rfl⟩
    · rw [h4 t hi c] at hv; cases v <;> cases hv
  · rw [h1 t hi ht] at hv; cases v <;> cases hv
theorem knext_no (w : World) (p : Nat) (l : List Bool) (h : Fl w p l) (i : Nat) (v : Bool) (hi : i ≤ l.length) (hb : ∀ j, i ≤ j → j < l.length → bt l j = !v) :
    Calls Tryz.prog 16 #[.pointer (some ⟨p, 0, none⟩), .int .i64 i, .bool v] w fun e w' => e = .returned (.tuple #[.int .i64 0, .int .i64 11]) ∧ w = w' := by
  refine (fNext_any w p l h i hi v).mono ?_
  rintro e w' ⟨⟨s, rfl, h1, h2, h3, h4⟩ | ⟨rfl, h1⟩, rfl⟩
  · rw [hb s h1 h2] at h3; cases v <;> cases h3
  · exact ⟨rfl, rfl⟩
theorem kunk_at (w : World) (a A : Option Addr) (S : Sp) (R : Rws) (h : Ix w a A S R) (p q f0 : Nat) (hpq : p ≤ q) (hq : q ≤ R.length) (hl : R.length ≤ 1000) (h1 : p ≤ f0) (h2 : ∀ j : Nat, p ≤ j → j < f0 → kn R j = true) (h3 : kn R f0 = false) :
    Calls Tryz.prog 15 #[ixv a A S.length, .int .i64 p, .int .i64 q] w fun e w' => e = .returned (.tuple #[.int .i64 (if q ≤ f0 then 0 else (f0 : Int)), .int .i64 (if q ≤ f0 then 11 else 0)]) ∧ Below w.heap.size w w' := by
  refine (iunknown_any w a A S R h p q ⟨by omega, by omega⟩ ⟨by omega, by omega⟩).mono ?_
  rintro e w' ⟨h | ⟨_, f, g1, g2, g3, rfl⟩, hb⟩
  · exact absurd h.1 (by omega)
  · have e : f = f0 := by
      apply Classical.byContradiction; intro c
      by_cases d : f < f0
      · have := h2 f (by omega) d; rw [g3] at this; cases this
      · have := g2 f0 (by omega) (by omega); rw [h3] at this; cases this
    subst e
    refine ⟨?_, hb⟩
    by_cases c : q ≤ f
    · rw [if_pos c, if_pos c, if_pos (by omega), if_pos (by omega)]
    · rw [if_neg c, if_neg c, if_neg (by omega), if_neg (by omega)]
theorem ktmod (a n : Nat) : ∃ i : Nat, i ≤ n ∧ Int.tmod (a : Int) ((n : Int) + 1) = (i : Int) :=
  ⟨a % (n + 1), Nat.le_of_lt_succ (Nat.mod_lt _ (by omega)), by rw [Int.tmod_eq_emod_of_nonneg (by omega)]; norm_cast⟩
end Go.Proofs.YtfmfmeiaekknbaaGreatDoor
end

section
/-
  The walk of the law TopKnown.
-/
namespace Go.Proofs.YtfmfmeiaekknbaaGreatDoor
open Go.RowKit
set_option linter.unusedVariables false
set_option linter.unusedSimpArgs false

set_option maxRecDepth 100000 in
set_option maxHeartbeats 12800000 in
theorem law_known (A : Option Addr) (n c : Nat) (f : Nat → Int) (g : Bool) (x y : Int) (w : World) (hs : Sees w w.heap.size A n (u8r f)) (hf : ∀ j, 0 ≤ f j ∧ f j ≤ 255) (hnc : n ≤ c) (hc : c ≤ maxLen) (x0 : 0 ≤ x) (x1 : x ≤ 255) (y0 : 0 ≤ y) (y1 : y ≤ 255) (hT : Tab w) (h0 : 0 < w.heap.size) :
    Calls Tryz.prog 3 #[.agg #[.slice A n c, .bool g], .int .u8 x, .int .u8 y] w fun e w' => e = .returned (.bool true) ∧ Below w.heap.size w w' := by
  obtain ⟨d1, rfl⟩ : ∃ a : Nat, x = a := ⟨x.toNat, by omega⟩
  obtain ⟨d2, rfl⟩ : ∃ a : Nat, y = a := ⟨y.toNat, by omega⟩
  have hd1 : d1 ≤ 255 := by omega
  have hd2 : d2 ≤ 255 := by omega
  have HT := Lib.hid hT
  have H0 := Lib.hid h0
  clear hT h0 x0 x1 y0 y1
  -- paternostertop.TopKnown the law;  facts that stay ahead of generalize
  have OK := Lib.hid (irows_ok f n g)
  have X0 := Lib.hid (XI.mk' (c := c) (g := g) hs)
  have hm : n ≤ maxLen := Nat.le_trans hnc hc
  have b0 : Below w.heap.size w (w.alloc (.cells #[.slice A n c, .bool g] 24)) := (Below.refl _ w).alloc (Nat.le_refl _) _
  have KO : Hid (∀ W, Sees W W.heap.size A n (u8r f) → _) := fun W (h : Sees W W.heap.size A n (u8r f)) => Of_any W A n c f g h (fun j _ => hf j) hm
  have KR : Hid (∀ W, Sees W W.heap.size A n (u8r f) → _) := fun W (h : Sees W W.heap.size A n (u8r f)) => Rows_any W A n c f g h (fun j _ => hf j) hm
  have L0 := Lib.hid (LX.start b0)
  generalize irows f n g = R at KO KR OK
  have EQX : Hid (w.heap.size = w.heap.size) := rfl
  clear hs hf hnc hm b0
  go_enter Tryz.func3, Tryz.ntmps3
  go_wp2_with fail
  refine (KO.out _ X0.out.s).mono ?_
  rintro e w2 ⟨a, A', S, rfl, p1, p2⟩
  obtain ⟨W2, eW2⟩ : ∃ W, W = ixw w2 a A' S.length := ⟨_, rfl⟩
  obtain ⟨qa, eqa⟩ : ∃ q, q = w2.heap.size := ⟨_, rfl⟩
  have L2 : Hid (LX w W2 [(qa, a, A', S, R)] []) := by rw [eW2, eqa]; exact (L0.out.below p2).cons p1
  have X2 : Hid (XI W2 w.heap.size A n c f g) := by rw [eW2]; exact (X0.out.below p2).below (ixw_b _ _ _ _)
  have EW := Lib.hid eW2
  have EQ := Lib.hid eqa
  have hlen := OK.out.len
  obtain ⟨m, em⟩ : ∃ m, m = R.length := ⟨_, rfl⟩
  have EM := Lib.hid em
  rw [← em] at hlen
  clear p1 p2 KO X0 L0 eW2 eqa em
  go_wp2_with fail
  have KL := ilen_any W2 a A' S.length R (L2.out.get (.head _)).ix.rp
  rw [← EM.out, EW.out] at KL
  refine (KL).mono ?_
  rintro e wa ⟨rfl, hb⟩
  have hb' : Below W2.heap.size W2 wa := by rw [EW.out]; exact hb
  have La := Lib.hid (L2.out.below hb')
  have Xa := Lib.hid (X2.out.below hb')
  have TA := HT.out.below La.out.bl H0.out
  have TP : 0 < wa.heap.size := by have := La.out.bl.size; have := H0.out; omega
  have KN := Lib.hid (fnew_any wa TA TP m (by omega))
  rw [← EQ.out]
  clear hb hb' KL L2 X2 TA TP
  go_wp2_with fail
  refine (KN.out).mono ?_
  rintro e wb ⟨p, rfl, fl, hp, hb⟩
  have FB : Hid (Fl wb p (klTo R 0)) := by rw [klTo_zero, ← EM.out]; exact fl
  have Xb := Lib.hid (Xa.out.below hb)
  have HP := Lib.hid hp
  have BB := Lib.hid hb
  obtain ⟨z1, z2, z3⟩ := Xb.out.cells
  have KR2 := Lib.hid (KR.out wb Xb.out.s)
  rw [← EM.out] at KR2
  clear fl hp hb KN Xa
  go_wp2_with fail
  refine (KR2.out).mono ?_
  rintro e wc ⟨A1, c1, rfl, p1, hb, p3, p4⟩
  have FC := Lib.hid (FB.out.below hb)
  have BC : Hid (Below wa.heap.size wa wc) := BB.out.trans (hb.mono BB.out.size)
  clear hb p1 p3 p4 KR2 FB BB Xb z1 z2 z3
  go_wp2_with fail
  go_loopw [11] (fun iv wr => ∃ k : Nat, k ≤ m ∧ iv = .int .i64 k ∧ Hid (Fl wr p (klTo R k)) ∧ Hid (Below wa.heap.size wa wr)) (fun iv _ => m - (intOf iv).toNat)
  case atStart => exact ⟨0, Nat.zero_le _, rfl, FC, BC⟩
  case round =>
    obtain ⟨k, hk, rfl, hF, hB⟩ := hrel
    clear FC BC
    by_cases hlt : k < m
    · have hki : (k : Int) < (m : Int) := by omega
      have hkR : k < R.length := by rw [← EM.out]; exact hlt
      have Lr := Lib.hid (La.out.below hB.out)
      obtain ⟨x1, x2, x3, x4, _, lx⟩ := Lr.out.get (.head _)
      have KK := iknown_any wr a A' S R (Lr.out.get (.head _)).ix k ⟨by omega, by omega⟩
      obtain ⟨e1, e2⟩ := known_ok hkR
      rw [e1, e2] at KK
      have KKH := Lib.hid KK
      have ST := Lib.hid (klTo_step R hkR)
      have LN := Lib.hid (klTo_len R (k := k) (by omega))
      have HKR := Lib.hid hkR
      obtain ⟨bv, ebv⟩ : ∃ v, v = kn R k := ⟨_, rfl⟩
      rw [← ebv] at KKH ST
      clear KK e1 e2 ebv hkR
      go_wp2_with fail
      refine (KKH.out).mono ?_
      rintro e wd ⟨rfl, hb⟩
      have KS := Lib.hid (fSet_ok wd p (klTo R k) (hF.out.below hb) k (by rw [LN.out]; exact HKR.out) bv)
      rw [ST.out] at KS
      have BD : Hid (Below wa.heap.size wa wd) := hB.out.trans (hb.mono hB.out.size)
      clear hb KKH hF hB x1 x2 x3 x4 lx Lr
      go_wp2_with fail
      refine (KS.out).mono ?_
      rintro e we ⟨rfl, f1, f2⟩
      have FE := Lib.hid f1
      have BE : Hid (Below wa.heap.size wa we) := BD.out.trans (f2.below BD.out.size (fun y hy => by rw [hy]; exact HP.out))
      clear f1 f2 KS BD
      go_wp2_with fail
      go_roundw
      case rel => exact ⟨k + 1, by omega, by go_num, FE, BE⟩
      case measure => simp [intOf]; omega
    · obtain rfl : m = k := by omega
      have hFl : Hid (Fl wr p (kl R)) := by
        have h := hF.out
        rw [EM.out, klTo_all] at h
        exact h
      have Lr := Lib.hid (La.out.below hB.out)
      have KSP := Lib.hid (fspans_any wr p (kl R) hFl.out)
      clear hF hB
      go_wp2_with fail
      refine (KSP.out).mono ?_
      rintro e wd ⟨S', As, hS, rfl, sS, hb⟩
      have hKN := set_kn hS
      have hck : chkS S' = 0 := hKN.chk (n := R.length) (fun j hj => kn_lt hj) (by rw [← EM.out]; omega)
      have hln := hS.len
      rw [kl_len, ← EM.out] at hln
      have KC := Go.Proofs.YtfmfmeiaekknbaaGreatDoor.check_any wd wd.heap.size As S'.length S' sS (Nat.le_refl _) hS.nf.fits (by omega)
      rw [hck] at KC
      have KCN : Hid (∀ W, SeesP W W.heap.size As S' → _) := fun W (h : SeesP W W.heap.size As S') => scount_any W W.heap.size As S'.length S' h (Nat.le_refl _) hS.nf.fits (by omega)
      rw [set_count hS (by rw [kl_len, ← EM.out]; omega)] at KCN
      have KH : Hid (∀ W (k : Nat), SeesP W W.heap.size As S' → _) := fun W (k : Nat) (h : SeesP W W.heap.size As S') => has_any W W.heap.size As S'.length S' k h (Nat.le_refl _) hS.nf.fits (by omega)
      have HH : Hid (∀ k : Nat, hasS S' k = kn R k) := fun k => hKN.has (n := R.length) (fun j hj => kn_lt hj) (by rw [← EM.out]; omega) k
      have Ld := Lib.hid (Lr.out.below hb)
      have Fd := Lib.hid (hFl.out.below hb)
      have Sd := Lib.hid sS
      have KCH := Lib.hid KC
      generalize S'.length = sl at *
      clear hS sS hb hKN hck hln KC KSP Lr hFl
      go_wp2_with fail
      refine (KCH.out).mono ?_
      rintro e we ⟨rfl, hb⟩
      have Le := Lib.hid (Ld.out.below hb)
      have Fe := Lib.hid (Fd.out.below hb)
      have Se := Lib.hid ((Sd.out.below hb).more hb.size)
      clear hb KCH Ld Fd Sd
      go_wp2_with fail
      refine (KCN.out _ Se.out).mono ?_
      rintro e wf ⟨rfl, hb⟩
      have Lf := Lib.hid (Le.out.below hb)
      have Ff := Lib.hid (Fe.out.below hb)
      have Sf := Lib.hid ((Se.out.below hb).more hb.size)
      have KFC := Lib.hid (fcount_any wf p (kl R) Ff.out)
      clear hb KCN Le Fe Se
      generalize cn (kl R) = cc at *
      go_wp2_with fail
      refine (KFC.out).mono ?_
      rintro e w' ⟨rfl, rfl⟩
      go_wp2_with fail
      clear KFC
      go_loopw [15] (fun iv wq => ∃ k : Nat, k ≤ m ∧ iv = .int .i64 k ∧ Hid (LX w wq [(qa, a, A', S, R)] []) ∧ Hid (Fl wq p (kl R)) ∧ Hid (SeesP wq wq.heap.size As S')) (fun iv _ => m - (intOf iv).toNat)
      case atStart => exact ⟨0, Nat.zero_le _, rfl, Lf, Ff, Sf⟩
      case round =>
        obtain ⟨k, hk, rfl, Lr, Fr', Sr⟩ := hrel
        clear Lf Ff Sf
        obtain ⟨x1, x2, x3, x4, _, lx⟩ := Lr.out.get (.head _)
        by_cases hlt : k < m
        · have hki : (k : Int) < (m : Int) := by omega
          have KK := iknown_any wr a A' S R (Lr.out.get (.head _)).ix k ⟨by omega, by omega⟩
          obtain ⟨e1, e2⟩ := known_ok (R := R) (k := k) (by rw [← EM.out]; exact hlt)
          rw [e1, e2] at KK
          have KKH := Lib.hid KK
          have KHK := Lib.hid (fun W h => KH.out W k h)
          rw [HH.out] at KHK
          generalize kn R k = bv at *
          clear KK e1 e2
          go_wp2_with fail
          refine (KKH.out).mono ?_
          rintro e wg ⟨rfl, hb⟩
          have Lg := Lib.hid (Lr.out.below hb)
          have Fg := Lib.hid (Fr'.out.below hb)
          have Sg := Lib.hid ((Sr.out.below hb).more hb.size)
          clear hb KKH Lr Fr' Sr x1 x2 x3 x4 lx
          go_wp2_with fail
          refine (KHK.out _ Sg.out).mono ?_
          rintro e wh ⟨rfl, hb⟩
          have Lh := Lib.hid (Lg.out.below hb)
          have Fh := Lib.hid (Fg.out.below hb)
          have Sh := Lib.hid ((Sg.out.below hb).more hb.size)
          clear hb KHK Lg Fg Sg
          go_wp2_with fail
          go_roundw
          case rel => exact ⟨k + 1, by omega, by go_num, Lh, Fh, Sh⟩
          case measure => simp [intOf]; omega
        · obtain rfl : m = k := by omega
          clear Sr KH HH
          obtain ⟨i, hi, ei⟩ := ktmod d1 m
          obtain ⟨j, hj, ej⟩ := ktmod d2 (m - i)
          rw [show ((m - i : Nat) : Int) = (m : Int) - (i : Int) by omega] at ej
          have ix := (Lr.out.get (.head _)).ix
          rcases first_hit (fun t => !kn R t) i m with hno | ⟨t, t1, t2, t3, t4⟩
          · have hall : ∀ z : Nat, i ≤ z → z < m → kn R z = true := fun z a b => by simpa using hno z a b
            have KU := kunk_at wr a A' S R ix i (i + j) m (by omega) (by rw [← EM.out]; omega) (by rw [← EM.out]; omega) hi hall (kn_out (by rw [← EM.out]; exact Nat.le_refl _))
            rw [if_pos (by omega), if_pos (by omega), Int.natCast_add] at KU
            have KU := Lib.hid KU
            have HALL := Lib.hid hall
            clear hno ix hall
            -- behind the second loop: knext_no wf p (kl R) Ff.out i false (by rw [kl_len, ← EM.out]; exact hi) (fun z a b => by rw [bt_kl, HALL.out z a (by rw [kl_len, ← EM.out] at b; exact b)]; rfl) the contract of Next
            go_wp2_with fail
            refine (KU.out).mono ?_
            rintro e wf ⟨rfl, hb⟩
            have Lf := Lib.hid (Lr.out.below hb)
            have Ff := Lib.hid (Fr'.out.below hb)
            clear hb KU x1 x2 x3 x4 lx
            have KN := Lib.hid (knext_no wf p (kl R) Ff.out i false (by rw [kl_len, ← EM.out]; exact hi) (fun z a b => by rw [bt_kl, HALL.out z a (by rw [kl_len, ← EM.out] at b; exact b)]; rfl))
            go_wp2_with fail
            refine (KN.out).mono ?_
            rintro e w' ⟨rfl, rfl⟩
            go_wp2_with fail
            refine (live11_yes _ (Ff.out.tab) ((Nat.lt_trans Ff.out.pos Ff.out.lt))).mono ?_
            rintro e wz ⟨rfl, hb⟩
            have HB := Lib.hid ((Lf.out.below hb).bl)
            clear hb
            go_wp2_with fail
            go_ret
            exact ⟨rfl, HB.out⟩
          · have hk0 : kn R t = false := by simpa using t3
            have hall : ∀ z : Nat, i ≤ z → z < t → kn R z = true := fun z a b => by simpa using t4 z a b
            have KU := kunk_at wr a A' S R ix i (i + j) t (by omega) (by rw [← EM.out]; omega) (by rw [← EM.out]; omega) t1 hall hk0
            have HALL := Lib.hid hall
            have HK0 := Lib.hid hk0
            have HT2 := Lib.hid t2
            have HT1 := Lib.hid t1
            by_cases hq : i + j ≤ t
            · rw [if_pos hq, if_pos hq, Int.natCast_add] at KU
              have KU := Lib.hid KU
              have hq2 : decide ((t : Int) < (i : Int) + (j : Int)) = false := decide_eq_false (by omega)
              clear t3 t4 ix hall hk0 t1 t2 hq
              -- behind the second loop: knext_yes wf p (kl R) Ff.out i t false HT1.out (by rw [kl_len, ← EM.out]; exact HT2.out) (by rw [bt_kl]; exact HK0.out) (fun z a b => by rw [bt_kl, HALL.out z a b]; rfl) the contract of Next
              go_wp2_with fail
              refine (KU.out).mono ?_
              rintro e wf ⟨rfl, hb⟩
              have Lf := Lib.hid (Lr.out.below hb)
              have Ff := Lib.hid (Fr'.out.below hb)
              clear hb KU x1 x2 x3 x4 lx
              have KN := Lib.hid (knext_yes wf p (kl R) Ff.out i t false HT1.out (by rw [kl_len, ← EM.out]; exact HT2.out) (by rw [bt_kl]; exact HK0.out) (fun z a b => by rw [bt_kl, HALL.out z a b]; rfl))
              go_wp2_with fail
              refine (KN.out).mono ?_
              rintro e w' ⟨rfl, rfl⟩
              go_wp2_with fail
              refine (live11_yes _ (Ff.out.tab) ((Nat.lt_trans Ff.out.pos Ff.out.lt))).mono ?_
              rintro e wz ⟨rfl, hb⟩
              have HB := Lib.hid ((Lf.out.below hb).bl)
              clear hb
              go_wp2_with fail
              go_ret
              exact ⟨rfl, HB.out⟩
            · rw [if_neg hq, if_neg hq, Int.natCast_add] at KU
              have KU := Lib.hid KU
              have hq2 : (t : Int) < (i : Int) + (j : Int) := by omega
              clear t3 t4 ix hall hk0 t1 t2 hq
              -- behind the second loop: knext_yes wf p (kl R) Ff.out i t false HT1.out (by rw [kl_len, ← EM.out]; exact HT2.out) (by rw [bt_kl]; exact HK0.out) (fun z a b => by rw [bt_kl, HALL.out z a b]; rfl) the contract of Next
              go_wp2_with fail
              refine (KU.out).mono ?_
              rintro e wf ⟨rfl, hb⟩
              have Lf := Lib.hid (Lr.out.below hb)
              have Ff := Lib.hid (Fr'.out.below hb)
              clear hb KU x1 x2 x3 x4 lx
              have KN := Lib.hid (knext_yes wf p (kl R) Ff.out i t false HT1.out (by rw [kl_len, ← EM.out]; exact HT2.out) (by rw [bt_kl]; exact HK0.out) (fun z a b => by rw [bt_kl, HALL.out z a b]; rfl))
              go_wp2_with fail
              refine (KN.out).mono ?_
              rintro e w' ⟨rfl, rfl⟩
              go_wp2_with fail
              refine (live11_yes _ (Ff.out.tab) ((Nat.lt_trans Ff.out.pos Ff.out.lt))).mono ?_
              rintro e wz ⟨rfl, hb⟩
              have HB := Lib.hid ((Lf.out.below hb).bl)
              clear hb
              go_wp2_with fail
              go_ret
              exact ⟨rfl, HB.out⟩
end Go.Proofs.YtfmfmeiaekknbaaGreatDoor
end

section
/-
  Arguments opened by their types' shapes: integers, slices of integers, arrays of two and three integers, a struct of a slice of bytes and a bool. Over any program.
-/
namespace Go.Proofs.YtfmfmeiaekknbaaGreatDoor
open Go.RowKit Go.ChangeShapes Go.WideShapes Go.ChangeAt Go.Joins

section
variable {H : Type} {enc : TypeId × Value → H} {P : Program} {w : World} {r : Reach} {b0 base : Nat} {spare : Nat → Bool} {held : Bool} {t e : TypeId} {v : Value} {d : DataW H} {ps : List MemPlace}

theorem op_u8 (ht : P.underlying t = some (.int .u8)) (hv : Value.okWide P w r b0 t v) (hd : DataW.Trod enc P w base spare held t v d ps) : ∃ x, v = .int .u8 x ∧ 0 ≤ x ∧ x ≤ 255 := by
  obtain ⟨x, rfl, _, _, wx⟩ := open_int ht hv hd
  exact ⟨x, rfl, bounds_u8 wx⟩
/-- A slice of integers, by its cells. -/
theorem op_ints_cells {k : IntKind} {fuel : Nat} {A : Option Addr} {n c : Nat} {x : DataW H × List MemPlace} (ht : P.underlying t = some (.slice e)) (he : P.underlying e = some (.int k)) (hc : P.cellsOf e = 1) (h0 : (Lit.int k 0).wf = true)
    (hf : DataW.trod enc P w base spare held fuel t [.slice A n c] = some x) :
    ∃ l : Nat → Int, Sees w w.heap.size A n (fun j => .int k (l j)) ∧ (∀ j, (Lit.int k (l j)).wf = true) ∧ n ≤ c ∧ c ≤ maxLen := by
  rcases open_ints ht he hc hf with ⟨hcs, _⟩ | ⟨a, l, cc, zs, hcs, _, hl, hm, hz, _, hcell, hwz⟩
  · simp at hcs
    obtain ⟨rfl, rfl, rfl⟩ := hcs
    exact ⟨fun _ => 0, Sees.nil, fun _ => h0, Nat.le_refl _, Nat.zero_le _⟩
  · simp at hcs
    obtain ⟨rfl, rfl, rfl⟩ := hcs
    have hlen : n ≤ zs.length := by rw [hz]; split <;> omega
    refine ⟨fun j => zs.getD j 0, ?_, fun j => ?_, hl, hm⟩
    · intro hn
      obtain ⟨b, o, spot⟩ := a
      have hc0 := hcell 0 (by omega)
      have hspot : spot = none := by simpa [Addr.add] using World.cell?_spot hc0
      subst hspot
      refine ⟨b, o, rfl, ?_, fun j hj => ?_⟩
      · have := block_lt_of_cell hc0
        simpa [Addr.add] using this
      · have hcj := hcell j (by omega)
        have e : (⟨b, o, none⟩ : Addr).add j = ⟨b, o + j, none⟩ := by
          unfold Addr.add
          by_cases h : j = 0
          · subst h; simp
          · simp [h]
        rw [e] at hcj
        exact hcj
    · by_cases hj : j < zs.length
      · simp only [List.getD_eq_getElem?_getD, List.getElem?_eq_getElem hj, Option.getD_some]
        exact hwz _ (List.getElem_mem hj)
      · have hn : zs[j]? = none := List.getElem?_eq_none (by omega)
        simp only [List.getD_eq_getElem?_getD, hn, Option.getD_none]
        exact h0
end
end Go.Proofs.YtfmfmeiaekknbaaGreatDoor
end

section
/-
  An argument that is a struct of a slice of bytes and a bool, opened. Over any program.
-/
namespace Go.Proofs.YtfmfmeiaekknbaaGreatDoor
open Go.RowKit Go.ChangeShapes Go.WideShapes Go.ChangeAt Go.Joins Go.Deep
set_option linter.unusedVariables false

section
variable {H : Type} {enc : TypeId × Value → H} {P : Program} {w : World} {r : Reach} {b0 base : Nat} {spare : Nat → Bool} {held : Bool} {t e : TypeId} {v : Value} {d : DataW H} {ps : List MemPlace}

theorem okWide_struct' {fs : Array Field} (ht : P.underlying t = some (.struct fs)) (h : Value.okWide P w r b0 t v) : ∃ cs, v = .agg cs ∧ cs.size = P.cellsOf t := by
  simp only [Value.okWide, ht] at h
  obtain ⟨cs, h1, h2, _⟩ := h
  exact ⟨cs, h1, h2⟩
/-- The cells of a struct of m one-cell fields, and how each of them reads. -/
theorem op_struct {fs : Array Field} {m : Nat} (ht : P.underlying t = some (.struct fs)) (hm : fs.size = m) (hone : oneCellFields P fs = true) (hC : P.cellsOf t = m) (hv : Value.okWide P w r b0 t v) (hd : DataW.Trod enc P w base spare held t v d ps) :
    ∃ cs : Array Value, v = .agg cs ∧ cs.size = m ∧ ∀ (j : Nat) (f : Field), fs[j]? = some f → ∃ x y k, cs[j]? = some x ∧ DataW.trod enc P w base spare held k f.type [x] = some y := by
  subst hm
  obtain ⟨cs, rfl, hsz⟩ := okWide_struct' ht hv
  obtain ⟨fuel, hf⟩ := hd
  obtain ⟨ys, n', hn', hy, hlen', hyl, hf'⟩ := DataW.trod_struct ht hf
  refine ⟨cs, rfl, by omega, fun j f hj => ?_⟩
  obtain ⟨ho, hk⟩ := hone_of hone j f hj
  have hjl : j < fs.size := (Array.getElem?_eq_some_iff.1 hj).1
  have h1 := hf' j f hj
  rw [ho, hk] at h1
  have hl : (Value.cells (.agg cs)).toList = cs.toList := rfl
  rw [hl] at h1
  have hi' : j < cs.toList.length := by simp; omega
  have e1 : (cs.toList.drop j).take 1 = [cs.toList[j]] := by
    rw [List.drop_eq_getElem_cons hi']
    rfl
  rw [e1] at h1
  have hys : ys[j]? = some (ys[j]'(by omega)) := List.getElem?_eq_getElem (by omega)
  exact ⟨cs.toList[j], _, _, by simp, h1.trans hys⟩
/-- A struct of a slice of bytes and a bool. -/
theorem op_sb {fs : Array Field} {f0 f1 : Field} (ht : P.underlying t = some (.struct fs)) (hm : fs.size = 2) (hone : oneCellFields P fs = true) (hC : P.cellsOf t = 2) (h0 : fs[0]? = some f0) (h1 : fs[1]? = some f1)
    (hs0 : P.underlying f0.type = some (.slice e)) (he : P.underlying e = some (.int .u8)) (hce : P.cellsOf e = 1) (hb : P.underlying f1.type = some .bool) (hv : Value.okWide P w r b0 t v) (hd : DataW.Trod enc P w base spare held t v d ps) :
    ∃ (A : Option Addr) (n c : Nat) (l : Nat → Int) (g : Bool), v = .agg #[.slice A n c, .bool g] ∧ Sees w w.heap.size A n (fun j => .int .u8 (l j)) ∧ (∀ j, 0 ≤ l j ∧ l j ≤ 255) ∧ n ≤ c ∧ c ≤ maxLen := by
  obtain ⟨cs, rfl, hsz, hf⟩ := op_struct ht hm hone hC hv hd
  obtain ⟨x0, y0, k0, e0, r0⟩ := hf 0 f0 h0
  obtain ⟨x1, y1, k1, e1, r1⟩ := hf 1 f1 h1
  obtain ⟨A, n, c, rfl⟩ : ∃ A n c, x0 = .slice A n c := by
    rcases open_ints hs0 he hce r0 with ⟨hcs, _⟩ | ⟨a, l, cc, zs, hcs, _⟩
    · simp at hcs; exact ⟨_, _, _, hcs⟩
    · simp at hcs; exact ⟨_, _, _, hcs⟩
  obtain ⟨l, g1, g2, g3, g4⟩ := op_ints_cells hs0 he hce (by decide) r0
  obtain ⟨g, hg, _⟩ := DataW.trod_bool hb r1
  simp only [List.cons.injEq, and_true] at hg
  subst hg
  refine ⟨A, n, c, l, g, ?_, g1, fun j => bounds_u8 (g2 j), g3, g4⟩
  congr 1
  apply Array.ext
  · rw [hsz]; rfl
  · intro i hi hi2
    have hi : i < 2 := by omega
    have : i = 0 ∨ i = 1 := by omega
    rcases this with rfl | rfl
    · exact Option.some.inj ((Array.getElem?_eq_getElem _).symm.trans e0)
    · exact Option.some.inj ((Array.getElem?_eq_getElem _).symm.trans e1)
end
end Go.Proofs.YtfmfmeiaekknbaaGreatDoor
end

section
/-
  The I of layer 6's law, opened.
-/
namespace Go.Proofs.YtfmfmeiaekknbaaGreatDoor
open Go.RowKit Go.ChangeShapes Go.WideShapes Go.ChangeAt Go.Joins Go.Deep

set_option maxRecDepth 100000 in
theorem op_I {H : Type} {enc : TypeId × Value → H} {w : World} {r : Reach} {b0 base : Nat} {spare : Nat → Bool} {held : Bool} {v : Value} {d : DataW H} {ps : List MemPlace}
    (hv : Value.okWide Tryz.prog w r b0 24 v) (hd : DataW.Trod enc Tryz.prog w base spare held 24 v d ps) :
    ∃ (A : Option Addr) (n c : Nat) (l : Nat → Int) (g : Bool), v = .agg #[.slice A n c, .bool g] ∧ Sees w w.heap.size A n (u8r l) ∧ (∀ j, 0 ≤ l j ∧ l j ≤ 255) ∧ n ≤ c ∧ c ≤ maxLen :=
  op_sb Tryz.underlying24 rfl (by kernel_rfl) (by kernel_rfl) rfl rfl Tryz.underlying22 Tryz.underlying5 (by kernel_rfl) Tryz.underlying4 hv hd
end Go.Proofs.YtfmfmeiaekknbaaGreatDoor
end

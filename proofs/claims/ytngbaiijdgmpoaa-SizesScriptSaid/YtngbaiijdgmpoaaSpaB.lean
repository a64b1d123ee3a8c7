/-
  Contracts of package spans, second: done, Has, Count, both, edge.
-/
import Derived.Test.YtngbaiijdgmpoaaSpaA
namespace Go.Proofs.Ytngbaiijdgmpoaa
open Go.RowKit
set_option linter.unusedVariables false
set_option linter.unusedSimpArgs false

/-- What returns a set and an error. -/
def SPost (w : World) (R : Sp) (err : Int) (e : Ending) (w' : World) : Prop := ∃ A, e = .returned (.tuple #[.slice A R.length R.length, .int .i64 err]) ∧ SeesP w' w'.heap.size A R ∧ Below w.heap.size w w'
theorem seesP_nil (w : World) (B : Nat) : SeesP w B none [] := fun h => absurd h (by decide)
theorem SPost.none {w0 w : World} (hb : Below w0.heap.size w0 w) (x : Int) : SPost w0 [] x (.returned (.tuple #[.slice none 0 0, .int .i64 x])) w := ⟨Option.none, rfl, seesP_nil _ _, hb⟩
def dS (R : Sp) : Sp := if 4096 < R.length then [] else R
def dE (R : Sp) : Int := if 4096 < R.length then 3 else 0

theorem infoSp1 : (Try.prog.info? 75).map (·.size) = some 2 := by kernel_rfl
theorem clip_eq (A : Option Addr) (n c : Nat) (h : n ≤ c) : ∀ wx, (Instr.sliceAt 32 (.slice A n c) none (some (.int .i64 n)) (some (.int .i64 n))).run Try.prog wx = .ok (.slice A n n) wx := fun wx => by
  have := slice_of_bounds (P := Try.prog) Try.underlying32 infoSp1 A n c none (some (.int .i64 n)) (some (.int .i64 n)) (l := 0) (h := n) (m := n) (fun wx => by simp [Instr.sliceBounds, run_sliceBound, h]) wx
  rwa [subA_zero] at this
theorem clip_any (w : World) (A : Option Addr) (n c : Nat) (h : n ≤ c) : Calls Try.prog 68 #[.slice A n c] w fun e w' => e = .returned (.slice A n n) ∧ w = w' := by
  have hc := clip_eq A n c h
  go_enter Try.func68, Try.ntmps68
  go_wp2_with fail
  go_ret
  exact ⟨rfl, rfl⟩
theorem done_any (w0 w : World) (A : Option Addr) (c : Nat) (R : Sp) (hs : SeesP w w.heap.size A R) (hc : R.length ≤ c) (hl : R.length ≤ 1000000000) (hb : Below w0.heap.size w0 w) :
    Calls Try.prog 59 #[.slice A R.length c] w (SPost w0 (dS R) (dE R)) := by
  unfold dS dE
  by_cases h : 4096 < R.length
  · rw [if_pos h, if_pos h]
    have H := Lib.hid (SPost.none hb 3)
    obtain ⟨n, en⟩ : ∃ n, n = R.length := ⟨_, rfl⟩
    rw [← en] at h hl ⊢
    clear hs en hc
    go_enter Try.func59, Try.ntmps59
    go_wp2_with fail
    go_ret2
    exact H.out
  · rw [if_neg h, if_neg h]
    have H : Hid (SPost w0 R 0 (.returned (.tuple #[.slice A R.length R.length, .int .i64 0])) w) := ⟨A, rfl, hs, hb⟩
    obtain ⟨n, en⟩ : ∃ n, n = R.length := ⟨_, rfl⟩
    rw [← en] at h hl hc H ⊢
    have KC := Lib.hid (clip_any w A n c hc)
    clear hs en
    go_enter Try.func59, Try.ntmps59
    go_wp2_with fail
    refine (KC.out).mono ?_
    rintro e w' ⟨rfl, rfl⟩
    go_wp2_with fail
    go_ret2
    exact H.out

/-- A place is in one of the spans, told. -/
def anyS (L : Sp) (i : Int) : Bool := L.any fun s => decide (s.1 ≤ i) && decide (i < s.2)
theorem anyS_iff (L : Sp) (i : Int) : anyS L i = true ↔ memS L i := by
  unfold anyS memS
  rw [List.any_eq_true]
  simp
theorem anyS_nil (i : Int) : anyS [] i = false := rfl
theorem anyS_cons (s : Int × Int) (r : Sp) (i : Int) : anyS (s :: r) i = ((decide (s.1 ≤ i) && decide (i < s.2)) || anyS r i) := rfl

theorem pred_any (w : World) (p : Nat) (i x y : Int) (hp : w.cell? ⟨p, 0, none⟩ = some (.int .i64 i)) (hl : p < w.heap.size) :
    Calls Try.prog 52 #[.agg #[.int .i64 x, .int .i64 y], .pointer (some ⟨p, 0, none⟩)] w fun e w' => e = .returned (.bool (decide (x ≤ i) && decide (i < y))) ∧ Below w.heap.size w w' := by
  have HB : Hid (Below w.heap.size w (w.alloc (.cells #[.int .i64 x, .int .i64 y] 75))) := (Below.refl _ w).alloc (Nat.le_refl _) _
  by_cases h1 : x ≤ i
  · by_cases h2 : i < y
    · go_enter Try.func52, Try.ntmps52
      go_wp2_with fail
      go_ret
      exact ⟨by simp [h1, h2], HB.out⟩
    · go_enter Try.func52, Try.ntmps52
      go_wp2_with fail
      go_ret
      exact ⟨by simp [h1, h2], HB.out⟩
  · go_enter Try.func52, Try.ntmps52
    go_wp2_with fail
    go_ret
    exact ⟨by rw [decide_eq_false (show ¬ x ≤ i by omega)]; rfl, HB.out⟩
set_option maxRecDepth 100000 in
set_option maxHeartbeats 1600000 in
theorem index_any (w : World) (A : Option Addr) (c : Nat) (L : Sp) (p : Nat) (i : Int) (h : SeesP w w.heap.size A L) (hn : L.length ≤ 1000000000000000) (hp : w.cell? ⟨p, 0, none⟩ = some (.int .i64 i)) (hl : p < w.heap.size) :
    Calls Try.prog 66 #[.slice A L.length c, .func (.func 52) #[] #[.pointer (some ⟨p, 0, none⟩)]] w fun e w' => (∃ x : Int, e = .returned (.int .i64 x) ∧ (0 ≤ x ↔ anyS L i = true)) ∧ Below w.heap.size w w' := by
  have HS := Lib.hid h
  have HP := Lib.hid hp
  obtain ⟨n, en⟩ : ∃ n, n = L.length := ⟨_, rfl⟩
  have EN := Lib.hid en
  rw [← en] at hn ⊢
  clear h en hp
  go_enter Try.func66, Try.ntmps66
  go_wp2_with fail
  go_loopw [8] (fun a wr => ∃ k : Nat, k ≤ n ∧ a = .int .i64 k ∧ Hid (anyS (L.take k) i = false) ∧ Hid (Below w.heap.size w wr)) (fun a _ => n - (intOf a).toNat)
  case atStart => exact ⟨0, Nat.zero_le _, rfl, rfl, Below.refl _ _⟩
  case round =>
    obtain ⟨k, hk, rfl, hF, hD⟩ := hrel
    by_cases hlt : k < n
    · obtain ⟨b, o, rfl, hb, c0, c1⟩ := SeesP.cells (HS.out.below hD.out) (k := k) (by rw [← EN.out]; exact hlt)
      have hkL : k < L.length := by rw [← EN.out]; exact hlt
      have KP := Lib.hid (pred_any wr p i (sg L k).1 (sg L k).2 ((hD.out.cell (p := ⟨p, 0, none⟩) hl).trans HP.out) (Nat.lt_of_lt_of_le hl hD.out.size))
      have hT : L.take (k + 1) = L.take k ++ [sg L k] := by rw [sg_get L hkL, List.take_succ_eq_append_getElem hkL]
      have HT : Hid (anyS (L.take (k + 1)) i = (decide ((sg L k).1 ≤ i) && decide (i < (sg L k).2))) := by
        show anyS _ _ = _
        rw [hT]
        unfold anyS at *
        rw [List.any_append, hF.out]
        simp
      have HA : Hid ((decide ((sg L k).1 ≤ i) && decide (i < (sg L k).2)) = true → anyS L i = true) := fun h => by
        rw [← HT.out, anyS_iff] at h
        rw [anyS_iff]
        obtain ⟨s, hs, h1⟩ := h
        exact ⟨s, List.mem_of_mem_take hs, h1⟩
      obtain ⟨v, hv⟩ : ∃ v, v = (decide ((sg L k).1 ≤ i) && decide (i < (sg L k).2)) := ⟨_, rfl⟩
      rw [← hv] at KP HT HA
      clear hv hT hkL hF
      go_wp2_with fail
      refine (KP.out).mono ?_
      rintro e w1 ⟨rfl, hb1⟩
      have D1 := Lib.hid (hD.out.trans (hb1.mono hD.out.size))
      clear hb1 KP
      cases v with
      | true =>
        go_wp2_with fail
        go_ret
        exact ⟨⟨(k : Int), rfl, fun _ => HA.out (by first | rfl | trivial), fun _ => Int.natCast_nonneg k⟩, D1.out⟩
      | false =>
        go_wp2_with fail
        go_roundw
        case rel => exact ⟨k + 1, by omega, by go_num, HT, D1⟩
        case measure => simp [intOf]; omega
    · obtain rfl : k = n := by omega
      have e : anyS L i = false := by have := hF.out; rwa [List.take_of_length_le (by rw [← EN.out]; exact Nat.le_refl _)] at this
      go_wp2_with fail
      go_ret
      exact ⟨⟨-1, rfl, fun h => absurd h (by decide), fun h => by rw [e] at h; cases h⟩, hD.out⟩
theorem contains_any (w : World) (A : Option Addr) (c : Nat) (L : Sp) (p : Nat) (i : Int) (h : SeesP w w.heap.size A L) (hn : L.length ≤ 1000000000000000) (hp : w.cell? ⟨p, 0, none⟩ = some (.int .i64 i)) (hl : p < w.heap.size) :
    Calls Try.prog 51 #[.slice A L.length c, .func (.func 52) #[] #[.pointer (some ⟨p, 0, none⟩)]] w fun e w' => e = .returned (.bool (anyS L i)) ∧ Below w.heap.size w w' := by
  have K2 := Lib.hid (index_any w A c L p i h hn hp hl)
  obtain ⟨n, en⟩ : ∃ n, n = L.length := ⟨_, rfl⟩
  obtain ⟨v, ev⟩ : ∃ v, v = anyS L i := ⟨_, rfl⟩
  rw [← en, ← ev] at K2
  rw [← en, ← ev]
  clear h hn hp hl en ev
  go_enter Try.func51, Try.ntmps51
  go_wp2_with fail
  refine (K2.out).mono ?_
  rintro e w2 ⟨⟨y, rfl, hy⟩, hb⟩
  have B2 := Lib.hid hb
  clear hb K2
  have hv : v = decide (0 ≤ y) := by
    cases v with
    | false => exact (decide_eq_false fun h => by have := hy.1 h; cases this).symm
    | true => exact (decide_eq_true (hy.2 rfl)).symm
  subst hv
  clear hy
  go_wp2_with fail
  go_ret
  exact ⟨rfl, B2.out⟩
/-- The answer of Has. -/
def hasS (L : Sp) (i : Int) : Bool := decide (chkS L = 0) && anyS L i
set_option maxRecDepth 100000 in
set_option maxHeartbeats 1600000 in
theorem has_any (w : World) (B : Nat) (A : Option Addr) (c : Nat) (L : Sp) (i : Int) (h : SeesP w B A L) (hB : B ≤ w.heap.size) (hf : FitsS L) (hn : L.length ≤ 1000000000000000) :
    Calls Try.prog 33 #[.slice A L.length c, .int .i64 i] w fun e w' => e = .returned (.bool (hasS L i)) ∧ Below w.heap.size w w' := by
  have B0 : Hid (Below w.heap.size w (w.alloc (.cells #[.int .i64 i] 3))) := (Below.refl _ w).alloc (Nat.le_refl _) _
  have P0 : Hid ((w.alloc (.cells #[.int .i64 i] 3)).cell? ⟨w.heap.size, 0, none⟩ = some (.int .i64 i)) := (World.rowIs_alloc w #[.int .i64 i] _ (fun _ => .int .i64 i) (fun j hj => by
    have h0 : j = 0 := Nat.lt_one_iff.1 hj
    subst h0; rfl)).cell (i := 0) (by simp)
  have HS := Lib.hid (((h.more hB).below B0.out).more B0.out.size)
  have KC := Lib.hid (check_any _ _ A c L HS.out (Nat.le_refl _) hf hn)
  have KI : Hid (∀ W, Below (w.alloc (.cells #[.int .i64 i] 3)).heap.size (w.alloc (.cells #[.int .i64 i] 3)) W → _) := fun W (hW : Below (w.alloc (.cells #[.int .i64 i] 3)).heap.size (w.alloc (.cells #[.int .i64 i] 3)) W) =>
    contains_any W A c L w.heap.size i ((HS.out.below hW).more hW.size) hn ((hW.cell (p := ⟨w.heap.size, 0, none⟩) (by rw [World.size_alloc]; exact Nat.lt_succ_self _)).trans P0.out) (by have := hW.size; rw [World.size_alloc] at this; omega)
  have hh : hasS L i = (decide (chkS L = 0) && anyS L i) := rfl
  rw [hh]
  obtain ⟨n, en⟩ : ∃ n, n = L.length := ⟨_, rfl⟩
  obtain ⟨x, ex⟩ : ∃ x, x = chkS L := ⟨_, rfl⟩
  obtain ⟨v, ev⟩ : ∃ v, v = anyS L i := ⟨_, rfl⟩
  rw [← en] at KC KI hn ⊢
  rw [← ex] at KC ⊢
  rw [← ev] at KI ⊢
  clear h hf en ex ev hh
  by_cases x0 : x = 0
  · subst x0
    go_enter Try.func33, Try.ntmps33
    go_wp2_with fail
    refine (KC.out).mono ?_
    rintro e w1 ⟨rfl, hb⟩
    have K2 := Lib.hid (KI.out w1 hb)
    have B1 := Lib.hid (B0.out.trans (hb.mono B0.out.size))
    clear hb KI
    go_wp2_with fail
    refine (K2.out).mono ?_
    rintro e w2 ⟨rfl, hb⟩
    have B2 := Lib.hid (B1.out.trans (hb.mono B1.out.size))
    clear hb K2
    go_wp2_with fail
    go_ret
    exact ⟨by simp, B2.out⟩
  · have xb : (x == 0) = false := by rw [beq_eq_false_iff_ne]; exact x0
    have B1x : Hid (∀ w1, Below (w.alloc (.cells #[.int .i64 i] 3)).heap.size (w.alloc (.cells #[.int .i64 i] 3)) w1 → Below w.heap.size w w1) := fun w1 hb => B0.out.trans (hb.mono B0.out.size)
    clear KI
    go_enter Try.func33, Try.ntmps33
    go_wp2_with fail
    refine (KC.out).mono ?_
    rintro e w1 ⟨rfl, hb⟩
    have B1 := Lib.hid (B1x.out w1 hb)
    clear hb
    go_wp2_with fail
    go_ret
    exact ⟨by simp [x0], B1.out⟩

/-- How many places there are. -/
def cntS : Sp → Int
  | [] => 0
  | s :: r => s.2 - s.1 + cntS r
theorem NFfrom.cnt {lo : Int} {L : Sp} (h : NFfrom lo L) : 0 ≤ cntS L ∧ cntS L + lo ≤ endS lo L := by
  induction L generalizing lo with
  | nil => exact ⟨Int.le_refl _, by show 0 + lo ≤ lo; omega⟩
  | cons s r ih =>
    obtain ⟨h1, h2, h3, h4⟩ := h
    obtain ⟨q1, q2⟩ := ih h4
    show 0 ≤ s.2 - s.1 + cntS r ∧ s.2 - s.1 + cntS r + lo ≤ endS s.2 r
    omega
theorem NFfrom.drop {lo : Int} {L : Sp} (h : NFfrom lo L) (k : Nat) : ∃ lo', NFfrom lo' (L.drop k) := by
  have := h
  rw [← List.take_append_drop k L] at this
  exact ⟨_, (NFfrom.append.1 this).2⟩
def countS (L : Sp) : Int := if chkS L = 0 then cntS L else 0
end Go.Proofs.Ytngbaiijdgmpoaa

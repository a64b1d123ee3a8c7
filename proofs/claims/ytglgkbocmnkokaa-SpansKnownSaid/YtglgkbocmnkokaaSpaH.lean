/-
  The law package of layer 1, second: what a function holds; same; literals; results that are known.
-/
import Derived.Test.YtglgkbocmnkokaaSpaG
import Derived.Test.YtglgkbocmnkokaaSpaOf
namespace Go.Proofs.Ytglgkbocmnkokaa
open Go.RowKit
set_option linter.unusedVariables false
set_option linter.unusedSimpArgs false

/-- The sets that a function holds. -/
structure PS (w0 w : World) (qs : List (Option Addr × Sp)) : Prop where
  bl : Below w0.heap.size w0 w
  s : ∀ q ∈ qs, SeesP w w.heap.size q.1 q.2
theorem PS.start {w0 w : World} (hb : Below w0.heap.size w0 w) : PS w0 w [] := ⟨hb, fun q h => nomatch h⟩
theorem PS.below {w0 w w' : World} {qs : List (Option Addr × Sp)} (h : PS w0 w qs) (hb : Below w.heap.size w w') : PS w0 w' qs := ⟨h.bl.trans (hb.mono h.bl.size), fun q hq => ((h.s q hq).below hb).more hb.size⟩
theorem PS.add {w0 w : World} {qs : List (Option Addr × Sp)} (h : PS w0 w qs) {A : Option Addr} {L : Sp} (hs : SeesP w w.heap.size A L) : PS w0 w ((A, L) :: qs) := ⟨h.bl, fun q hq => by
  rcases List.mem_cons.1 hq with rfl | hq
  · exact hs
  · exact h.s q hq⟩
theorem PS.alloc {w0 w : World} {qs : List (Option Addr × Sp)} (h : PS w0 w qs) (o : Obj) : PS w0 (w.alloc o) qs := h.below ((Below.refl _ w).alloc (Nat.le_refl _) o)
theorem PS.drawn {w0 w w' : World} {qs : List (Option Addr × Sp)} (h : PS w0 w qs) (hd : Drawn w w') : PS w0 w' qs := h.below (hd.below _)
theorem PS.see {w0 w : World} {qs : List (Option Addr × Sp)} (h : PS w0 w qs) {A : Option Addr} {L : Sp} (hq : (A, L) ∈ qs) : SeesP w w.heap.size A L := h.s _ hq
theorem PS.sub {w0 w : World} {qs qs' : List (Option Addr × Sp)} (h : PS w0 w qs) (hq : ∀ x ∈ qs', x ∈ qs) : PS w0 w qs' := ⟨h.bl, fun x hx => h.s x (hq x hx)⟩

/-- The cells of a literal. -/
def cellsP : Sp → List Value
  | [] => []
  | s :: r => .int .i64 s.1 :: .int .i64 s.2 :: cellsP r
theorem cellsP_len (L : Sp) : (cellsP L).length = L.length * 2 := by
  induction L with
  | nil => rfl
  | cons s r ih => show (cellsP r).length + 1 + 1 = (r.length + 1) * 2; omega
theorem cellsP_at : ∀ (L : Sp) (j : Nat), j < L.length * 2 → (cellsP L)[j]? = some (spf L j)
  | [], j, h => absurd h (by simp)
  | s :: r, 0, _ => rfl
  | s :: r, 1, _ => rfl
  | s :: r, j + 2, h => by
    show (cellsP r)[j]? = some (spf (s :: r) (j + 2))
    rw [cellsP_at r j (by simp at h; omega)]
    unfold spf
    rw [show (j + 2) % 2 = j % 2 from by omega, show (j + 2) / 2 = j / 2 + 1 from by omega]
    rfl
theorem litP (w : World) (L : Sp) (t : TypeId) : SeesP (w.alloc (.cells (cellsP L).toArray t)) (w.heap.size + 1) (some ⟨w.heap.size, 0, none⟩) L := by
  have := Sees.lit w (cellsP L).toArray t (spf L) (L.length * 2) (by simp [cellsP_len]) (fun j hj => by rw [List.getElem?_toArray]; exact cellsP_at L j hj)
  rw [World.size_alloc] at this
  exact this

set_option maxRecDepth 100000 in
set_option maxHeartbeats 1600000 in
theorem same_yes (w : World) (A A' : Option Addr) (c' B B' : Nat) (L : Sp) (e : Int) (h : SeesP w B A L) (h' : SeesP w B' A' L) (hB : B ≤ w.heap.size) (hB' : B' ≤ w.heap.size) (hn : L.length ≤ 1000000000) :
    Calls Try.prog 17 #[.slice A L.length L.length, .int .i64 e, .slice A' L.length c', .int .i64 e] w fun e w' => e = .returned (.bool true) ∧ Below w.heap.size w w' := by
  have HS := Lib.hid (h.more hB)
  have HS' := Lib.hid (h'.more hB')
  obtain ⟨n, en⟩ : ∃ n, n = L.length := ⟨_, rfl⟩
  have EN := Lib.hid en
  rw [← en] at hn ⊢
  clear h h' en
  go_enter Try.func17, Try.ntmps17
  go_wp2_with fail
  go_loopw [9] (fun i wr => ∃ k : Nat, k ≤ n ∧ i = .int .i64 k ∧ Hid (Drawn w wr)) (fun i _ => n - (intOf i).toNat)
  case atStart => exact ⟨0, Nat.zero_le _, rfl, Drawn.refl _⟩
  case round =>
    obtain ⟨k, hk, rfl, hD⟩ := hrel
    by_cases hlt : k < n
    · obtain ⟨b, o, rfl, _, c0, c1⟩ := SeesP.cells (HS.out.drawn hD.out) (k := k) (by rw [← EN.out]; exact hlt)
      obtain ⟨b', o', rfl, _, e0, e1⟩ := SeesP.cells (HS'.out.drawn hD.out) (k := k) (by rw [← EN.out]; exact hlt)
      obtain ⟨x, hx⟩ : ∃ x, x = (sg L k).1 := ⟨_, rfl⟩
      obtain ⟨y, hy⟩ : ∃ x, x = (sg L k).2 := ⟨_, rfl⟩
      rw [← hx] at c0 e0
      rw [← hy] at c1 e1
      clear hx hy
      go_wp2_with fail
      go_quiet (fail)
      go_wp2_with fail
      go_roundw
      case rel => exact ⟨k + 1, by omega, by go_num, hD.out.drewN _⟩
      case measure => simp [intOf]; omega
    · obtain rfl : k = n := by omega
      go_wp2_with fail
      go_ret
      exact ⟨rfl, hD.out.below _⟩
/-- same, of a literal. -/
theorem same_lit (w : World) (A : Option Addr) (L : Sp) (e : Int) (h : SeesP w w.heap.size A L) (hn : L.length ≤ 1000000000) :
    Calls Try.prog 17 #[.slice A L.length L.length, .int .i64 e, .slice (some ⟨w.heap.size, 0, none⟩) L.length L.length, .int .i64 e] (w.alloc (.cells (cellsP L).toArray 51)) fun e w' => e = .returned (.bool true) ∧ Below w.heap.size w w' := by
  have hb : Below w.heap.size w (w.alloc (.cells (cellsP L).toArray 51)) := (Below.refl _ w).alloc (Nat.le_refl _) _
  refine (same_yes (w.alloc (.cells (cellsP L).toArray 51)) A (some ⟨w.heap.size, 0, none⟩) L.length _ _ L e (h.below hb) (litP w L _) (by rw [World.size_alloc]; omega) (by rw [World.size_alloc]; omega) hn).mono ?_
  rintro e w' ⟨h1, h2⟩
  exact ⟨h1, hb.trans (h2.mono (by rw [World.size_alloc]; omega))⟩
/-- of, of a literal. -/
theorem of_lit (w : World) (L : Sp) (hn : L.length ≤ 100) :
    Calls Try.prog 29 #[.slice (some ⟨w.heap.size, 0, none⟩) L.length L.length] (w.alloc (.cells (cellsP L).toArray 51)) fun e w' => ∃ A c, e = .returned (.slice A L.length c) ∧ SeesP w' w'.heap.size A L ∧ Below w.heap.size w w' := by
  have hb : Below w.heap.size w (w.alloc (.cells (cellsP L).toArray 51)) := (Below.refl _ w).alloc (Nat.le_refl _) _
  refine (of_own (w.alloc (.cells (cellsP L).toArray 51)) _ (some ⟨w.heap.size, 0, none⟩) L.length L (litP w L _) (by rw [World.size_alloc]; omega) (by omega)).mono ?_
  rintro e w' ⟨A, c, rfl, h1, h2, _⟩
  exact ⟨A, c, rfl, h1.sees, hb.trans (h2.mono (by rw [World.size_alloc]; omega))⟩

/-! ### Results that are known -/
theorem dS_le {R : Sp} (h : R.length ≤ 4096) : dS R = R ∧ dE R = 0 := by
  unfold dS dE
  rw [if_neg (by omega), if_neg (by omega)]
  exact ⟨rfl, rfl⟩
theorem any_mem {L M : Sp} (h : ∀ i, anyS L i = anyS M i) : ∀ i, memS L i ↔ memS M i := fun i => by rw [← anyS_iff, ← anyS_iff, h]
theorem OpPost.eq {kp : Bool → Bool → Bool} {w w' : World} {L M C : Sp} {e : Ending} (h : OpPost kp w L M e w') (hL : chkS L = 0) (hM : chkS M = 0) (hC : NF C) (hl : C.length ≤ 4096) (hm : ∀ i, kp (anyS L i) (anyS M i) = anyS C i) : SPost w C 0 e w' := by
  rcases h with ⟨_, _, R, hR, hS⟩ | ⟨h, _⟩
  · have : R = C := NFfrom.unique hR.nf hC fun i => by rw [hR.me, hm, anyS_iff]
    subst this
    rwa [(dS_le hl).1, (dS_le hl).2] at hS
  · rw [if_pos hL] at h; exact absurd hM h
theorem InsPost.eq {w w' : World} {L C : Sp} {a n : Int} {e : Ending} (h : InsPost w L a n e w') (h0 : rngS L a n = 0) (hf : ¬ (a < endS (-1) L ∧ 1073741824 < endS (-1) L + n)) (hC : NF C) (hl : C.length ≤ 4096) (hm : ∀ i, (i < a ∧ memS L i) ∨ (a + n ≤ i ∧ memS L (i - n)) ↔ memS C i) : SPost w C 0 e w' := by
  rcases h with ⟨h, _⟩ | ⟨_, h, _⟩ | ⟨_, _, R, hR, hS⟩
  · exact absurd h0 h
  · exact absurd h hf
  · have hme := hR.me
    rw [List.take_length] at hme
    have : R = C := NFfrom.unique hR.nf hC fun i => by rw [hme, hm]
    subst this
    rwa [(dS_le hl).1, (dS_le hl).2] at hS
theorem RemPost.eq {w w' : World} {L C : Sp} {a n : Int} {e : Ending} (h : RemPost w L a n e w') (h0 : rngS L a n = 0) (hC : NF C) (hl : C.length ≤ 4096) (hm : ∀ i, (i < a ∧ memS L i) ∨ (a ≤ i ∧ memS L (i + n)) ↔ memS C i) : SPost w C 0 e w' := by
  rcases h with ⟨h, _⟩ | ⟨_, R, hR, hS⟩
  · exact absurd h0 h
  · have hme := hR.me
    rw [List.take_length] at hme
    have : R = C := NFfrom.unique hR.nf hC fun i => by rw [hme, hm]
    subst this
    rwa [(dS_le hl).1, (dS_le hl).2] at hS
theorem OfPost.eq {w w' : World} {L : List Int} {C : Sp} {e : Ending} (h : OfPost w L e w') (h0 : ¬ badPlace L) (hC : NF C) (hl : C.length ≤ 4096) (hm : ∀ i, i ∈ L ↔ memS C i) : SPost w C 0 e w' := by
  rcases h with ⟨h, _⟩ | ⟨_, R, hR, hme, hS⟩
  · exact absurd h h0
  · have : R = C := NFfrom.unique hR hC fun i => by rw [hme, hm]
    subst this
    rwa [(dS_le hl).1, (dS_le hl).2] at hS
theorem OfPost.bad {w w' : World} {L : List Int} {e : Ending} (h : OfPost w L e w') (h0 : badPlace L) : SPost w [] 4 e w' := by
  rcases h with ⟨_, h⟩ | ⟨h, _⟩
  · exact h
  · exact absurd h0 h
/-- The literal of a list of ints. -/
theorem litI (w : World) (L : List Int) (h : 0 < L.length) : IntsAt (w.alloc (.cells (L.map (fun x => Value.int .i64 x)).toArray 3)).heap.size (w.alloc (.cells (L.map (fun x => Value.int .i64 x)).toArray 3)) (.slice (some ⟨w.heap.size, 0, none⟩) L.length L.length) L := by
  refine .inr ⟨w.heap.size, 0, L.length, rfl, by rw [World.size_alloc]; omega, fun j hj => ?_⟩
  have := World.rowIs.cell (World.rowIs_alloc w (L.map (fun x => Value.int .i64 x)).toArray 3 (fun j => .int .i64 (L[j]?.getD 0)) (fun j hj => by
    have hj' : j < L.length := by simpa using hj
    rw [List.getElem?_toArray, List.getElem?_map, List.getElem?_eq_getElem hj']
    rfl)) (i := j) (by simpa using hj)
  rw [Nat.zero_add]
  exact this
theorem of_ints (w : World) (L : List Int) (h : 0 < L.length) (hl : L.length ≤ 1000) (hf : ∀ x ∈ L, Fits x) :
    Calls Try.prog 16 #[.slice (some ⟨w.heap.size, 0, none⟩) L.length L.length] (w.alloc (.cells (L.map (fun x => Value.int .i64 x)).toArray 3)) (OfPost (w.alloc (.cells (L.map (fun x => Value.int .i64 x)).toArray 3)) L) :=
  sof_any _ _ L.length L (litI w L h) (by omega) hf
end Go.Proofs.Ytglgkbocmnkokaa

/-
  Law package 06: lives.
-/
import Derived.Test.YtngbaiijdgmpoaaSizK
namespace Go.Proofs.Ytngbaiijdgmpoaa
open Go.RowKit
set_option linter.unusedVariables false
set_option linter.unusedSimpArgs false

/-- The literal of a list. -/
theorem litL (w : World) (L : List Int) : SeesL (w.alloc (.cells ((L.map (fun x => Value.int .i64 x)).toArray) 2)) (w.alloc (.cells ((L.map (fun x => Value.int .i64 x)).toArray) 2)).heap.size (some ⟨w.heap.size, 0, none⟩) L :=
  Sees.lit w ((L.map (fun x => Value.int .i64 x)).toArray) 2 (i64s (lf L)) L.length (by simp) (fun j hj => by
    rw [List.getElem?_toArray, List.getElem?_map, List.getElem?_eq_getElem hj]
    show some (Value.int .i64 L[j]) = some (Value.int .i64 (lf L j))
    rw [lf_get L hj])
theorem unk_val {w : World} {R : Rws} {x y : Int} {f0 : Nat} {e : Ending} {w' : World} (h : UnkPost w R x y e w') (hb : ¬ (x < 0 ∨ y < x ∨ (R.length : Int) < y)) (h1 : x ≤ f0) (h2 : ∀ j : Nat, x ≤ j → j < f0 → kn R j = true) (h3 : kn R f0 = false) :
    e = .returned (.tuple #[.int .i64 (if y ≤ f0 then 0 else f0), .int .i64 (if y ≤ f0 then 11 else 0)]) ∧ Below w.heap.size w w' := by
  obtain ⟨h | ⟨_, f, g1, g2, g3, rfl⟩, hl⟩ := h
  · exact absurd h.1 hb
  · have e : f = f0 := by
      apply Classical.byContradiction; intro c
      by_cases d : f < f0
      · have := h2 f g1 d; rw [g3] at this; cases this
      · have := g2 f0 h1 (by omega); rw [h3] at this; cases this
    subst e
    exact ⟨rfl, hl⟩
def lR1 : Rws := [(4, false), (5, false)]
def lR2 : Rws := [(3, true), (4, false), (5, false)]
def lRy : Rws := [(4, false), (5, false), (3, true)]
def lRz : Rws := [(3, true), (9, true), (5, false)]
theorem liv1 (W : World) (A : Option Addr) (h : SeesL W W.heap.size A [4, 5]) : Calls Try.prog 20 #[ixv none none 0, .int .i64 0, .slice A 2 2, .bool false] W (IPost W lR1 0) :=
  (iinsert_any W none none [] [] (Ix.new W) 0 A 2 W.heap.size [4, 5] false ⟨by omega, by omega⟩ h (Nat.le_refl _) (Nat.le_refl _) (by unfold maxLen; decide) (by decide) (by unfold Fits; decide)).mono fun e w' hp => hp.cast (by decide) (by decide)
theorem liv2 (W : World) (a A' : Option Addr) (S : Sp) (A : Option Addr) (g : Ix W a A' S lR1) (h : SeesL W W.heap.size A [3]) : Calls Try.prog 20 #[ixv a A' S.length, .int .i64 0, .slice A 1 1, .bool true] W (IPost W lR2 0) :=
  (iinsert_any W a A' S lR1 g 0 A 1 W.heap.size [3] true ⟨by omega, by omega⟩ h (Nat.le_refl _) (Nat.le_refl _) (by unfold maxLen; decide) (by decide) (by unfold Fits; decide)).mono fun e w' hp => hp.cast (by decide) (by decide)
theorem liv3 (W : World) (a A' : Option Addr) (S : Sp) (A : Option Addr) (g : Ix W a A' S lR2) (h : SeesL W W.heap.size A [0]) : Calls Try.prog 20 #[ixv a A' S.length, .int .i64 0, .slice A 1 1, .bool false] W (IPost W [] 12) :=
  (iinsert_any W a A' S lR2 g 0 A 1 W.heap.size [0] false ⟨by omega, by omega⟩ h (Nat.le_refl _) (Nat.le_refl _) (by unfold maxLen; decide) (by decide) (by unfold Fits; decide)).mono fun e w' hp => hp.cast (by decide) (by decide)
theorem liv4 (W : World) (a A' : Option Addr) (S : Sp) (g : Ix W a A' S lR2) (x v : Int) (fx : Fits x) (e1 : sumVal (szs lR2) x = v) (e2 : sumErr (szs lR2) x = 0) : Calls Try.prog 11 #[ixv a A' S.length, .int .i64 x] W fun e w' => e = .returned (.tuple #[.int .i64 v, .int .i64 0]) ∧ Below W.heap.size W w' := by
  have := itop_any W a A' S.length lR2 g.rp g.ok x fx
  rw [e1, e2] at this
  exact this
theorem liv5 (W : World) (a A' : Option Addr) (S : Sp) (g : Ix W a A' S lR2) (x v rest : Int) (I : Nat) (hI : (I : Int) = v) (hp : Place (szs lR2) x I rest) (h0 : 0 ≤ x) (h1 : x < (szs lR2).sum) : Calls Try.prog 13 #[ixv a A' S.length, .int .i64 x] W fun e w' => e = .returned (.tuple #[.int .i64 v, .int .i64 rest, .int .i64 0]) ∧ Below W.heap.size W w' := by
  subst hI
  exact iat_ok W a A' S.length lR2 g.rp g.ok x I rest hp h0 h1
theorem liv6 (W : World) (a A' : Option Addr) (S : Sp) (R : Rws) (g : Ix W a A' S R) (x y v er : Int) (fx : Fits x) (fy : Fits y) (f0 : Nat) (hb : ¬ (x < 0 ∨ y < x ∨ (R.length : Int) < y)) (h1 : x ≤ f0) (h2 : ∀ j : Nat, x ≤ j → j < f0 → kn R j = true) (h3 : kn R f0 = false) (e1 : (if y ≤ (f0 : Int) then 0 else (f0 : Int)) = v) (e2 : (if y ≤ (f0 : Int) then 11 else 0) = er) :
    Calls Try.prog 18 #[ixv a A' S.length, .int .i64 x, .int .i64 y] W fun e w' => e = .returned (.tuple #[.int .i64 v, .int .i64 er]) ∧ Below W.heap.size W w' :=
  (iunknown_any W a A' S R g x y fx fy).mono fun e w' hp => by
    have := unk_val hp hb h1 h2 h3
    rw [e1, e2] at this
    exact this
theorem liv7 (W : World) (a A' : Option Addr) (S : Sp) (g : Ix W a A' S lR2) : Calls Try.prog 18 #[ixv a A' S.length, .int .i64 2, .int .i64 1] W fun e w' => e = .returned (.tuple #[.int .i64 0, .int .i64 4]) ∧ Below W.heap.size W w' :=
  (iunknown_any W a A' S lR2 g 2 1 ⟨by omega, by omega⟩ ⟨by omega, by omega⟩).mono fun e w' hp => by
    obtain ⟨h | ⟨h, _⟩, hl⟩ := hp
    · exact ⟨h.2, hl⟩
    · exact absurd (.inr (.inl (by decide))) h
theorem liv8 (W : World) (a A' : Option Addr) (S : Sp) (g : Ix W a A' S lR2) : Calls Try.prog 23 #[ixv a A' S.length, .int .i64 0, .int .i64 1, .int .i64 2] W (IPost W lRy 0) :=
  (imove_ok W a A' S lR2 g 0 1 2 (by decide) (by decide)).mono fun e w' hp => hp.cast (by decide) rfl
theorem liv9 (W : World) (a A' : Option Addr) (S : Sp) (g : Ix W a A' S lR2) : Calls Try.prog 22 #[ixv a A' S.length, .int .i64 1, .int .i64 9, .bool true] W (IPost W lRz 0) :=
  (iset_any W a A' S lR2 g 1 9 true ⟨by omega, by omega⟩ ⟨by omega, by omega⟩).mono fun e w' hp => hp.cast (by decide) (by decide)
theorem liv10 (W : World) (a A' : Option Addr) (S : Sp) (g : Ix W a A' S lR2) : Calls Try.prog 22 #[ixv a A' S.length, .int .i64 0, .int .i64 2305843009213693953, .bool true] W (IPost W [] 12) :=
  (iset_any W a A' S lR2 g 0 2305843009213693953 true ⟨by omega, by omega⟩ ⟨by omega, by omega⟩).mono fun e w' hp => hp.cast (by decide) (by decide)
theorem iat_no (W : World) (a A' : Option Addr) (S : Sp) (g : Ix W a A' S lR2) : Calls Try.prog 13 #[ixv a A' S.length, .int .i64 12] W fun e w' => e = .returned (.tuple #[.int .i64 0, .int .i64 0, .int .i64 4]) ∧ Below W.heap.size W w' :=
  iat_bad W a A' S.length lR2 g.rp g.ok 12 ⟨by omega, by omega⟩ (.inr (by decide))
theorem lit_Ry (w : World) : SeesR (w.alloc (.cells #[.int .i64 4, .bool false, .int .i64 5, .bool false, .int .i64 3, .bool true] 44)) (w.alloc (.cells #[.int .i64 4, .bool false, .int .i64 5, .bool false, .int .i64 3, .bool true] 44)).heap.size (some ⟨w.heap.size, 0, none⟩) lRy :=
  Sees.lit w #[.int .i64 4, .bool false, .int .i64 5, .bool false, .int .i64 3, .bool true] 44 (rwf lRy) 6 rfl (fun j hj => by
    have : j = 0 ∨ j = 1 ∨ j = 2 ∨ j = 3 ∨ j = 4 ∨ j = 5 := by omega
    rcases this with rfl | rfl | rfl | rfl | rfl | rfl <;> rfl)
theorem kn_R2 (j : Nat) (_ : (0 : Int) ≤ j) (h : j < 1) : kn lR2 j = true := by
  have : j = 0 := by omega
  subst this; rfl
theorem kn_Rz (j : Nat) (_ : (0 : Int) ≤ j) (h : j < 2) : kn lRz j = true := by
  have : j = 0 ∨ j = 1 := by omega
  rcases this with rfl | rfl <;> rfl
set_option maxRecDepth 100000 in
set_option maxHeartbeats 6400000 in
theorem lives_yes (w : World) : Calls Try.prog 17 #[] w fun e w' => e = .returned (.bool true) ∧ Below w.heap.size w w' := by
  have V0 := Lib.hid (LX.start (Below.refl _ w))
  go_enter Try.func17, Try.ntmps17
  go_wp2_with fail
  refine (new_any w).mono ?_
  rintro e w1 ⟨rfl, hb⟩
  have V1 := Lib.hid (V0.out.below hb)
  clear hb
  go_wp2_with fail
  refine (liv1 _ _ (litL w1 [4, 5])).mono ?_
  rintro e w2 ⟨a2, A2, S2, rfl, q, hb⟩
  have V2 := Lib.hid (((V1.out.alloc (.cells #[.int .i64 4, .int .i64 5] 2)).below hb).cons q)
  clear hb q
  obtain ⟨x1, x2, x3, x4, _, lx⟩ := V2.out.get (.head _)
  have V2b : Hid (LX w ((ixw w2 a2 A2 S2.length).alloc (.cells #[.int .i64 3] 2)) [(w2.heap.size, a2, A2, S2, lR1)] []) := V2.out.alloc _
  have L2 : SeesL ((ixw w2 a2 A2 S2.length).alloc (.cells #[.int .i64 3] 2)) ((ixw w2 a2 A2 S2.length).alloc (.cells #[.int .i64 3] 2)).heap.size (some ⟨(ixw w2 a2 A2 S2.length).heap.size, 0, none⟩) [3] := litL (ixw w2 a2 A2 S2.length) [3]
  have K2 := Lib.hid (liv2 _ a2 A2 S2 _ (V2b.out.get (.head _)).ix L2)
  clear L2 V2b
  go_wp2_with fail
  rw [World.size_alloc] at K2
  refine (K2.out).mono ?_
  rintro e w4 ⟨a4, A4, S4, rfl, q, hb⟩
  have V3 := Lib.hid ((V2.out.alloc (.cells #[.int .i64 3] 2)).below hb)
  clear x1 x2 x3 x4 lx
  obtain ⟨x1, x2, x3, x4, _, lx⟩ := V3.out.get (.head _)
  have V4 := Lib.hid (V3.out.put1 (.head _) q)
  clear hb q V3
  go_wp2_with fail
  generalize (w4.setCell ⟨w2.heap.size, 0, none⟩ (.pointer a4)).setCell ⟨w2.heap.size, 1, none⟩ (.slice A4 S4.length S4.length) = w5 at V4 ⊢
  clear x1 x2 x3 x4 lx
  obtain ⟨x1, x2, x3, x4, _, lx⟩ := V4.out.get (.head _)
  -- liv4 _ _ _ _ (V4.out.get (.head _)).ix 2 7 ⟨by omega, by omega⟩ (by decide) (by decide) contract; V4 old holder; V6 new; w6 world; .head _ where x lies
  refine (liv4 _ _ _ _ (V4.out.get (.head _)).ix 2 7 ⟨by omega, by omega⟩ (by decide) (by decide)).mono ?_
  rintro e w6 ⟨rfl, hb⟩
  have V6 := Lib.hid (V4.out.below hb)
  clear hb x1 x2 x3 x4 lx
  obtain ⟨x1, x2, x3, x4, _, lx⟩ := V6.out.get (.head _)
  go_wp2_with fail
  -- liv4 _ _ _ _ (V6.out.get (.head _)).ix 3 12 ⟨by omega, by omega⟩ (by decide) (by decide) contract; V6 old holder; V7 new; w7 world; .head _ where x lies
  refine (liv4 _ _ _ _ (V6.out.get (.head _)).ix 3 12 ⟨by omega, by omega⟩ (by decide) (by decide)).mono ?_
  rintro e w7 ⟨rfl, hb⟩
  have V7 := Lib.hid (V6.out.below hb)
  clear hb x1 x2 x3 x4 lx
  obtain ⟨x1, x2, x3, x4, _, lx⟩ := V7.out.get (.head _)
  go_wp2_with fail
  -- liv5 _ _ _ _ (V7.out.get (.head _)).ix 3 1 0 1 rfl (by unfold Place; decide) (by decide) (by decide) contract; V7 old holder; V8 new; w8 world; .head _ where x lies
  refine (liv5 _ _ _ _ (V7.out.get (.head _)).ix 3 1 0 1 rfl (by unfold Place; decide) (by decide) (by decide)).mono ?_
  rintro e w8 ⟨rfl, hb⟩
  have V8 := Lib.hid (V7.out.below hb)
  clear hb x1 x2 x3 x4 lx
  obtain ⟨x1, x2, x3, x4, _, lx⟩ := V8.out.get (.head _)
  go_wp2_with fail
  -- liv5 _ _ _ _ (V8.out.get (.head _)).ix 11 2 4 2 rfl (by unfold Place; decide) (by decide) (by decide) contract; V8 old holder; V9 new; w9 world; .head _ where x lies
  refine (liv5 _ _ _ _ (V8.out.get (.head _)).ix 11 2 4 2 rfl (by unfold Place; decide) (by decide) (by decide)).mono ?_
  rintro e w9 ⟨rfl, hb⟩
  have V9 := Lib.hid (V8.out.below hb)
  clear hb x1 x2 x3 x4 lx
  obtain ⟨x1, x2, x3, x4, _, lx⟩ := V9.out.get (.head _)
  go_wp2_with fail
  -- iat_no _ _ _ _ (V9.out.get (.head _)).ix contract; V9 old holder; V10 new; w10 world; .head _ where x lies
  refine (iat_no _ _ _ _ (V9.out.get (.head _)).ix).mono ?_
  rintro e w10 ⟨rfl, hb⟩
  have V10 := Lib.hid (V9.out.below hb)
  clear hb x1 x2 x3 x4 lx
  obtain ⟨x1, x2, x3, x4, _, lx⟩ := V10.out.get (.head _)
  go_wp2_with fail
  -- ilen_any _ _ _ _ lR2 (V10.out.get (.head _)).ix.rp contract; V10 old holder; V11 new; w11 world; .head _ where x lies
  refine (ilen_any _ _ _ _ lR2 (V10.out.get (.head _)).ix.rp).mono ?_
  rintro e w11 ⟨rfl, hb⟩
  have V11 := Lib.hid (V10.out.below hb)
  clear hb x1 x2 x3 x4 lx
  obtain ⟨x1, x2, x3, x4, _, lx⟩ := V11.out.get (.head _)
  go_wp2_with fail
  -- rtotal_any _ _ (szs lR2) (V11.out.get (.head _)).ix.rp contract; V11 old holder; V12 new; w12 world; .head _ where x lies
  refine (rtotal_any _ _ (szs lR2) (V11.out.get (.head _)).ix.rp).mono ?_
  rintro e w12 ⟨rfl, hb⟩
  have V12 := Lib.hid (V11.out.below hb)
  clear hb x1 x2 x3 x4 lx
  obtain ⟨x1, x2, x3, x4, _, lx⟩ := V12.out.get (.head _)
  go_wp2_with fail
  -- liv6 _ _ _ _ _ (V12.out.get (.head _)).ix 0 3 1 0 ⟨by omega, by omega⟩ ⟨by omega, by omega⟩ 1 (by decide) (by decide) kn_R2 rfl rfl rfl contract; V12 old holder; V13 new; w13 world; .head _ where x lies
  refine (liv6 _ _ _ _ _ (V12.out.get (.head _)).ix 0 3 1 0 ⟨by omega, by omega⟩ ⟨by omega, by omega⟩ 1 (by decide) (by decide) kn_R2 rfl rfl rfl).mono ?_
  rintro e w13 ⟨rfl, hb⟩
  have V13 := Lib.hid (V12.out.below hb)
  clear hb x1 x2 x3 x4 lx
  obtain ⟨x1, x2, x3, x4, _, lx⟩ := V13.out.get (.head _)
  go_wp2_with fail
  -- liv6 _ _ _ _ _ (V13.out.get (.head _)).ix 0 1 0 11 ⟨by omega, by omega⟩ ⟨by omega, by omega⟩ 1 (by decide) (by decide) kn_R2 rfl rfl rfl contract; V13 old holder; V14 new; w14 world; .head _ where x lies
  refine (liv6 _ _ _ _ _ (V13.out.get (.head _)).ix 0 1 0 11 ⟨by omega, by omega⟩ ⟨by omega, by omega⟩ 1 (by decide) (by decide) kn_R2 rfl rfl rfl).mono ?_
  rintro e w14 ⟨rfl, hb⟩
  have V14 := Lib.hid (V13.out.below hb)
  clear hb x1 x2 x3 x4 lx
  obtain ⟨x1, x2, x3, x4, _, lx⟩ := V14.out.get (.head _)
  go_wp2_with fail
  -- liv7 _ _ _ _ (V14.out.get (.head _)).ix contract; V14 old holder; V15 new; w15 world; .head _ where x lies
  refine (liv7 _ _ _ _ (V14.out.get (.head _)).ix).mono ?_
  rintro e w15 ⟨rfl, hb⟩
  have V15 := Lib.hid (V14.out.below hb)
  clear hb x1 x2 x3 x4 lx
  obtain ⟨x1, x2, x3, x4, _, lx⟩ := V15.out.get (.head _)
  go_wp2_with fail
  refine (liv8 _ _ _ _ (V15.out.get (.head _)).ix).mono ?_
  rintro e w16 ⟨a16, A16, S16, rfl, q, hb⟩
  have V16 := Lib.hid ((V15.out.below hb).cons q)
  clear hb q x1 x2 x3 x4 lx
  obtain ⟨x1, x2, x3, x4, _, lx⟩ := V16.out.get (.tail _ (.head _))
  have lq := (V16.out.get (.head _)).lt
  go_wp2_with fail
  refine (liv9 _ _ _ _ (V16.out.get (.tail _ (.head _))).ix).mono ?_
  rintro e w17 ⟨a17, A17, S17, rfl, q, hb⟩
  have V17 := Lib.hid ((V16.out.below hb).cons q)
  clear hb q x1 x2 x3 x4 lx
  obtain ⟨x1, x2, x3, x4, _, lx⟩ := V17.out.get (.head _)
  go_wp2_with fail
  refine (liv6 _ _ _ _ _ (V17.out.get (.head _)).ix 0 3 2 0 ⟨by omega, by omega⟩ ⟨by omega, by omega⟩ 2 (by decide) (by decide) kn_Rz rfl rfl rfl).mono ?_
  rintro e w18 ⟨rfl, hb⟩
  have V18 := Lib.hid (V17.out.below hb)
  clear hb x1 x2 x3 x4 lx
  obtain ⟨x1, x2, x3, x4, _, lx⟩ := V18.out.get (.tail _ (.tail _ (.head _)))
  have V18b : Hid (LX w (w18.alloc (.cells #[.int .i64 0] 2)) [(w17.heap.size, a17, A17, S17, lRz), (w16.heap.size, a16, A16, S16, lRy), (w2.heap.size, a4, A4, S4, lR2)] []) := V18.out.alloc _
  have L2 : SeesL (w18.alloc (.cells #[.int .i64 0] 2)) (w18.alloc (.cells #[.int .i64 0] 2)).heap.size (some ⟨w18.heap.size, 0, none⟩) [0] := litL w18 [0]
  have K2 := Lib.hid (liv3 _ a4 A4 S4 _ (V18b.out.get (.tail _ (.tail _ (.head _)))).ix L2)
  clear L2
  go_wp2_with fail
  refine (K2.out).mono ?_
  rintro e w19 ⟨a19, A19, S19, rfl, q, hb⟩
  have V19 := Lib.hid (V18b.out.below hb)
  clear hb q x1 x2 x3 x4 lx
  obtain ⟨x1, x2, x3, x4, _, lx⟩ := V19.out.get (.tail _ (.tail _ (.head _)))
  go_wp2_with fail
  refine (liv10 _ _ _ _ (V19.out.get (.tail _ (.tail _ (.head _)))).ix).mono ?_
  rintro e w20 ⟨a20, A20, S20, rfl, q, hb⟩
  have V20 := Lib.hid ((V19.out.below hb).alloc (.cells #[.pointer a20, .slice A20 S20.length S20.length] 34))
  have V20a := Lib.hid (V19.out.below hb)
  clear hb q x1 x2 x3 x4 lx
  obtain ⟨x1, x2, x3, x4, _, lx⟩ := V20a.out.get (.head _)
  go_wp2_with fail
  refine (rtotal_any _ _ (szs lRz) (V20.out.get (.head _)).ix.rp).mono ?_
  rintro e w21 ⟨rfl, hb⟩
  have V21 := Lib.hid (V20.out.below hb)
  clear hb x1 x2 x3 x4 lx V20a
  obtain ⟨x1, x2, x3, x4, _, lx⟩ := V21.out.get (.tail _ (.head _))
  have h2 := lit_Ry w21
  have ib : Ix (w21.alloc (.cells #[.int .i64 4, .bool false, .int .i64 5, .bool false, .int .i64 3, .bool true] 44)) a16 A16 S16 lRy := ((V21.out.alloc _).get (.tail _ (.head _))).ix
  have KS := Lib.hid (same_any _ a16 A16 S16 lRy ib _ 3 _ h2 (Nat.le_refl _) 0 ⟨by omega, by omega⟩)
  have B21 := Lib.hid (V21.out.alloc (.cells #[.int .i64 4, .bool false, .int .i64 5, .bool false, .int .i64 3, .bool true] 44)).bl
  clear h2 ib
  go_wp2_with fail
  refine (KS.out).mono ?_
  rintro e w22 ⟨rfl, hb⟩
  have HB := Lib.hid (B21.out.trans (hb.mono B21.out.size))
  clear hb
  go_wp2_with fail
  go_ret
  exact ⟨rfl, HB.out⟩
end Go.Proofs.Ytngbaiijdgmpoaa

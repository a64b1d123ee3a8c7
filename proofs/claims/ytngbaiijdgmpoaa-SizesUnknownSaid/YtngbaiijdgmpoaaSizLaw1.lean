/-
  SizesUnknown.
-/
import Derived.Test.YtngbaiijdgmpoaaSizL
namespace Go.Proofs.Ytngbaiijdgmpoaa
open Go.RowKit
set_option linter.unusedVariables false
set_option linter.unusedSimpArgs false

/-- The index of an I in a world: what a law holds when it has begun. -/
structure IStart (w W : World) (q : Nat) (a A : Option Addr) (S : Sp) (A1 : Option Addr) (R : Rws) : Prop where
  v : LX w W [(q, a, A, S, R)] [(A1, R)]
set_option maxRecDepth 100000 in
set_option maxHeartbeats 3200000 in
theorem law_unknown (A : Option Addr) (n c : Nat) (f : Nat → Int) (g : Bool) (x y : Int) (w : World) (hs : Sees w w.heap.size A n (u8r f)) (hf : ∀ j, 0 ≤ f j ∧ f j ≤ 255) (hnc : n ≤ c) (hc : c ≤ maxLen) (fx : Fits x) (fy : Fits y) :
    Calls Try.prog 4 #[.agg #[.slice A n c, .bool g], .int .i64 x, .int .i64 y] w fun e w' => e = .returned (.bool true) ∧ Below w.heap.size w w' := by
  have OK := Lib.hid (irows_ok f n g)
  have b0 : Below w.heap.size w (w.alloc (.cells #[.slice A n c, .bool g] 24)) := (Below.refl _ w).alloc (Nat.le_refl _) _
  have VR := Lib.hid (World.rowIs_alloc w #[.slice A n c, .bool g] 24 (fun j => if j = 0 then .slice A n c else .bool g) (fun j hj => by
    have : j = 0 ∨ j = 1 := by simp at hj; omega
    rcases this with rfl | rfl <;> rfl))
  have HS0 := (hs.below b0)
  have hm : n ≤ maxLen := Nat.le_trans hnc hc
  have KR := Lib.hid (Rows_any (w.alloc (.cells #[.slice A n c, .bool g] 24)) A n c f g (HS0.more b0.size) (fun j _ => hf j) hm)
  have KO : Hid (∀ W, Below (w.alloc (.cells #[.slice A n c, .bool g] 24)).heap.size (w.alloc (.cells #[.slice A n c, .bool g] 24)) W → _) := fun W (hW : Below (w.alloc (.cells #[.slice A n c, .bool g] 24)).heap.size (w.alloc (.cells #[.slice A n c, .bool g] 24)) W) => Of_any W A n c f g ((HS0.below (hW.mono b0.size)).more (Nat.le_trans b0.size hW.size)) (fun j _ => hf j) hm
  have L0 := Lib.hid (LX.start b0)
  have lw : w.heap.size < (w.alloc (.cells #[.slice A n c, .bool g] 24)).heap.size := by rw [World.size_alloc]; omega
  generalize irows f n g = R at KR KO OK
  clear hs hf hnc HS0 hm b0
  go_enter Try.func4, Try.ntmps4
  go_wp2_with fail
  change Calls Try.prog _ _ (w.alloc (.cells #[.slice A n c, .bool g] 24)) _
  generalize w.alloc (.cells #[.slice A n c, .bool g] 24) = w0 at KR KO L0 VR lw ⊢
  refine (KR.out).mono ?_
  rintro e w1 ⟨A1, c1, rfl, p1, p2, p3, p4⟩
  have L1 := Lib.hid ((L0.out.below p2).add p1)
  have B1 := Lib.hid p2
  have V1 := Lib.hid (World.rowIs.of_block VR.out (p2.block _ lw))
  have v1 := V1.out.cell (i := 0) (by simp)
  have v2 := V1.out.cell (i := 1) (by simp)
  rw [if_pos rfl] at v1
  rw [if_neg (by decide)] at v2
  have lw1 := World.rowIs.lt V1.out
  clear p1 p2 KR
  go_wp2_with fail
  refine (KO.out _ B1.out).mono ?_
  rintro e w2 ⟨a, A', S, rfl, p1, p2⟩
  have L2 := Lib.hid ((L1.out.below p2).cons p1)
  clear p1 p2 KO v1 v2 lw1 V1
  have KS := Lib.hid (same_any (ixw w2 a A' S.length) a A' S R (L2.out.get (.head _)).ix A1 c1 _ (L2.out.see (.head _)) (Nat.le_refl _) 0 ⟨by omega, by omega⟩)
  obtain ⟨x1, x2, x3, x4, _, lx⟩ := L2.out.get (.head _)
  have hlen := OK.out.len
  obtain ⟨m, em⟩ : ∃ m, m = R.length := ⟨_, rfl⟩
  have EM := Lib.hid em
  rw [← em] at KS hlen p3 ⊢
  clear em
  go_wp2_with fail
  refine (KS.out).mono ?_
  rintro e w3 ⟨rfl, hb⟩
  have L3 := Lib.hid (L2.out.below hb)
  clear hb x1 x2 x3 x4 lx KS
  obtain ⟨x1, x2, x3, x4, _, lx⟩ := L3.out.get (.head _)
  go_wp2_with fail
  refine (iunknown_any _ _ _ _ R (L3.out.get (.head _)).ix x y fx fy).mono ?_
  rintro e w4 ⟨⟨hbad, rfl⟩ | ⟨hok, t, h1, h2, h3, rfl⟩, hb⟩
  · rw [← EM.out] at hbad
    have L4 := Lib.hid (L3.out.below hb)
    clear hb x1 x2 x3 x4 lx
    by_cases c1 : x < 0
    · go_wp2_with fail
      -- lives(), and the end; L4 holder
      refine (lives_yes _).mono ?_
      rintro e wz ⟨rfl, hb⟩
      have HB := Lib.hid ((L4.out.below hb).bl)
      clear hb
      go_wp2_with fail
      go_ret
      exact ⟨rfl, HB.out⟩
    · by_cases c2 : y < x
      · go_wp2_with fail
        -- lives(), and the end; L4 holder
        refine (lives_yes _).mono ?_
        rintro e wz ⟨rfl, hb⟩
        have HB := Lib.hid ((L4.out.below hb).bl)
        clear hb
        go_wp2_with fail
        go_ret
        exact ⟨rfl, HB.out⟩
      · have c3 : (m : Int) < y := by omega
        go_wp2_with fail
        -- lives(), and the end; L4 holder
        refine (lives_yes _).mono ?_
        rintro e wz ⟨rfl, hb⟩
        have HB := Lib.hid ((L4.out.below hb).bl)
        clear hb
        go_wp2_with fail
        go_ret
        exact ⟨rfl, HB.out⟩
  · rw [← EM.out] at hok
    have L4 := Lib.hid (L3.out.below hb)
    have H2 := Lib.hid h2
    have H3 := Lib.hid h3
    clear hb x1 x2 x3 x4 lx h2 h3
    obtain ⟨x, rfl⟩ : ∃ z : Nat, x = (z : Int) := ⟨x.toNat, by omega⟩
    obtain ⟨y, rfl⟩ : ∃ z : Nat, y = (z : Int) := ⟨y.toNat, by omega⟩
    have c1 : ¬ ((x : Int) < 0) := by omega
    have c2 : ¬ ((y : Int) < (x : Int)) := by omega
    have c3 : ¬ ((m : Int) < (y : Int)) := by omega
    obtain ⟨rv, erv⟩ : ∃ v, v = (if (y : Int) ≤ (t : Int) then 0 else (t : Int)) := ⟨_, rfl⟩
    obtain ⟨re, ere⟩ : ∃ v, v = (if (y : Int) ≤ (t : Int) then (11 : Int) else 0) := ⟨_, rfl⟩
    rw [← erv, ← ere]
    have ERV := Lib.hid erv
    have ERE := Lib.hid ere
    clear erv ere hok
    go_wp2_with fail
    go_loopw [11] (fun i wr => ∃ k : Nat, x ≤ k ∧ k ≤ y ∧ k ≤ t ∧ i = .int .i64 k ∧ Hid (LX w wr [(w2.heap.size, a, A', S, R)] [(A1, R)])) (fun i _ => y - (intOf i).toNat)
    case atStart => exact ⟨x, Nat.le_refl _, by omega, by omega, rfl, L4⟩
    case round =>
      obtain ⟨k, k1, k2, k3, rfl, L5⟩ := hrel
      clear L4
      by_cases hlt : k < y
      · obtain ⟨b, o, rfl, hb0, q0, q1⟩ := (L5.out.see (.head _)).cells (k := k) (by rw [← EM.out]; omega)
        by_cases e : k = t
        · have hk : (rg R k).2 = false := by rw [e]; exact H3.out
          rw [hk] at q1
          have e1 : rv = (k : Int) := by rw [ERV.out, if_neg (by omega)]; omega
          have e2 : re = 0 := by rw [ERE.out, if_neg (by omega)]
          subst e1
          subst e2
          clear hk e
          go_wp2_with fail
          -- lives(), and the end; L5 holder
          refine (lives_yes _).mono ?_
          rintro e wz ⟨rfl, hb⟩
          have HB := Lib.hid ((L5.out.below hb).bl)
          clear hb
          go_wp2_with fail
          go_ret
          exact ⟨rfl, HB.out⟩
        · have hk : (rg R k).2 = true := H2.out k (by omega) (by omega)
          have k4 : k + 1 ≤ t := by omega
          rw [hk] at q1
          clear hk e
          go_wp2_with fail
          go_roundw
          case rel => exact ⟨k + 1, by omega, by omega, by omega, by go_num, L5⟩
          case measure => simp [intOf]; omega
      · have hy : k = y := by omega
        have e1 : rv = 0 := by rw [ERV.out, if_pos (by omega)]
        have e2 : re = 11 := by rw [ERE.out, if_pos (by omega)]
        subst e1
        subst e2
        go_wp2_with fail
        -- lives(), and the end; L5 holder
        refine (lives_yes _).mono ?_
        rintro e wz ⟨rfl, hb⟩
        have HB := Lib.hid ((L5.out.below hb).bl)
        clear hb
        go_wp2_with fail
        go_ret
        exact ⟨rfl, HB.out⟩
end Go.Proofs.Ytngbaiijdgmpoaa

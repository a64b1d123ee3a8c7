/-
  SizesAt.
-/
import Derived.Test.YtngbaiijdgmpoaaSizL
namespace Go.Proofs.Ytngbaiijdgmpoaa
open Go.RowKit
set_option linter.unusedVariables false
set_option linter.unusedSimpArgs false

theorem place_of {L : List Int} {x : Int} : ∀ n, n ≤ L.length → 0 ≤ x → x < (L.take n).sum → ∃ j rest, Place L x j rest := by
  intro n
  induction n with
  | zero => intro _ h0 h1; exact absurd h1 (by show ¬ x < 0; omega)
  | succ n ih =>
    intro hn h0 h1
    by_cases c : x < (L.take n).sum
    · exact ih (by omega) h0 c
    · exact ⟨n, _, by omega, by omega, h1, rfl⟩
theorem place_bd {L : List Int} (ok : LOk L) {x : Int} {j : Nat} {rest : Int} (h : Place L x j rest) : 0 ≤ x ∧ x < L.sum := by
  obtain ⟨h1, h2, h3, _⟩ := h
  have := (sum_take_bd ok j).1
  have := sum_take_le ok.nn (j + 1)
  omega
theorem sumVal_in {R : Rws} {k : Nat} (h : k ≤ R.length) : sumVal (szs R) k = ((szs R).take k).sum ∧ sumErr (szs R) k = 0 := by
  unfold sumVal sumErr
  rw [szs_len, if_neg (by omega), if_neg (by omega), Int.toNat_natCast, psum_lf _ _ (by rw [szs_len]; exact h)]
  exact ⟨rfl, rfl⟩
theorem place_one {R : Rws} (ok : IOk R) {y : Int} {j j2 : Nat} {r r2 : Int} (h : Place (szs R) y j r) (h2 : Place (szs R) y j2 r2) : j2 = j ∧ r2 = r := by
  have mono : ∀ p q, p ≤ q → ((szs R).take p).sum ≤ ((szs R).take q).sum := fun p q hpq => by
    have e : (szs R).take p = ((szs R).take q).take p := by rw [List.take_take, Nat.min_eq_left hpq]
    rw [e]
    exact sum_take_le (fun x hx => ok.ok.nn x (List.mem_of_mem_take hx)) p
  obtain ⟨a1, a2, a3, a4⟩ := h
  obtain ⟨b1, b2, b3, b4⟩ := h2
  have e : j2 = j := by
    apply Classical.byContradiction; intro c
    rcases Nat.lt_or_ge j j2 with d | d
    · have := mono (j + 1) j2 d; omega
    · have := mono (j2 + 1) j (by omega); omega
  subst e
  exact ⟨rfl, by omega⟩
set_option maxRecDepth 100000 in
set_option maxHeartbeats 6400000 in
theorem law_at (A : Option Addr) (n c : Nat) (f : Nat → Int) (g : Bool) (x y : Int) (w : World) (hs : Sees w w.heap.size A n (u8r f)) (hf : ∀ j, 0 ≤ f j ∧ f j ≤ 255) (hnc : n ≤ c) (hc : c ≤ maxLen) (fx : Fits x) (fy : Fits y) :
    Calls Try.prog 3 #[.agg #[.slice A n c, .bool g], .int .i64 x, .int .i64 y] w fun e w' => e = .returned (.bool true) ∧ Below w.heap.size w w' := by
  have OK := Lib.hid (irows_ok f n g)
  have b0 : Below w.heap.size w (w.alloc (.cells #[.slice A n c, .bool g] 24)) := (Below.refl _ w).alloc (Nat.le_refl _) _
  have VR := Lib.hid (World.rowIs_alloc w #[.slice A n c, .bool g] 24 (fun j => if j = 0 then .slice A n c else .bool g) (fun j hj => by
    have : j = 0 ∨ j = 1 := by simp at hj; omega
    rcases this with rfl | rfl <;> rfl))
  have HS0 := (hs.below b0)
  have hm : n ≤ maxLen := Nat.le_trans hnc hc
  have KR := Lib.hid (Rows_any (w.alloc (.cells #[.slice A n c, .bool g] 24)) A n c f g (HS0.more b0.size) (fun j _ => hf j) hm)
  have KO : Hid (∀ W, Below (w.alloc (.cells #[.slice A n c, .bool g] 24)).heap.size (w.alloc (.cells #[.slice A n c, .bool g] 24)) W → _) := fun W (hW : Below (w.alloc (.cells #[.slice A n c, .bool g] 24)).heap.size (w.alloc (.cells #[.slice A n c, .bool g] 24)) W) => Of_any W A n c f g ((HS0.below (hW.mono b0.size)).more (Nat.le_trans b0.size hW.size)) (fun j _ => hf j) hm
  have L0 := Lib.hid (LX.start b0)
  have lw : w.heap.size < (w.alloc (.cells #[.slice A n c, .bool g] 24)).heap.size := by rw [World.size_alloc]; omega
  generalize irows f n g = R at KR KO OK
  clear hs hf hnc HS0 hm b0
  go_enter Try.func3, Try.ntmps3
  go_wp2_with fail
  change Calls Try.prog _ _ (w.alloc (.cells #[.slice A n c, .bool g] 24)) _
  generalize w.alloc (.cells #[.slice A n c, .bool g] 24) = w0 at KR KO L0 VR lw ⊢
  refine (KR.out).mono ?_
  rintro e w1 ⟨A1, c1, rfl, p1, p2, p3, p4⟩
  have L1 := Lib.hid ((L0.out.below p2).add p1)
  have B1 := Lib.hid p2
  have V1 := Lib.hid (World.rowIs.of_block VR.out (p2.block _ lw))
  have v1 := V1.out.cell (i := 0) (by simp)
  have v2 := V1.out.cell (i := 1) (by simp)
  rw [if_pos rfl] at v1
  rw [if_neg (by decide)] at v2
  have lw1 := World.rowIs.lt V1.out
  clear p1 p2 KR
  go_wp2_with fail
  refine (KO.out _ B1.out).mono ?_
  rintro e w2 ⟨a, A', S, rfl, p1, p2⟩
  have L2 := Lib.hid ((L1.out.below p2).cons p1)
  clear p1 p2 KO v1 v2 lw1 V1
  have KS := Lib.hid (same_any (ixw w2 a A' S.length) a A' S R (L2.out.get (.head _)).ix A1 c1 _ (L2.out.see (.head _)) (Nat.le_refl _) 0 ⟨by omega, by omega⟩)
  obtain ⟨x1, x2, x3, x4, _, lx⟩ := L2.out.get (.head _)
  have hlen := OK.out.len
  obtain ⟨m, em⟩ : ∃ m, m = R.length := ⟨_, rfl⟩
  have EM := Lib.hid em
  rw [← em] at KS hlen p3 ⊢
  clear em
  go_wp2_with fail
  refine (KS.out).mono ?_
  rintro e w3 ⟨rfl, hb⟩
  have L3 := Lib.hid (L2.out.below hb)
  clear hb x1 x2 x3 x4 lx KS
  obtain ⟨x1, x2, x3, x4, _, lx⟩ := L3.out.get (.head _)
  go_wp2_with fail
  have E1 : Hid (∀ k : Nat, k ≤ m → sumVal (szs R) k = ((szs R).take k).sum ∧ sumErr (szs R) k = 0) := fun k hk => sumVal_in (by rw [← EM.out]; exact hk)
  have PL : Hid (∀ k : Nat, k < m → 1 ≤ lf (szs R) k ∧ lf (szs R) k ≤ 2305843009213693952 ∧ ((szs R).take k).sum + lf (szs R) k ≤ 4611686018427387904 ∧ ((szs R).take k).sum + lf (szs R) k ≤ (szs R).sum ∧ Place (szs R) ((szs R).take k).sum k 0 ∧ Place (szs R) (((szs R).take k).sum + lf (szs R) k - 1) k (lf (szs R) k - 1)) := fun k hk => by
    have hk' : k < (szs R).length := by rw [szs_len, ← EM.out]; exact hk
    have h1 := OK.out.ps _ (lf_mem (szs R) hk')
    have h2 := sum_take_succ (szs R) hk'
    have h3 := (sum_take_bd OK.out.ok (k + 1)).2
    have h4 := sum_take_le OK.out.ok.nn (k + 1)
    exact ⟨h1.1, h1.2, by omega, by omega, ⟨hk', by omega, by omega, by omega⟩, ⟨hk', by omega, by omega, by omega⟩⟩
  have BD := Lib.hid (fun k => sum_take_bd OK.out.ok k)
  have PC : Hid ((∃ j rest, Place (szs R) y j rest ∧ 0 ≤ y ∧ y < (szs R).sum) ∨ ((∀ j rest, ¬ Place (szs R) y j rest) ∧ (y < 0 ∨ (szs R).sum ≤ y))) := by
    by_cases h : 0 ≤ y ∧ y < (szs R).sum
    · obtain ⟨j, rest, hp⟩ := place_of (L := szs R) (x := y) (szs R).length (Nat.le_refl _) h.1 (by rw [List.take_length]; exact h.2)
      exact .inl ⟨j, rest, hp, h⟩
    · exact .inr ⟨fun j rest hp => h (place_bd OK.out.ok hp), by omega⟩
  go_loopw [9] (fun i wr => ∃ k : Nat, k ≤ m + 1 ∧ i = .int .i64 k ∧ Hid (LX w wr [(w2.heap.size, a, A', S, R)] [(A1, R)])) (fun i _ => m + 1 - (intOf i).toNat)
  case atStart => exact ⟨0, by omega, rfl, L3⟩
  case round =>
    obtain ⟨k, hk, rfl, L4⟩ := hrel
    clear L3 x1 x2 x3 x4 lx
    obtain ⟨x1, x2, x3, x4, _, lx⟩ := L4.out.get (.head _)
    by_cases hlt : k ≤ m
    · have KT := Lib.hid (itop_any wr a A' S.length R (L4.out.get (.head _)).ix.rp OK.out.ok k ⟨by omega, by omega⟩)
      rw [(E1.out k hlt).1, (E1.out k hlt).2] at KT
      have KU := Lib.hid (fun W (h : SeesR W W.heap.size A1 R) => refTop_any W _ A1 c1 R k h OK.out.ok (by rw [← EM.out]; exact hlt) (by rw [← EM.out]; omega))
      rw [← EM.out] at KU
      obtain ⟨b1, b2⟩ := BD.out k
      by_cases hl2 : k < m
      · obtain ⟨v1, v2, v3, v4, pl1, pl2⟩ := PL.out k hl2
        have KA := Lib.hid (fun W (g : LX1 W w2.heap.size a A' S R) => iat_ok W a A' S.length R g.ix.rp g.ix.ok _ k _ pl1 b1 (by omega))
        have KB := Lib.hid (fun W (g : LX1 W w2.heap.size a A' S R) => iat_ok W a A' S.length R g.ix.rp g.ix.ok _ k _ pl2 (by omega) (by omega))
        have e1 := rg_fst R (k := k) (by rw [← EM.out]; exact hl2)
        generalize ((szs R).take k).sum = s at KT KU b1 b2 v3 v4 KA KB
        clear pl1 pl2
        generalize lf (szs R) k = v at v1 v2 v3 v4 KA KB e1
        have wr1 : IntKind.i64.wrap (s + v) = s + v := IntWalk.i64_in _ (by omega)
        have wr2 : IntKind.i64.wrap (s + v - 1) = s + v - 1 := IntWalk.i64_in _ (by omega)
        have wr3 : IntKind.i64.wrap (v - 1) = v - 1 := IntWalk.i64_in _ (by omega)
        have E3 := Lib.hid e1
        clear v4 e1
        go_wp2_with fail
        -- KT.out contract; L4 old holder; L5 new; w5 world
        refine (KT.out).mono ?_
        rintro e w5 ⟨rfl, hb⟩
        have L5 := Lib.hid (L4.out.below hb)
        clear hb x1 x2 x3 x4 lx
        obtain ⟨x1, x2, x3, x4, _, lx⟩ := L5.out.get (.head _)
        go_wp2_with fail
        refine (KU.out _ (L5.out.see (.head _))).mono ?_
        rintro e w6 ⟨rfl, rfl⟩
        go_wp2_with fail
        -- KA.out _ (L5.out.get (.head _)) contract; L5 old holder; L6 new; w7 world
        refine (KA.out _ (L5.out.get (.head _))).mono ?_
        rintro e w7 ⟨rfl, hb⟩
        have L6 := Lib.hid (L5.out.below hb)
        clear hb x1 x2 x3 x4 lx
        obtain ⟨x1, x2, x3, x4, _, lx⟩ := L6.out.get (.head _)
        go_wp2_with fail
        have DB : Hid (Below w7.heap.size w7 w7.drew) := (Below.refl _ _).drew
        have L6d := Lib.hid (L6.out.drawn (w' := w7.drew) ⟨1, rfl⟩)
        obtain ⟨b, o, rfl, hb0, q0, q1⟩ := (L6.out.see (.head _)).cells (k := k) (by rw [← EM.out]; exact hl2)
        rw [E3.out] at q0
        clear q1
        refine wp_region_plan [(false, 0), (false, 1), (false, 2), (false, 3), (false, 4), (false, 5), (false, 6), (false, 7), (false, 8), (true, 9), (false, 10), (false, 11), (false, 12), (false, 13), (false, 14), (false, 15), (false, 16)] (Below w7.heap.size w7) (by kernel_rfl) (by kernel_rfl) (DB.out) _ (by simp only [pickH, List.getElem?_toArray, List.getElem?_cons_succ, List.getElem?_cons_zero]; rfl) ?_
        repeat (refine HWalk.step (fun K hK => ?_); first | (apply held_yes; (focus rfl); (focus (intro w' hw; obtain ⟨hc', hf'⟩ := below_cells hw; go_simp; rfl)); (go_simp; refine hK _ ?_; clear hK K)) | (refine ite_no (by decide) ?_; go_simp; refine hK _ ?_; clear hK K))
        refine HWalk.mark ?_
        go_wp2_with fail
        refine (KB.out _ (L6d.out.get (.head _))).mono ?_
        rintro e w8 ⟨rfl, hb⟩
        have L7 := Lib.hid (L6d.out.below hb)
        have q2 := (hb.cell (p := ⟨b, o + k * 2, none⟩) hb0).trans q0
        have B8 : Hid (Below w7.heap.size w7 w8) := DB.out.trans hb
        clear hb x1 x2 x3 x4 lx q0
        go_wp2_with fail
        refine ⟨B8.out, ?_⟩
        repeat (refine HWalk.step (fun K hK => ?_); first | (apply held_yes; (focus rfl); (focus (intro w' hw; obtain ⟨hc', hf'⟩ := below_cells hw; go_simp; rfl)); (go_simp; refine hK _ ?_; clear hK K)) | (refine ite_no (by decide) ?_; go_simp; refine hK _ ?_; clear hK K))
        refine HWalk.done ?_
        go_wp2_with fail
        go_roundw
        case rel => exact ⟨k + 1, by omega, by go_num, L7⟩
        case measure => simp [intOf]; omega
      · generalize ((szs R).take k).sum = s at KT KU b1 b2
        go_wp2_with fail
        -- KT.out contract; L4 old holder; L5 new; w5 world
        refine (KT.out).mono ?_
        rintro e w5 ⟨rfl, hb⟩
        have L5 := Lib.hid (L4.out.below hb)
        clear hb x1 x2 x3 x4 lx
        obtain ⟨x1, x2, x3, x4, _, lx⟩ := L5.out.get (.head _)
        go_wp2_with fail
        refine (KU.out _ (L5.out.see (.head _))).mono ?_
        rintro e w6 ⟨rfl, rfl⟩
        go_wp2_with fail
        go_roundw
        case rel => exact ⟨k + 1, by omega, by go_num, L5⟩
        case measure => simp [intOf]; omega
    · obtain rfl : k = m + 1 := by omega
      have KT := Lib.hid (itop_any wr a A' S.length R (L4.out.get (.head _)).ix.rp OK.out.ok x fx)
      have KZ := Lib.hid (fun W (g : LX1 W w2.heap.size a A' S R) => isize_any W a A' S.length R g.ix.rp (by have := OK.out.len; omega) x fx)
      have KK := Lib.hid (fun W (g : LX1 W w2.heap.size a A' S R) => iknown_any W a A' S R g.ix x fx)
      clear E1 PL BD
      by_cases c1 : x < 0 ∨ (m : Int) ≤ x
      · have z1 : atVal (szs R) x = 0 := by unfold atVal; rw [szs_len, ← EM.out, if_pos c1]
        have z2 : atErr (szs R) x = 4 := by unfold atErr; rw [szs_len, ← EM.out, if_pos c1]
        have z3 : knVal R x = false := by unfold knVal; rw [← EM.out, if_pos c1]
        have z4 : knErr R x = 4 := by unfold knErr; rw [← EM.out, if_pos c1]
        rw [z1, z2] at KZ
        rw [z3, z4] at KK
        clear z1 z2 z3 z4
        by_cases c2 : x = (m : Int)
        · have z5 : sumErr (szs R) x = 0 := by unfold sumErr; rw [szs_len, ← EM.out, if_neg (by omega)]
          rw [z5] at KT
          generalize sumVal (szs R) x = sv at KT
          have c3 : ¬ x < 0 := by omega
          have c4 : ¬ x < (m : Int) := by omega
          clear z5 c1
          subst c2
          go_wp2_with fail
          -- KT.out contract; L4 old holder; L5 new; w5 world
          refine (KT.out).mono ?_
          rintro e w5 ⟨rfl, hb⟩
          have L5 := Lib.hid (L4.out.below hb)
          clear hb x1 x2 x3 x4 lx
          obtain ⟨x1, x2, x3, x4, _, lx⟩ := L5.out.get (.head _)
          go_wp2_with fail
          -- KZ.out _ (L5.out.get (.head _)) contract; L5 old holder; L6 new; w6 world
          refine (KZ.out _ (L5.out.get (.head _))).mono ?_
          rintro e w6 ⟨rfl, hb⟩
          have L6 := Lib.hid (L5.out.below hb)
          clear hb x1 x2 x3 x4 lx
          obtain ⟨x1, x2, x3, x4, _, lx⟩ := L6.out.get (.head _)
          go_wp2_with fail
          -- KK.out _ (L6.out.get (.head _)) contract; L6 old holder; L7 new; w7 world
          refine (KK.out _ (L6.out.get (.head _))).mono ?_
          rintro e w7 ⟨rfl, hb⟩
          have L7 := Lib.hid (L6.out.below hb)
          clear hb x1 x2 x3 x4 lx
          obtain ⟨x1, x2, x3, x4, _, lx⟩ := L7.out.get (.head _)
          go_wp2_with fail
          -- L7: holder behind the three questions
          rcases PC.out with ⟨j, rest, hp, y0, y1⟩ | ⟨hn, hy⟩
          · have KA := Lib.hid (iat_ok _ a A' S.length R (L7.out.get (.head _)).ix.rp (L7.out.get (.head _)).ix.ok y j rest hp y0 y1)
            have HP := Lib.hid hp
            clear hp y0 y1
            refine (KA.out).mono ?_
            rintro e wc ⟨rfl, hb⟩
            have La := Lib.hid (L7.out.below hb)
            have KB := Lib.hid (refAt_any _ _ A1 c1 R y (La.out.see (.head _)) OK.out.ok (by have := OK.out.len; omega) fy)
            rw [← EM.out] at KB
            clear hb x1 x2 x3 x4 lx KA
            go_wp2_with fail
            refine (KB.out).mono ?_
            rintro e wd ⟨⟨j2, rest2, hp2, rfl⟩ | ⟨hn2, rfl⟩, rfl⟩
            · obtain ⟨e1, e2⟩ := place_one OK.out HP.out hp2
              subst e1
              subst e2
              clear hp2 HP KB
              go_wp2_with fail
              -- lives(), and the end; La holder
              refine (lives_yes _).mono ?_
              rintro e wz ⟨rfl, hb⟩
              have HB := Lib.hid ((La.out.below hb).bl)
              clear hb
              go_wp2_with fail
              go_ret
              exact ⟨rfl, HB.out⟩
            · exact absurd HP.out (hn2 j rest)
          · have KA := Lib.hid (iat_bad _ a A' S.length R (L7.out.get (.head _)).ix.rp (L7.out.get (.head _)).ix.ok y fy hy)
            have HN := Lib.hid hn
            clear hn hy
            refine (KA.out).mono ?_
            rintro e wc ⟨rfl, hb⟩
            have La := Lib.hid (L7.out.below hb)
            have KB := Lib.hid (refAt_any _ _ A1 c1 R y (La.out.see (.head _)) OK.out.ok (by have := OK.out.len; omega) fy)
            rw [← EM.out] at KB
            clear hb x1 x2 x3 x4 lx KA
            go_wp2_with fail
            refine (KB.out).mono ?_
            rintro e wd ⟨⟨j2, rest2, hp2, rfl⟩ | ⟨hn2, rfl⟩, rfl⟩
            · exact absurd hp2 (HN.out j2 rest2)
            · clear hn2 KB HN
              go_wp2_with fail
              -- lives(), and the end; La holder
              refine (lives_yes _).mono ?_
              rintro e wz ⟨rfl, hb⟩
              have HB := Lib.hid ((La.out.below hb).bl)
              clear hb
              go_wp2_with fail
              go_ret
              exact ⟨rfl, HB.out⟩
        · have z5 : sumErr (szs R) x = 4 := by unfold sumErr; rw [szs_len, ← EM.out, if_pos (by omega)]
          have z6 : sumVal (szs R) x = 0 := by unfold sumVal; rw [szs_len, ← EM.out, if_pos (by omega)]
          rw [z5, z6] at KT
          clear z5 z6
          by_cases c3 : x < 0
          · clear c1 c2
            have c4 : ¬ x = (m : Int) := by omega
            go_wp2_with fail
            -- KT.out contract; L4 old holder; L5 new; w5 world
            refine (KT.out).mono ?_
            rintro e w5 ⟨rfl, hb⟩
            have L5 := Lib.hid (L4.out.below hb)
            clear hb x1 x2 x3 x4 lx
            obtain ⟨x1, x2, x3, x4, _, lx⟩ := L5.out.get (.head _)
            go_wp2_with fail
            -- KZ.out _ (L5.out.get (.head _)) contract; L5 old holder; L6 new; w6 world
            refine (KZ.out _ (L5.out.get (.head _))).mono ?_
            rintro e w6 ⟨rfl, hb⟩
            have L6 := Lib.hid (L5.out.below hb)
            clear hb x1 x2 x3 x4 lx
            obtain ⟨x1, x2, x3, x4, _, lx⟩ := L6.out.get (.head _)
            go_wp2_with fail
            -- KK.out _ (L6.out.get (.head _)) contract; L6 old holder; L7 new; w7 world
            refine (KK.out _ (L6.out.get (.head _))).mono ?_
            rintro e w7 ⟨rfl, hb⟩
            have L7 := Lib.hid (L6.out.below hb)
            clear hb x1 x2 x3 x4 lx
            obtain ⟨x1, x2, x3, x4, _, lx⟩ := L7.out.get (.head _)
            go_wp2_with fail
            -- L7: holder behind the three questions
            rcases PC.out with ⟨j, rest, hp, y0, y1⟩ | ⟨hn, hy⟩
            · have KA := Lib.hid (iat_ok _ a A' S.length R (L7.out.get (.head _)).ix.rp (L7.out.get (.head _)).ix.ok y j rest hp y0 y1)
              have HP := Lib.hid hp
              clear hp y0 y1
              refine (KA.out).mono ?_
              rintro e wc ⟨rfl, hb⟩
              have La := Lib.hid (L7.out.below hb)
              have KB := Lib.hid (refAt_any _ _ A1 c1 R y (La.out.see (.head _)) OK.out.ok (by have := OK.out.len; omega) fy)
              rw [← EM.out] at KB
              clear hb x1 x2 x3 x4 lx KA
              go_wp2_with fail
              refine (KB.out).mono ?_
              rintro e wd ⟨⟨j2, rest2, hp2, rfl⟩ | ⟨hn2, rfl⟩, rfl⟩
              · obtain ⟨e1, e2⟩ := place_one OK.out HP.out hp2
                subst e1
                subst e2
                clear hp2 HP KB
                go_wp2_with fail
                -- lives(), and the end; La holder
                refine (lives_yes _).mono ?_
                rintro e wz ⟨rfl, hb⟩
                have HB := Lib.hid ((La.out.below hb).bl)
                clear hb
                go_wp2_with fail
                go_ret
                exact ⟨rfl, HB.out⟩
              · exact absurd HP.out (hn2 j rest)
            · have KA := Lib.hid (iat_bad _ a A' S.length R (L7.out.get (.head _)).ix.rp (L7.out.get (.head _)).ix.ok y fy hy)
              have HN := Lib.hid hn
              clear hn hy
              refine (KA.out).mono ?_
              rintro e wc ⟨rfl, hb⟩
              have La := Lib.hid (L7.out.below hb)
              have KB := Lib.hid (refAt_any _ _ A1 c1 R y (La.out.see (.head _)) OK.out.ok (by have := OK.out.len; omega) fy)
              rw [← EM.out] at KB
              clear hb x1 x2 x3 x4 lx KA
              go_wp2_with fail
              refine (KB.out).mono ?_
              rintro e wd ⟨⟨j2, rest2, hp2, rfl⟩ | ⟨hn2, rfl⟩, rfl⟩
              · exact absurd hp2 (HN.out j2 rest2)
              · clear hn2 KB HN
                go_wp2_with fail
                -- lives(), and the end; La holder
                refine (lives_yes _).mono ?_
                rintro e wz ⟨rfl, hb⟩
                have HB := Lib.hid ((La.out.below hb).bl)
                clear hb
                go_wp2_with fail
                go_ret
                exact ⟨rfl, HB.out⟩
          · have c4 : decide (x < (m : Int)) = false := decide_eq_false (by omega)
            clear c1
            go_wp2_with fail
            -- KT.out contract; L4 old holder; L5 new; w5 world
            refine (KT.out).mono ?_
            rintro e w5 ⟨rfl, hb⟩
            have L5 := Lib.hid (L4.out.below hb)
            clear hb x1 x2 x3 x4 lx
            obtain ⟨x1, x2, x3, x4, _, lx⟩ := L5.out.get (.head _)
            go_wp2_with fail
            -- KZ.out _ (L5.out.get (.head _)) contract; L5 old holder; L6 new; w6 world
            refine (KZ.out _ (L5.out.get (.head _))).mono ?_
            rintro e w6 ⟨rfl, hb⟩
            have L6 := Lib.hid (L5.out.below hb)
            clear hb x1 x2 x3 x4 lx
            obtain ⟨x1, x2, x3, x4, _, lx⟩ := L6.out.get (.head _)
            go_wp2_with fail
            -- KK.out _ (L6.out.get (.head _)) contract; L6 old holder; L7 new; w7 world
            refine (KK.out _ (L6.out.get (.head _))).mono ?_
            rintro e w7 ⟨rfl, hb⟩
            have L7 := Lib.hid (L6.out.below hb)
            clear hb x1 x2 x3 x4 lx
            obtain ⟨x1, x2, x3, x4, _, lx⟩ := L7.out.get (.head _)
            go_wp2_with fail
            -- L7: holder behind the three questions
            rcases PC.out with ⟨j, rest, hp, y0, y1⟩ | ⟨hn, hy⟩
            · have KA := Lib.hid (iat_ok _ a A' S.length R (L7.out.get (.head _)).ix.rp (L7.out.get (.head _)).ix.ok y j rest hp y0 y1)
              have HP := Lib.hid hp
              clear hp y0 y1
              refine (KA.out).mono ?_
              rintro e wc ⟨rfl, hb⟩
              have La := Lib.hid (L7.out.below hb)
              have KB := Lib.hid (refAt_any _ _ A1 c1 R y (La.out.see (.head _)) OK.out.ok (by have := OK.out.len; omega) fy)
              rw [← EM.out] at KB
              clear hb x1 x2 x3 x4 lx KA
              go_wp2_with fail
              refine (KB.out).mono ?_
              rintro e wd ⟨⟨j2, rest2, hp2, rfl⟩ | ⟨hn2, rfl⟩, rfl⟩
              · obtain ⟨e1, e2⟩ := place_one OK.out HP.out hp2
                subst e1
                subst e2
                clear hp2 HP KB
                go_wp2_with fail
                -- lives(), and the end; La holder
                refine (lives_yes _).mono ?_
                rintro e wz ⟨rfl, hb⟩
                have HB := Lib.hid ((La.out.below hb).bl)
                clear hb
                go_wp2_with fail
                go_ret
                exact ⟨rfl, HB.out⟩
              · exact absurd HP.out (hn2 j rest)
            · have KA := Lib.hid (iat_bad _ a A' S.length R (L7.out.get (.head _)).ix.rp (L7.out.get (.head _)).ix.ok y fy hy)
              have HN := Lib.hid hn
              clear hn hy
              refine (KA.out).mono ?_
              rintro e wc ⟨rfl, hb⟩
              have La := Lib.hid (L7.out.below hb)
              have KB := Lib.hid (refAt_any _ _ A1 c1 R y (La.out.see (.head _)) OK.out.ok (by have := OK.out.len; omega) fy)
              rw [← EM.out] at KB
              clear hb x1 x2 x3 x4 lx KA
              go_wp2_with fail
              refine (KB.out).mono ?_
              rintro e wd ⟨⟨j2, rest2, hp2, rfl⟩ | ⟨hn2, rfl⟩, rfl⟩
              · exact absurd hp2 (HN.out j2 rest2)
              · clear hn2 KB HN
                go_wp2_with fail
                -- lives(), and the end; La holder
                refine (lives_yes _).mono ?_
                rintro e wz ⟨rfl, hb⟩
                have HB := Lib.hid ((La.out.below hb).bl)
                clear hb
                go_wp2_with fail
                go_ret
                exact ⟨rfl, HB.out⟩
      · have z2 : atErr (szs R) x = 0 := by unfold atErr; rw [szs_len, ← EM.out, if_neg c1]
        have z4 : knErr R x = 0 := by unfold knErr; rw [← EM.out, if_neg c1]
        have z5 : sumErr (szs R) x = 0 := by unfold sumErr; rw [szs_len, ← EM.out, if_neg (by omega)]
        rw [z2] at KZ
        rw [z4] at KK
        rw [z5] at KT
        generalize sumVal (szs R) x = sv at KT
        generalize atVal (szs R) x = av at KZ
        generalize knVal R x = kv at KK
        have c3 : ¬ x < 0 := by omega
        have c4 : x < (m : Int) := by omega
        clear c1 z2 z4 z5
        go_wp2_with fail
        -- KT.out contract; L4 old holder; L5 new; w5 world
        refine (KT.out).mono ?_
        rintro e w5 ⟨rfl, hb⟩
        have L5 := Lib.hid (L4.out.below hb)
        clear hb x1 x2 x3 x4 lx
        obtain ⟨x1, x2, x3, x4, _, lx⟩ := L5.out.get (.head _)
        go_wp2_with fail
        -- KZ.out _ (L5.out.get (.head _)) contract; L5 old holder; L6 new; w6 world
        refine (KZ.out _ (L5.out.get (.head _))).mono ?_
        rintro e w6 ⟨rfl, hb⟩
        have L6 := Lib.hid (L5.out.below hb)
        clear hb x1 x2 x3 x4 lx
        obtain ⟨x1, x2, x3, x4, _, lx⟩ := L6.out.get (.head _)
        go_wp2_with fail
        -- KK.out _ (L6.out.get (.head _)) contract; L6 old holder; L7 new; w7 world
        refine (KK.out _ (L6.out.get (.head _))).mono ?_
        rintro e w7 ⟨rfl, hb⟩
        have L7 := Lib.hid (L6.out.below hb)
        clear hb x1 x2 x3 x4 lx
        obtain ⟨x1, x2, x3, x4, _, lx⟩ := L7.out.get (.head _)
        go_wp2_with fail
        -- L7: holder behind the three questions
        rcases PC.out with ⟨j, rest, hp, y0, y1⟩ | ⟨hn, hy⟩
        · have KA := Lib.hid (iat_ok _ a A' S.length R (L7.out.get (.head _)).ix.rp (L7.out.get (.head _)).ix.ok y j rest hp y0 y1)
          have HP := Lib.hid hp
          clear hp y0 y1
          refine (KA.out).mono ?_
          rintro e wc ⟨rfl, hb⟩
          have La := Lib.hid (L7.out.below hb)
          have KB := Lib.hid (refAt_any _ _ A1 c1 R y (La.out.see (.head _)) OK.out.ok (by have := OK.out.len; omega) fy)
          rw [← EM.out] at KB
          clear hb x1 x2 x3 x4 lx KA
          go_wp2_with fail
          refine (KB.out).mono ?_
          rintro e wd ⟨⟨j2, rest2, hp2, rfl⟩ | ⟨hn2, rfl⟩, rfl⟩
          · obtain ⟨e1, e2⟩ := place_one OK.out HP.out hp2
            subst e1
            subst e2
            clear hp2 HP KB
            go_wp2_with fail
            -- lives(), and the end; La holder
            refine (lives_yes _).mono ?_
            rintro e wz ⟨rfl, hb⟩
            have HB := Lib.hid ((La.out.below hb).bl)
            clear hb
            go_wp2_with fail
            go_ret
            exact ⟨rfl, HB.out⟩
          · exact absurd HP.out (hn2 j rest)
        · have KA := Lib.hid (iat_bad _ a A' S.length R (L7.out.get (.head _)).ix.rp (L7.out.get (.head _)).ix.ok y fy hy)
          have HN := Lib.hid hn
          clear hn hy
          refine (KA.out).mono ?_
          rintro e wc ⟨rfl, hb⟩
          have La := Lib.hid (L7.out.below hb)
          have KB := Lib.hid (refAt_any _ _ A1 c1 R y (La.out.see (.head _)) OK.out.ok (by have := OK.out.len; omega) fy)
          rw [← EM.out] at KB
          clear hb x1 x2 x3 x4 lx KA
          go_wp2_with fail
          refine (KB.out).mono ?_
          rintro e wd ⟨⟨j2, rest2, hp2, rfl⟩ | ⟨hn2, rfl⟩, rfl⟩
          · exact absurd hp2 (HN.out j2 rest2)
          · clear hn2 KB HN
            go_wp2_with fail
            -- lives(), and the end; La holder
            refine (lives_yes _).mono ?_
            rintro e wz ⟨rfl, hb⟩
            have HB := Lib.hid ((La.out.below hb).bl)
            clear hb
            go_wp2_with fail
            go_ret
            exact ⟨rfl, HB.out⟩
end Go.Proofs.Ytngbaiijdgmpoaa

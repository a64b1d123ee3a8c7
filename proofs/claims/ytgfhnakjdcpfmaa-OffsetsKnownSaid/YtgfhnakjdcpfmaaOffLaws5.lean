/-
  The walk of the law OffsetsRows of layer 10.
-/
import Derived.Test.YtgfhnakjdcpfmaaOffS
import Derived.Test.YtgfhnakjdcpfmaaOffE
import Derived.Test.YtgfhnakjdcpfmaaOffLaws2
import Derived.Test.YtgfhnakjdcpfmaaSz
import Derived.Test.YtgfhnakjdcpfmaaApp2
namespace Go.Proofs.Ytgfhnakjdcpfmaa
open Go.RowKit
set_option linter.unusedVariables false
set_option linter.unusedSimpArgs false

theorem chkSmall {l : Nat → Int} {n : Nat} (h : n ≤ 4096) : chk l n = chkTo l n := by unfold chk; rw [if_neg (by omega)]
/-- append(own, v) for a row. -/
theorem push_c (w : World) (B : Nat) {n c : Nat} {A : Option Addr} {F : Nat → Value} (h : Own w B 46 1 n c A F) (hB : B ≤ w.heap.size) (x y : Nat) (hm : n ≤ 100000) :
    ∃ A' c' w', (∀ ty, (Builtin.append_ #[42, 42] ty #[.slice A n c, .slice (some ⟨w.heap.size, 0, none⟩) 1 1]).run Try.prog (w.alloc (.cells #[.complex .f64 x y] 46)) = .ok (.slice A' (n + 1) c') w') ∧ Own w' B 46 1 (n + 1) c' A' (fun j => if j < n then F j else .complex .f64 x y) ∧
      Fr (fun b => A.map (·.block) = some b) w w' ∧ (A' = A ∨ ∃ g, A' = some ⟨g, 0, none⟩ ∧ w.heap.size ≤ g) ∧ (c ≤ maxLen → c' ≤ maxLen) :=
  own_push (P := Try.prog) w B Try.underlying42 Try.infoC rfl h hB _ rfl (by omega) (by omega)

/-- What the loop over the sizes has made. -/
structure Two (l : Nat → Int) (b : Int) (w1 wr : World) (k c8 c9 : Nat) (A8 A9 : Option Addr) : Prop where
  o8 : Own wr w1.heap.size 46 1 k c8 A8 (cxs l)
  o9 : Own wr w1.heap.size 46 1 k c9 A9 (fun j => .complex .f64 (F (satPlus (psum l j) b)) (F (l j)))
  ap : ∀ q, A8.map (·.block) = some q → A9.map (·.block) ≠ some q
  bl : Below w1.heap.size w1 wr
theorem Two.start (l : Nat → Int) (b : Int) (w1 : World) : Two l b w1 w1 0 0 0 none none := ⟨Own.nil _ _ _ _ _, Own.nil _ _ _ _ _, fun q h => (by cases h), Below.refl _ _⟩
/-- Between the two appends. -/
structure Mid (l : Nat → Int) (b : Int) (w1 wr : World) (k c8 c9 : Nat) (A8 A9 : Option Addr) : Prop where
  o8 : Own wr w1.heap.size 46 1 (k + 1) c8 A8 (cxs l)
  o9 : Own wr w1.heap.size 46 1 k c9 A9 (fun j => .complex .f64 (F (satPlus (psum l j) b)) (F (l j)))
  ap : ∀ q, A8.map (·.block) = some q → A9.map (·.block) ≠ some q
  bl : Below w1.heap.size w1 wr
theorem Two.one {l : Nat → Int} {b : Int} {w1 wr : World} {k c8 c9 : Nat} {A8 A9 : Option Addr} (h : Two l b w1 wr k c8 c9 A8 A9) (hk : k ≤ 100000) :
    ∃ A' c' w', (∀ ty, (Builtin.append_ #[42, 42] ty #[.slice A8 k c8, .slice (some ⟨wr.heap.size, 0, none⟩) 1 1]).run Try.prog (wr.alloc (.cells #[.complex .f64 (floatOfInt .f64 (psum l k)) (floatOfInt .f64 (l k))] 46)) = .ok (.slice A' (k + 1) c') w') ∧ Mid l b w1 w' k c' c9 A' A9 := by
  obtain ⟨A', c', w', run, O, f, a, _⟩ := push_c wr w1.heap.size h.o8 h.bl.size (floatOfInt .f64 (psum l k)) (floatOfInt .f64 (l k)) hk
  refine ⟨A', c', w', run, ⟨O.congr fun j hj => ?_, h.o9.fr f (fun q hq => fun e => h.ap q e hq), fun q hq e => ?_, h.bl.trans (f.below h.bl.size fun q hq => (h.o8.blk q hq).1)⟩⟩
  · by_cases c : j < k
    · rw [if_pos c]
    · rw [if_neg c, show j = k from by omega]; rfl
  · rcases a with rfl | ⟨g, rfl, hg⟩
    · exact h.ap q hq e
    · have := (h.o9.blk q e).2
      injection hq with hq
      have hq : g = q := hq
      omega
theorem Mid.below {l : Nat → Int} {b : Int} {w1 wr w2 : World} {k c8 c9 : Nat} {A8 A9 : Option Addr} (h : Mid l b w1 wr k c8 c9 A8 A9) (hb : Below wr.heap.size wr w2) : Mid l b w1 w2 k c8 c9 A8 A9 :=
  ⟨h.o8.below hb, h.o9.below hb, h.ap, h.bl.trans (hb.mono h.bl.size)⟩
theorem Mid.two {l : Nat → Int} {b : Int} {w1 wr : World} {k c8 c9 : Nat} {A8 A9 : Option Addr} (h : Mid l b w1 wr k c8 c9 A8 A9) (hk : k ≤ 100000) :
    ∃ A' c' w', (∀ ty, (Builtin.append_ #[42, 42] ty #[.slice A9 k c9, .slice (some ⟨wr.heap.size, 0, none⟩) 1 1]).run Try.prog (wr.alloc (.cells #[.complex .f64 (floatOfInt .f64 (satPlus (psum l k) b)) (floatOfInt .f64 (l k))] 46)) = .ok (.slice A' (k + 1) c') w') ∧ Two l b w1 w' (k + 1) c8 c' A8 A' := by
  obtain ⟨A', c', w', run, O, f, a, _⟩ := push_c wr w1.heap.size h.o9 h.bl.size (floatOfInt .f64 (satPlus (psum l k) b)) (floatOfInt .f64 (l k)) hk
  refine ⟨A', c', w', run, ⟨h.o8.fr f (fun q hq => h.ap q hq), O.congr fun j hj => ?_, fun q hq e => ?_, h.bl.trans (f.below h.bl.size fun q hq => (h.o9.blk q hq).1)⟩⟩
  · by_cases c : j < k
    · rw [if_pos c]
    · rw [if_neg c, show j = k from by omega]; rfl
  · rcases a with rfl | ⟨g, rfl, hg⟩
    · exact h.ap q hq e
    · have := (h.o8.blk q hq).2
      injection e with e
      have e : g = q := e
      omega

theorem fits_wrap (x : Int) : Fits (wrap64 x) := by unfold Fits wrap64; omega

set_option maxRecDepth 100000 in
set_option maxHeartbeats 12800000 in
theorem law_rows (A : Option Addr) (n c : Nat) (l : Nat → Int) (b : Int) (w : World) (hs : Sees w w.heap.size A n (i64s l)) (hf : ∀ k, Fits (l k)) (hnc : n ≤ c) (hc : c ≤ maxLen) (fb : Fits b) :
    Calls Try.prog 8 #[.slice A n c, .int .i64 b] w fun e w' => e = .returned (.bool true) ∧ Below w.heap.size w w' := by
  have HS := Lib.hid hs
  have HF := Lib.hid hf
  obtain ⟨fb1, fb2⟩ := fb
  clear hs hf hnc hc
  by_cases hbig : 60 < n
  · go_enter Try.func8, Try.ntmps8
    go_wp2_with fail
    refine (lives_yes _).mono ?_
    rintro e w2 ⟨rfl, hb2⟩
    have HB := Lib.hid hb2
    clear hb2
    go_wp2_with fail
    go_ret
    exact ⟨rfl, HB.out⟩
  have hn : n ≤ 60 := by omega
  by_cases hck : chk l n = 0
  case neg =>
    have hne : (chk l n != 0) = true := by rw [bne_iff_ne]; exact hck
    clear hck
    go_enter Try.func8, Try.ntmps8
    go_wp2_with fail
    refine (check_any A n c l w _ HS.out HF.out (by omega)).mono ?_
    rintro e w' ⟨rfl, rfl⟩
    go_wp2_with fail
    refine (lives_yes _).mono ?_
    rintro e w2 ⟨rfl, hb2⟩
    have HB := Lib.hid hb2
    clear hb2
    go_wp2_with fail
    go_ret
    exact ⟨rfl, HB.out⟩
  have HT : Hid (chkTo l n = 0) := by show _ = _; rw [← chkSmall (by omega)]; exact hck
  have HC := Lib.hid hck
  clear hck
  have HRow := Lib.hid (rows_any A n c l w HS.out HF.out (by omega))
  by_cases hbg : 9007199254740992 ≤ psum l n
  · have HE : Hid (rowsErr l n = 13) := by show _ = _; unfold rowsErr; rw [if_neg (by rw [HC.out]; decide), if_pos hbg]
    have HSu : Hid (∀ W, Below w.heap.size w W → Calls Try.prog 22 #[.slice A n c, .int .i64 n] W fun e w' => e = .returned (.int .i64 (psum l n)) ∧ W = w') := fun W hb => sum_any A n c n l n W rfl _ (HS.out.below hb) (Nat.le_refl n) (by omega) HT.out
    obtain ⟨t, ht⟩ : ∃ t, t = psum l n := ⟨_, rfl⟩
    rw [← ht] at HSu hbg
    clear ht
    go_enter Try.func8, Try.ntmps8
    go_wp2_with fail
    refine (check_any A n c l w _ HS.out HF.out (by omega)).mono ?_
    rintro e w' ⟨rfl, rfl⟩
    rw [HC.out]
    go_wp2_with fail
    refine (HRow.out).mono ?_
    rintro e w1 (⟨h0, _⟩ | ⟨h0, rfl, hb⟩)
    · rw [HE.out] at h0; exact absurd h0 (by decide)
    rw [HE.out]
    have D1 := Lib.hid hb
    clear h0 hb
    go_wp2_with fail
    refine (HSu.out _ D1.out).mono ?_
    rintro e w' ⟨rfl, rfl⟩
    go_wp2_with fail
    refine (rowsSame none none 0 0 13 (fun _ => 0) (fun _ => 0) _ Sees.nil Sees.nil (fun _ h => absurd h (by omega)) (fun _ h => absurd h (by omega)) (by omega)).mono ?_
    rintro e w2 ⟨rfl, hd⟩
    have D2 := Lib.hid (D1.out.trans (hd.below _))
    clear hd
    go_wp2_with fail
    refine (lives_yes _).mono ?_
    rintro e w3 ⟨rfl, hb⟩
    have D3 := Lib.hid (D2.out.trans (hb.mono D2.out.size))
    clear hb
    go_wp2_with fail
    go_ret
    exact ⟨rfl, D3.out⟩
  have HE : Hid (rowsErr l n = 0) := by show _ = _; unfold rowsErr; rw [if_neg (by rw [HC.out]; decide), if_neg hbg]
  have HSu : Hid (∀ (i : Nat) W, i ≤ n → Below w.heap.size w W → Calls Try.prog 22 #[.slice A n c, .int .i64 i] W fun e w' => e = .returned (.int .i64 (psum l i)) ∧ W = w') := fun i W hi hb => sum_any A n c i l i W rfl _ (HS.out.below hb) hi (by omega) (chkTo_zero l HT.out hi)
  have hbg2 : ¬ 9007199254740992 ≤ psum l n := hbg
  have HBG := Lib.hid hbg
  clear hbg
  go_enter Try.func8, Try.ntmps8
  go_wp2_with fail
  refine (check_any A n c l w _ HS.out HF.out (by omega)).mono ?_
  rintro e w' ⟨rfl, rfl⟩
  rw [HC.out]
  go_wp2_with fail
  refine (HRow.out).mono ?_
  rintro e w1 (⟨h0, A1, rfl, hs1, hb⟩ | ⟨h0, _⟩)
  case inr => exact absurd HE.out h0
  have S1 := Lib.hid hs1
  have D1 := Lib.hid hb
  clear h0 hb hs1 HRow HE
  go_wp2_with fail
  refine (HSu.out n _ (Nat.le_refl n) D1.out).mono ?_
  rintro e w' ⟨rfl, rfl⟩
  go_wp2_with fail
  clear hbg2
  have W1 := D1.out.size
  go_loopw [8, 9, 10, 11] (fun s8 s9 fl i wr => ∃ (k : Nat) (A8 A9 : Option Addr) (c8 c9 : Nat) (f : Bool), k ≤ n ∧ i = .int .i64 k ∧ s8 = .slice A8 k c8 ∧ s9 = .slice A9 k c9 ∧ fl = .bool f ∧ Hid (f = farTo (psum l) b k) ∧ Hid (Two l b w1 wr k c8 c9 A8 A9)) (fun _ _ _ i _ => n - (intOf i).toNat)
  case atStart => exact ⟨0, none, none, 0, 0, false, Nat.zero_le _, rfl, rfl, rfl, rfl, rfl, Two.start l b w1⟩
  case round =>
    obtain ⟨k, A8, A9, c8, c9, f, hk, rfl, rfl, rfl, rfl, hf, hT⟩ := hrel
    by_cases hlt : k < n
    · have DB := Lib.hid (D1.out.trans (hT.out.bl.mono W1))
      obtain ⟨A8', c8', wa, run1, hM⟩ := hT.out.one (by omega)
      have R1 := Lib.hid run1
      have HM := Lib.hid hM
      obtain ⟨bb, o, hAe, hbb, hc⟩ := (HS.out.below DB.out).at_ hlt
      subst hAe
      have hca := (hM.bl.cell (p := ⟨bb, o + k, none⟩) (by show bb < _; omega)).trans ((D1.out.cell (p := ⟨bb, o + k, none⟩) hbb).trans ((HS.out (by omega)).elim fun b' h => by
        obtain ⟨o', h1, h2, h3⟩ := h
        injection h1 with h1; injection h1 with h1 h4
        subst h1 h4
        exact h3 k hlt))
      rw [i64s_at] at hc hca
      obtain ⟨p1, p2⟩ := psum_bd l (chkTo_zero l HT.out (show k ≤ n from hk))
      obtain ⟨t1, t2⟩ := satPlus_bd (psum l k) b
      have HRP := Lib.hid (fun W => refPlus_any (psum l k) b W (by omega) (by omega) fb1 fb2)
      have HS1 := Lib.hid (HSu.out k wr hk DB.out)
      clear run1 hM hT
      go_wp2_with fail
      refine (HS1.out).mono ?_
      rintro e w' ⟨rfl, rfl⟩
      go_wp2_with (at_builtin; refine Hid.out ?_)
      refine Lib.hid (Lib.wpList_append_run _ rfl _ _ _ _ rfl _ _ rfl rfl _ _ (R1.out _) ?_)
      go_wp2_with fail
      refine (HRP.out wa).mono ?_
      rintro e wb ⟨rfl, hb⟩
      have HM2 := HM.out.below hb
      obtain ⟨A9', c9', wc, run2, hT⟩ := HM2.two (by omega)
      have R2 := Lib.hid run2
      have HT2 := Lib.hid hT
      have hcb := (hb.cell (p := ⟨bb, o + k, none⟩) (by have := HM.out.bl.size; show bb < _; omega)).trans hca
      have HFk : Hid (farTo (psum l) b (k + 1) = (f || outB (satPlus (psum l k) b))) := by show _ = _; rw [hf.out]; rfl
      obtain ⟨T, hTe⟩ : ∃ T, T = satPlus (psum l k) b := ⟨_, rfl⟩
      have key : ∃ f', Hid (f' = farTo (psum l) b (k + 1)) ∧ ((f = true ∧ f' = true) ∨ (f = false ∧ T < 0 ∧ f' = true) ∨ (f = false ∧ ¬ T < 0 ∧ 9007199254740992 ≤ T ∧ f' = true) ∨ (f = false ∧ ¬ T < 0 ∧ ¬ 9007199254740992 ≤ T ∧ f' = false)) := by
        refine ⟨_, rfl, ?_⟩
        rw [HFk.out, ← hTe]
        unfold outB
        cases f with
        | true => exact .inl ⟨rfl, rfl⟩
        | false =>
          right
          by_cases h1 : T < 0
          · exact .inl ⟨rfl, h1, by simp [h1]⟩
          · by_cases h2 : 9007199254740992 ≤ T
            · exact .inr (.inl ⟨rfl, h1, h2, by simp [h1, h2]⟩)
            · exact .inr (.inr ⟨rfl, h1, h2, by simp [h1]; omega⟩)
      obtain ⟨f', HF', hcase⟩ := key
      rw [← hTe] at R2 t1 t2 ⊢
      clear hb run2 hT hca hTe HFk HM2 HM hf R1 HRP HS1 hc
      have hki : (k : Int) < (n : Int) := by omega
      rcases hcase with ⟨rfl, rfl⟩ | ⟨rfl, h1, rfl⟩ | ⟨rfl, h1, h2, rfl⟩ | ⟨rfl, h1, h2, rfl⟩
      all_goals
        go_wp2_with (at_builtin; refine Hid.out ?_)
        refine Lib.hid (Lib.wpList_append_run _ rfl _ _ _ _ rfl _ _ rfl rfl _ _ (R2.out _) ?_)
        go_wp2_with fail
        go_roundw
        case rel => exact ⟨k + 1, A8', A9', c8', c9', _, by omega, by go_num, rfl, rfl, rfl, (by first | exact HF' | (show _ = _; rw [← HF'.out]; simp; omega)), HT2⟩
        case measure => simp [intOf]; omega
    · obtain rfl : k = n := by omega
      have V8 : Hid (Sees wr wr.heap.size A8 k (cxs l)) := by have := hT.out.o8.sees; rwa [Nat.mul_one] at this
      have V9 : Hid (Sees wr wr.heap.size A9 k (fun j => .complex .f64 (F (satPlus (psum l j) b)) (F (l j)))) := by have := hT.out.o9.sees; rwa [Nat.mul_one] at this
      have V1 : Hid (Sees wr wr.heap.size A1 k (cxs l)) := (S1.out.below hT.out.bl).more hT.out.bl.size
      have DW := Lib.hid (D1.out.trans (hT.out.bl.mono W1))
      have PX : Hid (∀ j, j < k → 0 ≤ psum l j ∧ psum l j < 9007199254740992) := fun j hj => by
        obtain ⟨q1, q2⟩ := psum_bd l (chkTo_zero l HT.out (show j ≤ k by omega))
        have := psum_mono l HT.out (show j ≤ k by omega)
        have := HBG.out
        omega
      have PY : Hid (∀ j, j < k → 0 ≤ l j ∧ l j < 9007199254740992) := fun j hj => by
        obtain ⟨q0, q1, q2, q3⟩ := chkTo_step l (chkTo_zero l HT.out (show j + 1 ≤ k from hj))
        have := psum_mono l HT.out (show j + 1 ≤ k by omega)
        rw [psum_succ] at this
        have := PX.out j hj
        have := HBG.out
        omega
      have NX : Hid (∀ j, j < k → (psum l j).natAbs < 9007199254740992) := fun j hj => by have := PX.out j hj; omega
      have NY : Hid (∀ j, j < k → (l j).natAbs < 9007199254740992) := fun j hj => by have := PY.out j hj; omega
      have HSl := Lib.hid (fun (w2 : World) (h : Sees w2 w2.heap.size A1 k (cxs l)) => slide_any A1 k k (psum l) l b w2 h PX.out PY.out ⟨fb1, fb2⟩ (by omega))
      clear hT S1 D1 W1
      go_wp2_with fail
      refine (rowsSame A1 A8 k c8 0 (psum l) l wr V1.out V8.out NX.out NY.out (by omega)).mono ?_
      rintro e w2 ⟨rfl, hd⟩
      have V1' := Lib.hid (V1.out.drawn hd)
      have V8' := Lib.hid (V8.out.drawn hd)
      have V9' := Lib.hid (V9.out.drawn hd)
      have D2 := Lib.hid (DW.out.trans (hd.below _))
      have Z2 : wr.heap.size ≤ w2.heap.size := by have := hd.size; omega
      clear hd V1 V8 V9 DW
      go_wp2_with fail
      refine (HSl.out w2 (V1'.out.more Z2)).mono ?_
      rintro e w3 (⟨hfar, A3, rfl, hs3, hb⟩ | ⟨hfar, rfl, hb⟩)
      · obtain rfl : f = false := by rw [hf.out]; exact hfar
        have HFar := Lib.hid hfar
        have S3 := Lib.hid hs3
        have D3 := Lib.hid (D2.out.trans (hb.mono D2.out.size))
        have W1' := Lib.hid ((V1'.out.more Z2).below hb)
        have W8 := Lib.hid ((V8'.out.more Z2).below hb)
        have W9 := Lib.hid ((V9'.out.more Z2).below hb)
        have Z3 := hb.size
        have OX : Hid (∀ j, j < k → 0 ≤ satPlus (psum l j) b ∧ satPlus (psum l j) b < 9007199254740992) := fun j hj => outB_false (farTo_mono hfar hj)
        have OE : Hid (∀ j, j < k → satPlus (psum l j) b = psum l j + b) := fun j hj => by
          have h1 := OX.out j hj
          have h2 := PX.out j hj
          unfold satPlus at h1 ⊢
          by_cases c1 : psum l j + b > 9223372036854775807
          · rw [if_pos c1] at h1; omega
          · rw [if_neg c1] at h1 ⊢
            by_cases c2 : psum l j + b < -9223372036854775808
            · rw [if_pos c2] at h1; omega
            · rw [if_neg c2]
        have OB : 0 < k → 0 ≤ b ∧ b < 9007199254740992 := fun h0 => by
          have h1 := OX.out 0 h0
          rw [OE.out 0 h0] at h1
          have h2 : psum l 0 = 0 := rfl
          omega
        have NO : Hid (∀ j, j < k → (satPlus (psum l j) b).natAbs < 9007199254740992) := fun j hj => by have := OX.out j hj; omega
        have HB2 : Hid (∀ b' (w4 : World), (0 < k → b' = -b) → Fits b' → Sees w4 w4.heap.size A3 k (fun j => .complex .f64 (F (satPlus (psum l j) b)) (F (l j))) → Calls Try.prog 26 #[.slice A3 k k, .int .i64 b'] w4 (RowsOk l k w4)) := fun b' w4 hb' fb' hs4 => by
          have hfb : farTo (fun j => satPlus (psum l j) b) b' k = false := farTo_of fun j hj => by
            have e1 := hb' (by omega)
            have e2 := OE.out j hj
            have e3 := PX.out j hj
            have e4 := OB (by omega)
            show outB (satPlus (satPlus (psum l j) b) b') = false
            rw [e2, e1]
            unfold outB satPlus
            rw [if_neg (by omega), if_neg (by omega), decide_eq_false_iff_not]
            omega
          refine (slide_any A3 k k (fun j => satPlus (psum l j) b) l b' w4 hs4 OX.out PY.out fb' (by omega)).mono ?_
          rintro e w5 (⟨_, A5, rfl, hs5, hb5⟩ | ⟨h, _⟩)
          · refine ⟨A5, rfl, hs5.congr fun j hj => ?_, hb5⟩
            have e1 := hb' (by omega)
            have e2 := OE.out j hj
            have e3 := PX.out j hj
            have e4 := OB (by omega)
            show Value.complex .f64 (F (satPlus (satPlus (psum l j) b) b')) _ = .complex .f64 (F (psum l j)) _
            have e5 : satPlus (satPlus (psum l j) b) b' = psum l j := by
              rw [e2, e1]
              unfold satPlus
              rw [if_neg (by omega), if_neg (by omega)]
              omega
            rw [e5]
          · rw [hfb] at h; cases h
        clear hs3 hb hfar hf V1' V8' V9' D2
        by_cases k0 : k = 0
        · subst k0
          go_wp2_with fail
          refine (rowsSame A3 A9 _ c9 0 (fun j => satPlus (psum l j) b) l w3 S3.out (W9.out.more Z3) NO.out NY.out (by omega)).mono ?_
          rintro e w4 ⟨rfl, hd⟩
          have S4 := Lib.hid (S3.out.drawn hd)
          have X1 := Lib.hid ((W1'.out.more Z3).drawn hd)
          have X8 := Lib.hid ((W8.out.more Z3).drawn hd)
          have D4 := Lib.hid (D3.out.trans (hd.below _))
          have Z4 := hd.size
          clear hd S3 W1' W8 W9 D3
          rw [← Z4] at X1 X8 S4
          clear Z4
          go_wp2_with fail
          refine (HB2.out _ w4 (fun h => absurd h (by omega)) (fits_wrap _) S4.out).mono ?_
          rintro e w5 ⟨A5, rfl, hs5, hb5⟩
          have Y1 := Lib.hid ((X1.out.below hb5).more hb5.size)
          have Y8 := Lib.hid ((X8.out.below hb5).more hb5.size)
          have Y5 := Lib.hid hs5
          have D5 := Lib.hid (D4.out.trans (hb5.mono D4.out.size))
          clear hs5 hb5 X1 X8 D4 S4 HB2
          go_wp2_with fail
          refine (rowsSame A5 A8 _ c8 0 (psum l) l w5 Y5.out Y8.out NX.out NY.out (by omega)).mono ?_
          rintro e w6 ⟨rfl, hd⟩
          have T1 := Lib.hid (Y1.out.drawn hd)
          have T8 := Lib.hid (Y8.out.drawn hd)
          have D6 := Lib.hid (D5.out.trans (hd.below _))
          have Z6 := hd.size
          rw [← Z6] at T1 T8
          clear hd Z6 Y1 Y8 Y5 D5
          go_wp2_with fail
          refine (rowsSame A1 A8 _ c8 0 (psum l) l w6 T1.out T8.out NX.out NY.out (by omega)).mono ?_
          rintro e w7 ⟨rfl, hd⟩
          have D7 := Lib.hid (D6.out.trans (hd.below _))
          clear hd D6
          go_wp2_with fail
          refine (lives_yes _).mono ?_
          rintro e w8 ⟨rfl, hb⟩
          have D8 := Lib.hid (D7.out.trans (hb.mono D7.out.size))
          clear hb
          go_wp2_with fail
          go_ret
          exact ⟨rfl, D8.out⟩
        · obtain ⟨b1, b2⟩ := OB (by omega)
          have hbe : (b == -9223372036854775808) = false := by rw [beq_eq_false_iff_ne]; omega
          clear OB
          go_wp2_with fail
          refine (rowsSame A3 A9 _ c9 0 (fun j => satPlus (psum l j) b) l w3 S3.out (W9.out.more Z3) NO.out NY.out (by omega)).mono ?_
          rintro e w4 ⟨rfl, hd⟩
          have S4 := Lib.hid (S3.out.drawn hd)
          have X1 := Lib.hid ((W1'.out.more Z3).drawn hd)
          have X8 := Lib.hid ((W8.out.more Z3).drawn hd)
          have D4 := Lib.hid (D3.out.trans (hd.below _))
          have Z4 := hd.size
          clear hd S3 W1' W8 W9 D3
          rw [← Z4] at X1 X8 S4
          clear Z4
          go_wp2_with fail
          refine (HB2.out _ w4 (fun _ => rfl) (by constructor <;> omega) S4.out).mono ?_
          rintro e w5 ⟨A5, rfl, hs5, hb5⟩
          have Y1 := Lib.hid ((X1.out.below hb5).more hb5.size)
          have Y8 := Lib.hid ((X8.out.below hb5).more hb5.size)
          have Y5 := Lib.hid hs5
          have D5 := Lib.hid (D4.out.trans (hb5.mono D4.out.size))
          clear hs5 hb5 X1 X8 D4 S4 HB2
          go_wp2_with fail
          refine (rowsSame A5 A8 _ c8 0 (psum l) l w5 Y5.out Y8.out NX.out NY.out (by omega)).mono ?_
          rintro e w6 ⟨rfl, hd⟩
          have T1 := Lib.hid (Y1.out.drawn hd)
          have T8 := Lib.hid (Y8.out.drawn hd)
          have D6 := Lib.hid (D5.out.trans (hd.below _))
          have Z6 := hd.size
          rw [← Z6] at T1 T8
          clear hd Z6 Y1 Y8 Y5 D5
          go_wp2_with fail
          refine (rowsSame A1 A8 _ c8 0 (psum l) l w6 T1.out T8.out NX.out NY.out (by omega)).mono ?_
          rintro e w7 ⟨rfl, hd⟩
          have D7 := Lib.hid (D6.out.trans (hd.below _))
          clear hd D6
          go_wp2_with fail
          refine (lives_yes _).mono ?_
          rintro e w8 ⟨rfl, hb⟩
          have D8 := Lib.hid (D7.out.trans (hb.mono D7.out.size))
          clear hb
          go_wp2_with fail
          go_ret
          exact ⟨rfl, D8.out⟩
      · obtain rfl : f = true := by rw [hf.out]; exact hfar
        have D3 := Lib.hid (D2.out.trans (hb.mono D2.out.size))
        clear hfar hb hf V1' V8' V9' D2
        go_wp2_with fail
        refine (rowsSame none none 0 0 13 (fun _ => 0) (fun _ => 0) _ Sees.nil Sees.nil (fun _ h => absurd h (by omega)) (fun _ h => absurd h (by omega)) (by omega)).mono ?_
        rintro e w4 ⟨rfl, hd⟩
        have D4 := Lib.hid (D3.out.trans (hd.below _))
        clear hd
        go_wp2_with fail
        refine (lives_yes _).mono ?_
        rintro e w5 ⟨rfl, hb⟩
        have D5 := Lib.hid (D4.out.trans (hb.mono D4.out.size))
        clear hb
        go_wp2_with fail
        go_ret
        exact ⟨rfl, D5.out⟩
end Go.Proofs.Ytgfhnakjdcpfmaa

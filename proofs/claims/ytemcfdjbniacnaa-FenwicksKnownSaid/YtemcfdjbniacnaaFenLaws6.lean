/-
  The walk of the law FenwicksKnown of layer 2.
-/
import Derived.Test.YtemcfdjbniacnaaFenLives
import Derived.Test.YtemcfdjbniacnaaFenH
namespace Go.Proofs.Ytemcfdjbniacnaa
open Go.RowKit
set_option linter.unusedVariables false
set_option linter.unusedSimpArgs false

/-- 0, 1, 2, 0, 1, 2 .. -/
def m3 : Nat → Int := fun j => ((j % 3 : Nat) : Int)
theorem m3_fits : ∀ k, Fits (m3 k) := fun k => by unfold m3; constructor <;> omega
theorem psum_m3 (k : Nat) : psum m3 (3 * k) = 3 * (k : Int) ∧ psum m3 (3 * k + 1) = 3 * (k : Int) ∧ psum m3 (3 * k + 2) = 3 * (k : Int) + 1 := by
  induction k with
  | zero => exact ⟨rfl, rfl, rfl⟩
  | succ k ih =>
    obtain ⟨h1, h2, h3⟩ := ih
    have e3 : psum m3 (3 * (k + 1)) = 3 * ((k + 1 : Nat) : Int) := by
      rw [show 3 * (k + 1) = (3 * k + 2) + 1 from by omega, psum_succ, h3]; unfold m3; omega
    have e4 : psum m3 (3 * (k + 1) + 1) = 3 * ((k + 1 : Nat) : Int) := by rw [psum_succ, e3]; unfold m3; omega
    exact ⟨e3, e4, by rw [show 3 * (k + 1) + 2 = (3 * (k + 1) + 1) + 1 from by omega, psum_succ, e4]; unfold m3; omega⟩
theorem psum_m3_le (k : Nat) : psum m3 k ≤ k := by
  obtain ⟨h1, h2, h3⟩ := psum_m3 (k / 3)
  rcases (show k = 3 * (k / 3) ∨ k = 3 * (k / 3) + 1 ∨ k = 3 * (k / 3) + 2 from by omega) with h | h | h <;> (rw [h]; first | rw [h1] | rw [h2] | rw [h3]) <;> omega
theorem m3_bd (k : Nat) : 0 ≤ m3 k ∧ m3 k ≤ 2 := by unfold m3; omega
theorem chk_m3 (k : Nat) (hk : k ≤ 5000) : chkTo m3 k = 0 := by
  induction k with
  | zero => rfl
  | succ k ih =>
    have := psum_m3_le k
    obtain ⟨h1, h2⟩ := m3_bd k
    exact chkTo_0 _ (ih (by omega)) h1 (by omega) (by omega)
def hi3 : Nat → Int := fun j => ([2305843009213693952, 0, 2305843009213693952] : List Int).getD j 0
theorem hi3_fits : ∀ k, Fits (hi3 k) := fun k => by
  unfold hi3
  match k with
  | 0 => exact ⟨by decide, by decide⟩
  | 1 => exact ⟨by decide, by decide⟩
  | 2 => exact ⟨by decide, by decide⟩
  | k + 3 => exact ⟨by show (_ : Int) ≤ 0; decide, by show (0 : Int) ≤ _; decide⟩

theorem find_m3 (w : World) (B p : Nat) (h : Fen w B p 4096 m3) (x : Nat) (hx : x < 4095) (i r : Int) (hi : (x % 3 = 0 ∧ i = (x : Int) / 3 * 3 + 1 ∧ r = (x : Int) % 3) ∨ (0 < x % 3 ∧ i = (x : Int) / 3 * 3 + 1 + 1 ∧ r = (x : Int) % 3 - 1)) :
    Calls Try.prog 13 #[.pointer (some ⟨p, 0, none⟩), .int .i64 x] w fun e w' => e = .returned (.tuple #[.int .i64 i, .int .i64 r, .int .i64 0]) ∧ Drawn w w' := by
  obtain ⟨h1, h2, h3⟩ := psum_m3 (x / 3)
  obtain ⟨h4, h5, h6⟩ := psum_m3 (x / 3 + 1)
  rcases hi with ⟨c, rfl, rfl⟩ | ⟨c, rfl, rfl⟩
  · have := fFind_ok w B p 4096 m3 h x (by omega) (3 * (x / 3) + 1) (by omega) (by rw [h2]; omega) (by rw [h3]; omega)
    rw [h2] at this
    rw [show (x : Int) / 3 * 3 + 1 = ((3 * (x / 3) + 1 : Nat) : Int) from by omega, show (x : Int) % 3 = (x : Int) - 3 * ((x / 3 : Nat) : Int) from by omega]
    exact this
  · have := fFind_ok w B p 4096 m3 h x (by omega) (3 * (x / 3) + 2) (by omega) (by rw [h3]; omega) (by rw [show 3 * (x / 3) + 2 + 1 = 3 * (x / 3 + 1) from by omega, h4]; omega)
    rw [h3] at this
    rw [show (x : Int) / 3 * 3 + 1 + 1 = ((3 * (x / 3) + 2 : Nat) : Int) from by omega, show (x : Int) % 3 - 1 = (x : Int) - (3 * ((x / 3 : Nat) : Int) + 1) from by omega]
    exact this

set_option maxRecDepth 100000 in
set_option maxHeartbeats 12800000 in
theorem law_known2 (w : World) :
    Calls Try.prog 4 #[] w fun e w' => e = .returned (.bool true) ∧ Below w.heap.size w w' := by
  have hmk := make_i64 4097 4097 (by omega) (by omega) w
  go_enter Try.func4, Try.ntmps4
  go_wp2_with fail
  clear hmk
  have hst : Hid ((w.alloc (.cells (madeCells #[.int .i64 0] 4097) 2)).rowIs w.heap.size 2 4097 (fun j => .int .i64 (if j < 0 then m3 j else 0))) := World.rowIs_made w _ 4097 _
  have hbl : Hid (Below w.heap.size w (w.alloc (.cells (madeCells #[.int .i64 0] 4097) 2))) := (Below.refl _ w).alloc (Nat.le_refl _) _
  go_loopw [2] (fun i wr => ∃ k : Nat, k ≤ 4097 ∧ i = .int .i64 k ∧ Hid (wr.rowIs w.heap.size 2 4097 (fun j => .int .i64 (if j < k then m3 j else 0))) ∧ Hid (Below w.heap.size w wr)) (fun i _ => 4097 - (intOf i).toNat)
  case atStart => exact ⟨0, Nat.zero_le _, rfl, hst, hbl⟩
  case round =>
    obtain ⟨k, hk, rfl, hR, hB⟩ := hrel
    clear hst hbl
    by_cases hlt : k < 4097
    · have hc := hR.out.cell (i := k) hlt
      rw [if_neg (Nat.lt_irrefl k)] at hc
      have hf := hR.out.frozen k
      have hki : (k : Int) < 4097 := by omega
      have hmod : (k : Int) % 3 = m3 k := by unfold m3; omega
      go_wp2_with fail
      go_roundw
      case rel =>
        refine ⟨k + 1, by omega, by go_num, (hR.out.set k _).congr fun j hj => ?_, ?_⟩
        · show (if j = k then _ else _) = _
          by_cases c : j = k
          · subst c; rw [if_pos rfl, if_pos (by omega)]
          · rw [if_neg c]
            by_cases d : j < k
            · rw [if_pos d, if_pos (by omega)]
            · rw [if_neg d, if_neg (by omega)]
        · exact hB.out.setCell (p := ⟨w.heap.size, k, none⟩) (Nat.le_refl _) _
      case measure => simp [intOf]; omega
    obtain rfl : k = 4097 := by omega
    have S : Hid (Sees wr wr.heap.size (some ⟨w.heap.size, 0, none⟩) 4097 (i64s m3)) := by
      intro _
      refine ⟨w.heap.size, 0, rfl, hR.out.lt, fun j hj => ?_⟩
      have := hR.out.cell (i := j) hj
      rw [if_pos (by omega)] at this
      rw [Nat.zero_add, this]; rfl
    have S' : Hid (Sees wr wr.heap.size (some ⟨w.heap.size, 0, none⟩) 4096 (i64s m3)) := by
      intro _
      obtain ⟨b, o, h1, h2, h3⟩ := S.out (by omega)
      exact ⟨b, o, h1, h2, fun j hj => h3 j (by omega)⟩
    clear hR hk hlt
    go_wp2_with fail
    refine (fnew_ok _ 4096 _ m3 wr S'.out m3_fits (by have := chk_m3 4096 (by omega); unfold chk; rw [if_neg (by omega)]; exact this)).mono ?_
    rintro e w1 ⟨p, rfl, hF, hb⟩
    have S1 := Lib.hid (S.out.below hb)
    have F1 := Lib.hid hF
    have D1 := Lib.hid (hB.out.trans (hb.mono hB.out.size))
    clear S S' hF hb hB
    go_wp2_with fail
    refine (fnew_bad _ 4097 _ m3 w1 _ S1.out m3_fits (by omega) (by unfold chk; rw [if_pos (by omega)]; decide)).mono ?_
    rintro e w' ⟨rfl, rfl⟩
    rw [show chk m3 4097 = 3 from if_pos (by omega)]
    go_wp2_with fail
    refine (ftotal_any w1 _ p 4096 m3 F1.out).mono ?_
    rintro e w' ⟨rfl, rfl⟩
    rw [show psum m3 4096 = 4095 from by have := (psum_m3 1365).2.1; rw [show 4096 = 3 * 1365 + 1 from by omega, this]; omega]
    go_wp2_with fail
    go_loopw [7] (fun i wr => ∃ x : Nat, x ≤ 4095 ∧ Hid (x % 13 = 0) ∧ i = .int .i64 x ∧ Hid (Drawn w1 wr)) (fun i _ => 4095 - (intOf i).toNat)
    case atStart => exact ⟨0, Nat.zero_le _, rfl, rfl, Drawn.refl _⟩
    case round =>
      obtain ⟨x, hx, hm, rfl, hD⟩ := hrel
      by_cases hlt : x < 4095
      · have hki : (x : Int) < 4095 := by omega
        by_cases c : x % 3 = 0
        · have HC := Lib.hid (find_m3 _ _ p (F1.out.drawn hD.out) x hlt _ _ (.inl ⟨c, rfl, rfl⟩))
          have hle : ¬ 0 < (x : Int) % 3 := by omega
          clear c
          go_wp2_with fail
          refine (HC.out).mono ?_
          rintro e w2 ⟨rfl, hd⟩
          have HD2 := Lib.hid (hD.out.trans hd)
          clear hd HC hD
          go_wp2_with fail
          go_roundw
          case rel => exact ⟨x + 13, (by have := hm.out; omega), (by show _ = _; have := hm.out; omega), by go_num, HD2⟩
          case measure => simp [intOf]; omega
        · have HC := Lib.hid (find_m3 _ _ p (F1.out.drawn hD.out) x hlt _ _ (.inr ⟨by omega, rfl, rfl⟩))
          have hle : 0 < (x : Int) % 3 := by omega
          clear c
          go_wp2_with fail
          refine (HC.out).mono ?_
          rintro e w2 ⟨rfl, hd⟩
          have HD2 := Lib.hid (hD.out.trans hd)
          clear hd HC hD
          go_wp2_with fail
          go_roundw
          case rel => exact ⟨x + 13, (by have := hm.out; omega), (by show _ = _; have := hm.out; omega), by go_num, HD2⟩
          case measure => simp [intOf]; omega
      obtain rfl : x = 4095 := by omega
      have D2 := Lib.hid (D1.out.trans (hD.out.below _))
      clear F1 S1 hD hm hx hlt D1
      go_wp2_with fail
      have DA := Lib.hid (D2.out.alloc D2.out.size (.cells #[.int .i64 2305843009213693952, .int .i64 0, .int .i64 2305843009213693952] 2))
      refine (fnew_ok _ 3 3 hi3 _ (Sees.lit wr _ _ _ 3 rfl (lit_list [2305843009213693952, 0, 2305843009213693952] 3 _ rfl rfl)) hi3_fits (by decide)).mono ?_
      rintro e w4 ⟨pu, rfl, ⟨gs, gt, hG, b1, b2, b3⟩, hb⟩
      have GE : Hid (∀ b, S3 pu gs gt b → w.heap.size ≤ b) := by
        have := D2.out.size
        rw [size_alloc'] at b1 b2 b3
        rintro b (rfl | rfl | rfl) <;> omega
      have G4 := Lib.hid hG
      have D4 := Lib.hid (DA.out.trans (hb.mono DA.out.size))
      clear hG b1 b2 b3 hb DA D2
      go_wp2_with fail
      have HFi := Lib.hid (fFind_ok w4 0 pu 3 hi3 G4.out.fen 4611686018427387903 (by omega) 2 (by omega) (by decide) (by decide))
      rw [show (4611686018427387903 : Int) - psum hi3 2 = 2305843009213693951 from by decide] at HFi
      refine (HFi.out).mono ?_
      rintro e w5 ⟨rfl, hd⟩
      have G5 := Lib.hid (G4.out.drawn hd)
      have D5 := Lib.hid (D4.out.trans (hd.below _))
      clear hd G4 D4 HFi
      go_wp2_with fail
      have CS6 := Lib.hid (fSet_any w5 pu gs gt 3 hi3 G5.out 1 1)
      rw [show setErr hi3 3 1 1 = 13 from by decide] at CS6
      refine (CS6.out).mono ?_
      rintro e w6 ⟨rfl, hg, hf⟩
      have G6 := Lib.hid hg
      have D6 := Lib.hid (D5.out.trans (hf.below D5.out.size GE.out))
      clear hg hf G5 D5 CS6
      go_wp2_with fail
      have E6 : Hid (FG w6 pu gs gt 3 hi3) := by
        have := G6.out
        unfold setTo at this
        rw [if_neg (by decide)] at this
        exact this
      clear G6
      have CS7 := Lib.hid (fSet_any w6 pu gs gt 3 hi3 E6.out 0 2305843009213693951)
      rw [show setErr hi3 3 0 2305843009213693951 = 0 from by decide] at CS7
      refine (CS7.out).mono ?_
      rintro e w7 ⟨rfl, hg, hf⟩
      have G7 := Lib.hid hg
      have D7 := Lib.hid (D6.out.trans (hf.below D6.out.size GE.out))
      clear hg hf E6 D6 CS7
      go_wp2_with fail
      have CS8 := Lib.hid (fSet_any w7 pu gs gt 3 (setTo hi3 3 0 2305843009213693951) G7.out 1 1)
      rw [show setErr (setTo hi3 3 0 2305843009213693951) 3 1 1 = 0 from by decide] at CS8
      refine (CS8.out).mono ?_
      rintro e w8 ⟨rfl, hg, hf⟩
      have G8 := Lib.hid hg
      have D8 := Lib.hid (D7.out.trans (hf.below D7.out.size GE.out))
      clear hg hf G7 D7 CS8
      go_wp2_with fail
      have CS9 := Lib.hid (fSet_any w8 pu gs gt 3 (setTo (setTo hi3 3 0 2305843009213693951) 3 1 1) G8.out 2 2305843009213693953)
      rw [show setErr (setTo (setTo hi3 3 0 2305843009213693951) 3 1 1) 3 2 2305843009213693953 = 12 from by decide] at CS9
      refine (CS9.out).mono ?_
      rintro e w9 ⟨rfl, hg, hf⟩
      have G9 := Lib.hid hg
      have D9 := Lib.hid (D8.out.trans (hf.below D8.out.size GE.out))
      clear hg hf G8 D8 CS9
      go_wp2_with fail
      refine (fnew_ok none 0 0 (fun _ => 0) w9 Sees.nil (fun _ => ⟨by decide, by decide⟩) (by decide)).mono ?_
      rintro e w10 ⟨pn, rfl, hN, hb⟩
      have N10 := Lib.hid hN
      have D10 := Lib.hid (D9.out.trans (hb.mono D9.out.size))
      clear hN hb G9 D9 GE
      go_wp2_with fail
      refine (fSum_ok w10 _ pn 0 _ N10.out 0 (Nat.le_refl 0)).mono ?_
      rintro e w' ⟨rfl, rfl⟩
      go_wp2_with fail
      refine (fFind_bad w10 _ pn 0 _ N10.out 0 (.inr (by decide))).mono ?_
      rintro e w' ⟨rfl, rfl⟩
      go_wp2_with fail
      refine (flen_any w10 _ pn 0 _ N10.out).mono ?_
      rintro e w' ⟨rfl, rfl⟩
      go_wp2_with fail
      refine (lives2_yes _).mono ?_
      rintro e wz ⟨rfl, hb⟩
      have DZ := Lib.hid (D10.out.trans (hb.mono D10.out.size))
      clear hb
      go_wp2_with fail
      go_ret
      exact ⟨rfl, DZ.out⟩
end Go.Proofs.Ytemcfdjbniacnaa

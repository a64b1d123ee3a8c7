/-
  The walk of the law GapsOwn of layer 3.
-/
import Derived.Test.YtiipogenknnilaaGapBack
import Derived.Test.YtiipogenknnilaaApp
import Derived.Lib.AppendZeros
import Derived.OwnWalk
namespace Go.Proofs.Ytiipogenknnilaa
open Go.RowKit
set_option linter.unusedVariables false

theorem app_int (w : World) (B : Nat) {n c : Nat} {A : Option Addr} {F : Nat → Int} (h : Own w B 3 1 n c A (i64s F)) (hB : B ≤ w.heap.size)
    {A2 : Option Addr} {k c2 B2 : Nat} {f : Nat → Int} (hs : Sees w B2 A2 k (i64s f)) (hm : n + k ≤ 1000000000) :
    ∃ A' c' w', (∀ ty, (Builtin.append_ #[22, 22] ty #[.slice A n c, .slice A2 k c2]).run Try.prog w = .ok (.slice A' (n + k) c') w') ∧ Own w' B 3 1 (n + k) c' A' (i64s fun j => if j < n then F j else f (j - n)) ∧ Below B w w' := by
  obtain ⟨A', c', w', h1, h2, h3, _⟩ := own_append' (P := Try.prog) w B (by_ := 8) (z := .int .i64 0) Try.underlying22 (by kernel_rfl : (Try.prog.info? 3).map (fun i => (i.zero, i.size, i.bytes)) = some (some (.int .i64 0), 1, 8)) rfl (by omega) Try.underlying22 h hB (c2 := c2) (f := i64s f) (by rw [Nat.mul_one]; exact hs) (fun _ => rfl) hm (by omega)
  refine ⟨A', c', w', h1, h2.congr fun j _ => ?_, h3⟩
  rw [Nat.mul_one]
  show (if j < n then _ else _) = Value.int .i64 (if j < n then F j else f (j - n))
  split <;> rfl

theorem own_blk {w : World} {B n c : Nat} {e : TypeId} {sz : Nat} {A : Option Addr} {F : Nat → Value} (h : Own w B e sz n c A F) : ∀ k, A.map (·.block) = some k → B ≤ k ∧ k < w.heap.size := by
  intro k hk
  rcases h with ⟨rfl, _⟩ | ⟨h, g, F', rfl, hg, hr, hF⟩
  · cases hk
  · injection hk with hk
    have : g = k := hk
    subst this
    exact ⟨hg, hr.lt⟩

/-- What a loop over a slice of the call's own may do. -/
structure Over (w wr : World) (n : Nat) (A : Option Addr) : Prop where
  grown : w.grownBy wr (A.map (·.block))
  some' : 0 < n → ∃ g, A = some ⟨g, 0, none⟩ ∧ (∀ j, j < n → ∃ x, wr.cell? ⟨g, j, none⟩ = some (.int .i64 x)) ∧ ∀ j, wr.frozen? ⟨g, j, none⟩ = false
theorem Over.start {w : World} {B n c : Nat} {A : Option Addr} {F : Nat → Int} (h : Own w B 3 1 n c A (i64s F)) : Over w w n A :=
  ⟨⟨rfl, rfl, rfl, Nat.le_refl _, fun _ _ _ => rfl⟩, fun hn => by
    obtain ⟨g, h1, h2, h3, h4, h5⟩ := h.at_ hn
    exact ⟨g, h1, fun j hj => ⟨_, h4 j (by omega)⟩, h5⟩⟩
theorem Over.set {w wr : World} {n g i : Nat} {x : Int} (h : Over w wr n (some ⟨g, 0, none⟩)) (hi : i < n) : Over w (wr.setCell ⟨g, i, none⟩ (.int .i64 x)) n (some ⟨g, 0, none⟩) := by
  refine ⟨⟨h.grown.os, h.grown.tape, h.grown.output, by simpa [World.setCell] using h.grown.size, fun b hb hne => (Below.heap_setCell wr ⟨g, i, none⟩ _ b (fun e => hne (by rw [e]; rfl))).trans (h.grown.block b hb hne)⟩, fun hn => ?_⟩
  obtain ⟨g', h1, h4, h5⟩ := h.some' hn
  injection h1 with h1; injection h1 with h1
  subst h1
  refine ⟨g, rfl, fun j hj => ?_, fun j => ?_⟩
  · by_cases c : j = i
    · subst c
      obtain ⟨y, hy⟩ := h4 j hj
      exact ⟨x, World.cell?_setCell_same _ _ _ hy⟩
    · obtain ⟨y, hy⟩ := h4 j hj
      exact ⟨y, by rw [World.cell?_setCell_other _ _ _ _ (fun e => c (by injection e with _ e _; exact e.symm))]; exact hy⟩
  · rw [World.frozen?_setCell]; exact h5 j
theorem Over.drewN {w wr : World} {n : Nat} {A : Option Addr} (h : Over w wr n A) (k : Nat) : Over w (wr.drewN k) n A := ⟨⟨h.grown.os, h.grown.tape, h.grown.output, h.grown.size, h.grown.block⟩, h.some'⟩
/-- Below a block that is none of it. -/
theorem Over.below {w wr : World} {B n : Nat} {A : Option Addr} (h : Over w wr n A) (hA : ∀ k, A.map (·.block) = some k → B ≤ k) (hB : B ≤ w.heap.size) : Below B w wr :=
  ⟨h.grown.os, h.grown.tape, h.grown.output, h.grown.size, fun b hb => h.grown.block b (by omega) (fun e => by have := hA b e.symm; omega)⟩
/-- Above it. -/
theorem Over.buf {w wr : World} {B n p m a : Nat} {A : Option Addr} {l : Nat → Int} (h : Over w wr n A) (hA : ∀ k, A.map (·.block) = some k → k < B) (hb : GapI.Buf w B p m a l) : GapI.Buf wr B p m a l :=
  hb.keep fun b h1 h2 => h.grown.block b h2 (fun e => by have := hA b e.symm; omega)

set_option maxRecDepth 100000 in
set_option maxHeartbeats 6400000 in
theorem law_own (A : Option Addr) (n c : Nat) (l : Nat → Int) (A2 : Option Addr) (n2 c2 : Nat) (l2 : Nat → Int) (w : World)
    (hs : Sees w w.heap.size A n (i64s l)) (hf : ∀ k, Fits (l k)) (hnc : n ≤ c) (hc : c ≤ maxLen) (hs2 : Sees w w.heap.size A2 n2 (i64s l2)) (hf2 : ∀ k, Fits (l2 k)) (hnc2 : n2 ≤ c2) (hc2 : c2 ≤ maxLen) :
    Calls Try.prog 4 #[.slice A n c, .slice A2 n2 c2] w fun e w' => e = .returned (.bool true) ∧ Below w.heap.size w w' := by
  clear hf hf2 hnc hc hnc2 hc2
  have HS := Lib.hid hs
  have HS2 := Lib.hid hs2
  clear hs hs2
  by_cases hbig : 40 < n
  · go_enter Try.func4, Try.ntmps4
    go_wp2_with fail
    refine (lives3_yes _).mono ?_
    rintro e w2 ⟨rfl, hb2⟩
    have HB := Lib.hid hb2
    clear hb2
    go_wp2_with fail
    go_ret
    exact ⟨rfl, HB.out⟩
  by_cases hbig2 : 20 < n2
  · go_enter Try.func4, Try.ntmps4
    go_wp2_with fail
    refine (lives3_yes _).mono ?_
    rintro e w2 ⟨rfl, hb2⟩
    have HB := Lib.hid hb2
    clear hb2
    go_wp2_with fail
    go_ret
    exact ⟨rfl, HB.out⟩
  have hn : n ≤ 40 := by omega
  have hn2 : n2 ≤ 20 := by omega
  have L0 : Below w.heap.size w (w.alloc (.cells #[] 3)) := (Below.refl _ w).alloc (Nat.le_refl _) _
  obtain ⟨Ax, cx, w1, run1, O1, b1⟩ := app_int (w.alloc (.cells #[] 3)) w.heap.size (Own.lit0 w 3 1 (i64s l)) (by simp) (c2 := c) (HS.out.below L0) (by omega)
  rw [Nat.zero_add] at run1 O1
  have D1 := Lib.hid (L0.trans b1)
  have OX := Lib.hid (O1.congr (G := i64s l) fun j _ => by show Value.int .i64 (if j < 0 then _ else _) = _; rw [if_neg (by omega)]; rfl)
  have L1 : Below w.heap.size w (w1.alloc (.cells #[] 3)) := D1.out.alloc D1.out.size _
  obtain ⟨Ay, cy, w2, run2, O2, b2⟩ := app_int (w1.alloc (.cells #[] 3)) w1.heap.size (Own.lit0 w1 3 1 (i64s l2)) (by simp) (c2 := c2) (HS2.out.below L1) (by omega)
  rw [Nat.zero_add] at run2 O2
  have E2 := Lib.hid (((Below.refl _ w1).alloc (Nat.le_refl _) (.cells #[] 3)).trans b2)
  have D2 := Lib.hid (D1.out.trans (E2.out.mono D1.out.size))
  have OY := Lib.hid (O2.congr (G := i64s l2) fun j _ => by show Value.int .i64 (if j < 0 then _ else _) = _; rw [if_neg (by omega)]; rfl)
  have OX2 := Lib.hid (OX.out.below E2.out)
  have PX := own_blk OX.out
  have PY := own_blk OY.out
  have S1 := D1.out.size
  have S12 := E2.out.size
  have R1 := Lib.hid run1
  have R2 := Lib.hid run2
  clear run1 run2 O1 O2 b1 b2 L0 L1 OX E2 D1
  go_enter Try.func4, Try.ntmps4
  go_wp2_with (at_builtin; refine Hid.out ?_)
  refine Lib.hid (Lib.wpList_append_run _ rfl _ _ _ _ rfl _ _ rfl rfl _ _ (R1.out _) ?_)
  go_wp2_with (at_builtin; refine Hid.out ?_)
  refine Lib.hid (Lib.wpList_append_run _ rfl _ _ _ _ rfl _ _ rfl rfl _ _ (R2.out _) ?_)
  go_wp2_with fail
  refine (GapI.new_ok w2 n cx Ax l (by have := OX2.out.sees; rwa [Nat.mul_one] at this) (by omega)).mono ?_
  rintro e w3 ⟨p, rfl, hB, hb⟩
  have B3 := Lib.hid hB
  have D3 := Lib.hid hb
  clear hB hb R1 R2
  go_wp2_with fail
  refine (GapI.len_any w3 _ p _ _ _ B3.out).mono ?_
  rintro e w4 ⟨rfl, hd⟩
  have B4 := Lib.hid (B3.out.drawn hd)
  have D4 := Lib.hid (D3.out.trans (hd.below _))
  clear hd B3 D3
  go_wp2_with fail
  refine (GapI.insert_any w4 _ p _ _ _ B4.out D4.out.size n n2 _ rfl (by omega) (by omega) Ay cy l2 (by have := OY.out.sees; rw [Nat.mul_one] at this; exact this.below D4.out)).mono ?_
  rintro e w5 ⟨rfl, ⟨a5, hB⟩, hb⟩
  have B5 := Lib.hid hB
  have D5 := Lib.hid (D4.out.trans hb)
  clear hB hb B4 D4
  go_wp2_with fail
  refine (GapI.len_any w5 _ p _ _ _ B5.out).mono ?_
  rintro e w6 ⟨rfl, hd⟩
  have B6 := Lib.hid (B5.out.drawn hd)
  have D6 := Lib.hid (D5.out.trans (hd.below _))
  clear hd B5 D5
  go_wp2_with fail
  refine (GapI.list_any w6 _ p _ _ _ B6.out).mono ?_
  rintro e w7 ⟨A7, rfl, hr, hb, hz⟩
  have OG : Hid (Own w7 w6.heap.size 3 1 (n + n2) (n + n2) A7 (i64s (GapI.ins l n n2 l2))) := by
    by_cases h0 : n + n2 = 0
    · rw [hz h0, h0]; exact Own.nil _ _ _ _ _
    · obtain ⟨g, rfl, hg, hrow⟩ := hr (by omega)
      exact Own.row hrow (by omega) hg
  have E7 := Lib.hid hb
  have S6 := D6.out.size
  have D7 := Lib.hid (D6.out.trans (hb.mono S6))
  clear hr hb hz
  go_wp2_with fail
  go_loopw [11] (fun i wr => ∃ k : Nat, k ≤ n + n2 ∧ i = .int .i64 k ∧ Hid (Over w7 wr (n + n2) A7)) (fun i _ => n + n2 - (intOf i).toNat)
  case atStart => exact ⟨0, Nat.zero_le _, rfl, Over.start OG.out⟩
  case round =>
    obtain ⟨j, hj, rfl, hO⟩ := hrel
    by_cases hlt : j < n + n2
    · obtain ⟨g, rfl, hc, hfz⟩ := hO.out.some' (by omega)
      obtain ⟨x, hx⟩ := hc j hlt
      have hfj := hfz j
      clear hc hfz
      go_wp2_with fail
      go_roundw
      case rel => exact ⟨j + 1, by omega, by go_num, hO.out.set hlt⟩
      case measure => simp [intOf]; omega
    obtain rfl : j = n + n2 := by omega
    have S7 := E7.out.size
    have hb8 : Below w6.heap.size w7 wr := hO.out.below (fun k hk => (own_blk OG.out k hk).1) S7
    have B8 := Lib.hid (B6.out.below (E7.out.trans hb8))
    have D8 := Lib.hid (D6.out.trans ((E7.out.trans hb8).mono S6))
    have OX8 := Lib.hid (OX2.out.below D8.out)
    have OY8 := Lib.hid (OY.out.below D8.out)
    have S8 := D8.out.size
    have S2 := D2.out.size
    have C8 := Lib.hid (D2.out.trans (D8.out.mono S2))
    clear B6 D6 E7 hb8 S6 S7 OG D7 hj hO OX2 OY D8 D2
    obtain ⟨w8, e8⟩ : ∃ w8, w8 = wr := ⟨wr, rfl⟩
    subst e8
    go_wp2_with fail
    go_loopw [12] (fun i wr => ∃ k : Nat, k ≤ n ∧ i = .int .i64 k ∧ Hid (Over w8 wr n Ax)) (fun i _ => n - (intOf i).toNat)
    case atStart => exact ⟨0, Nat.zero_le _, rfl, Over.start OX8.out⟩
    case round =>
      obtain ⟨j, hj, rfl, hO⟩ := hrel
      by_cases hlt : j < n
      · obtain ⟨g, rfl, hc, hfz⟩ := hO.out.some' (by omega)
        obtain ⟨x, hx⟩ := hc j hlt
        have hfj := hfz j
        clear hc hfz
        go_wp2_with fail
        go_roundw
        case rel => exact ⟨j + 1, by omega, by go_num, hO.out.set hlt⟩
        case measure => simp [intOf]; omega
      obtain rfl : j = n := by omega
      have B9 := Lib.hid (hO.out.buf (fun k hk => by have := (PX k hk).2; omega) B8.out)
      have C9 := Lib.hid (C8.out.trans (hO.out.below (fun k hk => (PX k hk).1) C8.out.size))
      have OY9 := Lib.hid (OY8.out.keep fun b h1 h2 => hO.out.grown.block b h2 fun e => by have := (PX b e.symm).2; omega)
      clear B8 C8 OY8 OX8 hO PX
      obtain ⟨w9, e9⟩ : ∃ w9, w9 = wr := ⟨wr, rfl⟩
      subst e9
      go_wp2_with fail
      go_loopw [13] (fun i wr => ∃ k : Nat, k ≤ n2 ∧ i = .int .i64 k ∧ Hid (Over w9 wr n2 Ay)) (fun i _ => n2 - (intOf i).toNat)
      case atStart => exact ⟨0, Nat.zero_le _, rfl, Over.start OY9.out⟩
      case round =>
        obtain ⟨i, hi, rfl, hO⟩ := hrel
        by_cases hlt : i < n2
        · obtain ⟨g, rfl, hc, hfz⟩ := hO.out.some' (by omega)
          obtain ⟨x, hx⟩ := hc i hlt
          have hfj := hfz i
          clear hc hfz
          go_wp2_with fail
          go_roundw
          case rel => exact ⟨i + 1, by omega, by go_num, hO.out.set hlt⟩
          case measure => simp [intOf]; omega
        obtain rfl : i = n2 := by omega
        have B10 := Lib.hid (hO.out.buf (fun k hk => (PY k hk).2) B9.out)
        have C10 := Lib.hid (C9.out.trans (hO.out.below (fun k hk => by have := (PY k hk).1; omega) C9.out.size))
        clear B9 C9 OY9 hO PY
        obtain ⟨w10, e10⟩ : ∃ w10, w10 = wr := ⟨wr, rfl⟩
        subst e10
        have S10 := C10.out.size
        have L10 : Below w10.heap.size w10 (w10.alloc (.cells #[] 3)) := (Below.refl _ w10).alloc (Nat.le_refl _) _
        obtain ⟨A11, c11, w11, run1, O1, b1⟩ := app_int (w10.alloc (.cells #[] 3)) w10.heap.size (Own.lit0 w10 3 1 (i64s l)) (by simp) (c2 := c) ((HS.out.below C10.out).below (L10.mono S10)) (by omega)
        rw [Nat.zero_add] at run1 O1
        have E11 := L10.trans b1
        obtain ⟨A12, c12, w12, run2, O2, b2⟩ := app_int w11 w10.heap.size O1 E11.size (c2 := c2) (HS2.out.below (C10.out.trans (E11.mono S10))) (by omega)
        have E12 := Lib.hid (E11.trans b2)
        have O12 : Hid (Sees w12 w12.heap.size A12 (j + i) (i64s (GapI.ins l j i l2))) := by
          have := O2.sees
          rw [Nat.mul_one] at this
          refine this.congr fun q hq => ?_
          show Value.int .i64 (if q < j then if q < 0 then l q else l (q - 0) else l2 (q - j)) = Value.int .i64 (if q < j then l q else if q < j + i then l2 (q - j) else l (q - i))
          by_cases cq : q < j
          · rw [if_pos cq, if_pos cq, if_neg (by omega)]; rfl
          · rw [if_neg cq, if_neg cq, if_pos hq]
        have R1 := Lib.hid run1
        have R2 := Lib.hid run2
        have B12 := Lib.hid (B10.out.below E12.out)
        have C12 := Lib.hid (C10.out.trans (E12.out.mono S10))
        clear run1 run2 O1 O2 b1 b2 E11 L10 E12 C10 B10
        go_wp2_with (at_builtin; refine Hid.out ?_)
        refine Lib.hid (Lib.wpList_append_run _ rfl _ _ _ _ rfl _ _ rfl rfl _ _ (R1.out _) ?_)
        go_wp2_with (at_builtin; refine Hid.out ?_)
        refine Lib.hid (Lib.wpList_append_run _ rfl _ _ _ _ rfl _ _ rfl rfl _ _ (R2.out _) ?_)
        go_wp2_with fail
        clear R1 R2
        go_loopw [15] (fun x wr => ∃ k : Nat, k ≤ j + i ∧ x = .int .i64 k ∧ Hid (Drawn w12 wr)) (fun x _ => j + i - (intOf x).toNat)
        case atStart => exact ⟨0, Nat.zero_le _, rfl, Drawn.refl _⟩
        case round =>
          obtain ⟨k, hk, rfl, hD⟩ := hrel
          by_cases hlt : k < j + i
          · obtain ⟨b, o, rfl, _, hc⟩ := O12.out.at_ hlt
            have hki : (k : Int) < (j : Int) + (i : Int) := by omega
            rw [i64s_at] at hc
            go_wp2_with fail
            refine (GapI.at_ok wr _ p _ _ _ (B12.out.drawn hD.out) k hlt).mono ?_
            rintro e w13 ⟨rfl, hd⟩
            have hD13 := Lib.hid (hD.out.trans hd)
            have hc13 : w13.cell? ⟨b, o + k, none⟩ = some (.int .i64 (GapI.ins l j i l2 k)) := (hD13.out.cell _).trans hc
            clear hd
            go_wp2_with fail
            go_roundw
            case rel => exact ⟨k + 1, by omega, by go_num, hD13⟩
            case measure => simp [intOf]; omega
          obtain rfl : k = j + i := by omega
          have D13 := Lib.hid (C12.out.trans (hD.out.below _))
          clear hD
          go_wp2_with fail
          refine (lives3_yes _).mono ?_
          rintro e w14 ⟨rfl, hb⟩
          have D14 := Lib.hid (D13.out.trans (hb.mono D13.out.size))
          clear hb
          go_wp2_with fail
          go_ret
          exact ⟨rfl, D14.out⟩
end Go.Proofs.Ytiipogenknnilaa

/-
  FlagsScript, walked.
-/
import Derived.Test.YteodkmndghaidaaDoorFlaOpen
namespace Go.Proofs.YteodkmndghaidaaDoor
open Go.RowKit
set_option linter.unusedVariables false
set_option linter.unusedSimpArgs false

def box4 (a b c d : Value) : Nat → Value := fun j => if j = 0 then a else if j = 1 then b else if j = 2 then c else d
theorem box4_row (w : World) (a b c d : Value) (t : TypeId) : (w.alloc (.cells #[a, b, c, d] t)).rowIs w.heap.size t 4 (box4 a b c d) := World.rowIs_alloc w #[a, b, c, d] t _ (fun j hj => by
  have : j = 0 ∨ j = 1 ∨ j = 2 ∨ j = 3 := by simp at hj; omega
  rcases this with rfl | rfl | rfl | rfl <;> rfl)
structure B4 (w : World) (p : Nat) (a b c d : Value) : Prop where
  r : w.rowIs p 42 4 (box4 a b c d)
theorem B4.below {w w' : World} {p : Nat} {a b c d : Value} (h : B4 w p a b c d) (hb : Below w.heap.size w w') : B4 w' p a b c d := ⟨World.rowIs.of_block h.r (hb.block p (World.rowIs.lt h.r))⟩
theorem B4.fr {S : Nat → Prop} {w w' : World} {p : Nat} {a b c d : Value} (h : B4 w p a b c d) (hf : Fr S w w') (hp : ¬ S p) : B4 w' p a b c d := ⟨World.rowIs.of_block h.r (hf.block p (World.rowIs.lt h.r) hp)⟩
theorem B4.cells {w : World} {p : Nat} {a b c d : Value} (h : B4 w p a b c d) : w.cell? ⟨p, 0, none⟩ = some a ∧ w.cell? ⟨p, 1, none⟩ = some b ∧ w.cell? ⟨p, 2, none⟩ = some c ∧ w.cell? ⟨p, 3, none⟩ = some d ∧ p < w.heap.size :=
  ⟨h.r.cell (i := 0) (by omega), h.r.cell (i := 1) (by omega), h.r.cell (i := 2) (by omega), h.r.cell (i := 3) (by omega), h.r.lt⟩
/-- Bits that are seen lie outside flags. -/
theorem SeesF.past {w w' : World} {B p : Nat} {A : Option Addr} {R W : List Bool} (h : SeesF w B A R) (hF : Fl w p W) (hB : B ≤ w.heap.size) (hf : Fr (fun b => b = p) w w') : SeesF w' w'.heap.size A R := by
  intro hn
  obtain ⟨b, o, h1, h2, h3⟩ := h hn
  have hbp : ¬ b = p := by
    rintro rfl
    have h0 := h3 0 hn
    rw [Nat.add_zero, bvs_at] at h0
    obtain ⟨cs, e1, e2, e3⟩ := hF.row
    have h4 : cs[o]? = some (.bool (bt R 0)) := by simpa [World.cell?, e1] using h0
    have h5 : o < 66 := by
      obtain ⟨q, _⟩ := Array.getElem?_eq_some_iff.1 h4
      omega
    have h6 := (e3 o h5).symm.trans h4
    unfold flc at h6
    by_cases c : o = 0
    · rw [if_pos c] at h6; cases h6
    · rw [if_neg c] at h6
      by_cases d : o = 1
      · rw [if_pos d] at h6; cases h6
      · rw [if_neg d] at h6; cases h6
  have hs := hf.size
  refine ⟨b, o, h1, by omega, fun j hj => ?_⟩
  rw [World.cell?_of_block (w := w) (hf.block b (by omega) hbp)]
  exact h3 j hj
/-- What a change of flags does. -/
def FOp (w : World) (p : Nat) (R : List Bool) (er : Int) (e : Ending) (w' : World) : Prop := e = .returned (.int .i64 er) ∧ Fl w' p R ∧ Fr (fun b => b = p) w w'
theorem fins_op (w : World) (p : Nat) (l : List Bool) (h : Fl w p l) (i n : Int) (v : Bool) (fi : Fits i) (fn : Fits n) :
    Calls Tryd.prog 22 #[.pointer (some ⟨p, 0, none⟩), .int .i64 i, .int .i64 n, .bool v] w (FOp w p (fInsTo l i n v) (fInsErr l i n)) := by
  have hl := h.len
  by_cases c : fInsErr l i n = 0
  · have hc := c
    unfold fInsErr at hc
    split at hc
    · cases hc
    · split at hc
      · cases hc
      · unfold fInsTo
        rw [if_pos c, c]
        obtain ⟨k, rfl⟩ : ∃ k : Nat, i = (k : Int) := ⟨i.toNat, by omega⟩
        obtain ⟨m, rfl⟩ : ∃ k : Nat, n = (k : Int) := ⟨n.toNat, by omega⟩
        rw [Int.toNat_natCast, Int.toNat_natCast]
        exact fins_ok w p l h k m v (by omega) (by omega)
  · unfold fInsTo
    rw [if_neg c]
    refine (fins_bad w p l h i n v fi fn c).mono ?_
    rintro e w' ⟨rfl, rfl⟩
    exact ⟨rfl, h, Fr.refl _ _⟩
theorem frem_op (w : World) (p : Nat) (l : List Bool) (h : Fl w p l) (i n : Int) (fi : Fits i) (fn : Fits n) :
    Calls Tryd.prog 24 #[.pointer (some ⟨p, 0, none⟩), .int .i64 i, .int .i64 n] w (FOp w p (fRemTo l i n) (fRemErr l i n)) := by
  by_cases c : i < 0 ∨ n < 0 ∨ (l.length : Int) < i ∨ (l.length : Int) - i < n
  · have e : fRemErr l i n = 4 := by unfold fRemErr; rw [if_pos c]
    unfold fRemTo
    rw [e, if_neg (by decide)]
    refine (frem_bad w p l h i n fi fn e).mono ?_
    rintro e w' ⟨rfl, rfl⟩
    exact ⟨rfl, h, Fr.refl _ _⟩
  · have e : fRemErr l i n = 0 := by unfold fRemErr; rw [if_neg c]
    unfold fRemTo
    rw [e, if_pos rfl]
    obtain ⟨k, rfl⟩ : ∃ k : Nat, i = (k : Int) := ⟨i.toNat, by omega⟩
    obtain ⟨m, rfl⟩ : ∃ k : Nat, n = (k : Int) := ⟨n.toNat, by omega⟩
    rw [Int.toNat_natCast, Int.toNat_natCast]
    exact frem_ok w p l h k m (by omega)
theorem fmov_op (w : World) (p : Nat) (l : List Bool) (h : Fl w p l) (i n t : Int) (fi : Fits i) (fn : Fits n) (ft : Fits t) :
    Calls Tryd.prog 26 #[.pointer (some ⟨p, 0, none⟩), .int .i64 i, .int .i64 n, .int .i64 t] w (FOp w p (fMovTo l i n t) (fMovErr l i n t)) := by
  by_cases c : i < 0 ∨ n < 0 ∨ (l.length : Int) < i ∨ (l.length : Int) - i < n ∨ t < 0 ∨ (l.length : Int) - n < t
  · have e : fMovErr l i n t = 4 := by unfold fMovErr; rw [if_pos c]
    unfold fMovTo
    rw [e, if_neg (by decide)]
    refine (fmov_bad w p l h i n t fi fn ft e).mono ?_
    rintro e w' ⟨rfl, rfl⟩
    exact ⟨rfl, h, Fr.refl _ _⟩
  · have e : fMovErr l i n t = 0 := by unfold fMovErr; rw [if_neg c]
    unfold fMovTo
    rw [e, if_pos rfl]
    obtain ⟨k, rfl⟩ : ∃ k : Nat, i = (k : Int) := ⟨i.toNat, by omega⟩
    obtain ⟨m, rfl⟩ : ∃ k : Nat, n = (k : Int) := ⟨n.toNat, by omega⟩
    obtain ⟨q, rfl⟩ : ∃ k : Nat, t = (k : Int) := ⟨t.toNat, by omega⟩
    rw [Int.toNat_natCast, Int.toNat_natCast, Int.toNat_natCast]
    exact fmov_ok w p l h k m q (by omega) (by omega)

set_option maxRecDepth 100000 in
set_option maxHeartbeats 12800000 in
theorem law_script (A : Option Addr) (n c : Nat) (l : List Bool) (A2 : Option Addr) (n2 c2 : Nat) (F : Nat → Value) (w : World) (hs : n = l.length ∧ SeesF w w.heap.size A l) (hnc : n ≤ c) (hc : c ≤ maxLen)
    (hs2 : Sees w w.heap.size A2 (n2 * 4) F) (hf2 : ∀ i, i < n2 → StepF F i) (hnc2 : n2 ≤ c2) (hc2 : c2 ≤ maxLen) (hT : Tab w) (h0 : 0 < w.heap.size) :
    Calls Tryd.prog 5 #[.slice A n c, .slice A2 n2 c2] w fun e w' => e = .returned (.bool true) ∧ Below w.heap.size w w' := by
  obtain ⟨en, hs⟩ := hs
  have EN := Lib.hid en
  have HT := Lib.hid hT
  have H0 := Lib.hid h0
  have HS := Lib.hid hs
  have HS2 := Lib.hid hs2
  have HF2 := Lib.hid hf2
  have HNC := Lib.hid hnc
  have HCM := Lib.hid hc
  have B0 : Hid (Below w.heap.size w w) := Below.refl _ w
  clear en hs hs2 hf2 hnc hc hnc2 hc2 hT h0
  by_cases hbig : 200 < n
  · have hbi : (200 : Int) < (n : Int) := by omega
    go_enter Tryd.func5, Tryd.ntmps5
    go_wp2_with fail
    have KL := Lib.hid (lives_yes w (HT.out) (H0.out))
    go_wp2_with fail
    refine (KL.out).mono ?_
    rintro e w11 ⟨rfl, hb⟩
    have Y1 := Lib.hid ((B0.out).trans (hb.mono (B0.out).size))
    clear hb KL
    go_wp2_with fail
    go_ret
    exact ⟨rfl, Y1.out⟩
  have hbi : ¬ (200 : Int) < (n : Int) := by omega
  by_cases hbig2 : 20 < n2
  · have hbi2 : (20 : Int) < (n2 : Int) := by omega
    go_enter Tryd.func5, Tryd.ntmps5
    go_wp2_with fail
    have KL := Lib.hid (lives_yes w (HT.out) (H0.out))
    go_wp2_with fail
    refine (KL.out).mono ?_
    rintro e w11 ⟨rfl, hb⟩
    have Y1 := Lib.hid ((B0.out).trans (hb.mono (B0.out).size))
    clear hb KL
    go_wp2_with fail
    go_ret
    exact ⟨rfl, Y1.out⟩
  have hbi2 : ¬ (20 : Int) < (n2 : Int) := by omega
  have KM := made_any w HT.out H0.out A c _ l HS.out (Nat.le_refl _) (by rw [← EN.out]; omega)
  rw [← EN.out] at KM
  have KM := Lib.hid KM
  go_enter Tryd.func5, Tryd.ntmps5
  go_wp2_with fail
  refine (KM.out).mono ?_
  rintro e w1 ⟨p, rfl, f1, f2, f3⟩
  have X1 : Hid (FX w w1 [(p, l)]) := FX.add (FX.start f3) f1 f2
  have KC := Lib.hid (fcopy_any w1 p l f1)
  clear f1 f2 f3 KM
  go_wp2_with fail
  refine (KC.out).mono ?_
  rintro e w2 ⟨q, rfl, f1, f2, f3⟩
  have HN : Hid (q ≠ p) := by have := (X1.out.get (.head _)).lt; show _ ≠ _; omega
  have X2 : Hid (FX w w2 [(p, l), (q, l)]) := ((X1.out.below f3).add f1 (Nat.le_trans X1.out.bl.size f2)).sub (fun v hv => by
    simp only [List.mem_cons, List.not_mem_nil, or_false] at hv
    rcases hv with rfl | rfl
    · exact .tail _ (.head _)
    · exact .head _)
  clear f1 f2 f3 KC X1
  go_wp2_with fail
  go_loopw [8, 9] (fun wv i wr => ∃ (k : Nat) (W : List Bool) (Aw : Option Addr) (cw : Nat), k ≤ n2 ∧ wv = .slice Aw W.length cw ∧ i = .int .i64 k ∧ Hid (W.length ≤ cw) ∧ Hid (cw ≤ maxLen) ∧ Hid (FX w wr [(p, W), (q, l)]) ∧ Hid (SeesF wr wr.heap.size Aw W)) (fun _ i _ => n2 - (intOf i).toNat)
  case atStart => exact ⟨0, l, A, c, Nat.zero_le _, by rw [EN.out], rfl, by rw [← EN.out]; exact HNC.out, HCM.out, X2.out, (HS.out.below X2.out.bl).more X2.out.bl.size⟩
  case round =>
    obtain ⟨k, W, Aw, cw, hk, rfl, rfl, hwc, hcm, X3, S3⟩ := hrel
    clear X2
    obtain ⟨nW, enW⟩ : ∃ n, n = W.length := ⟨_, rfl⟩
    have EW := Lib.hid enW
    rw [← enW]
    clear enW
    by_cases hlt : k < n2
    · obtain ⟨kd, at_, m_, x, e0, e1, e2, e3, fk, fa, fm, fx⟩ := HF2.out k hlt
      obtain ⟨b2, o2, rfl, hb2, hcell⟩ := HS2.out (by omega)
      have d0 := (X3.out.bl.cell (p := ⟨b2, o2 + k * 4, none⟩) hb2).trans (hcell (k * 4) (by omega))
      have d1 := (X3.out.bl.cell (p := ⟨b2, o2 + k * 4 + 1, none⟩) hb2).trans (hcell (k * 4 + 1) (by omega))
      have d2 := (X3.out.bl.cell (p := ⟨b2, o2 + k * 4 + 2, none⟩) hb2).trans (hcell (k * 4 + 2) (by omega))
      have d3 := (X3.out.bl.cell (p := ⟨b2, o2 + k * 4 + 3, none⟩) hb2).trans (hcell (k * 4 + 3) (by omega))
      rw [e0] at d0
      rw [e1] at d1
      rw [e2] at d2
      rw [e3] at d3
      clear e0 e1 e2 e3 hcell
      have hki : (k : Int) < (n2 : Int) := by omega
      obtain ⟨fk0, fk1⟩ := fk
      obtain ⟨wn, ewn⟩ : ∃ wn, wn = wr.alloc (.cells #[.int .u8 kd, .int .i64 at_, .int .i64 m_, .int .i64 x] 42) := ⟨_, rfl⟩
      have BX : Hid (B4 wn wr.heap.size (.int .u8 kd) (.int .i64 at_) (.int .i64 m_) (.int .i64 x)) := by rw [ewn]; exact ⟨box4_row wr _ _ _ _ _⟩
      have XN : Hid (FX w wn [(p, W), (q, l)]) := by rw [ewn]; exact X3.out.alloc _
      have SN : Hid (SeesF wn wn.heap.size Aw W) := by
        have L0 : Below wr.heap.size wr wn := by rw [ewn]; exact (Below.refl _ wr).alloc (Nat.le_refl _) _
        exact (S3.out.below L0).more L0.size
      have HPB : Hid (¬ wr.heap.size = p) := by have := (X3.out.get (.head _)).lt; show ¬ _; omega
      have EWN := Lib.hid ewn
      have KC := Lib.hid (fcopy_any wn p W (XN.out.get (.head _)))
      have hlen := (X3.out.get (.head _)).len
      clear X3 S3 ewn
      go_wp2_with fail
      rw [← EWN.out]
      refine (KC.out).mono ?_
      rintro e w4 ⟨q2, rfl, f1, f2, f3⟩
      have HN2 : Hid (q2 ≠ p) := by have := (XN.out.get (.head _)).lt; show _ ≠ _; omega
      have X4 : Hid (FX w w4 [(q2, W), (q, l), (p, W)]) := ((XN.out.below f3).add f1 (Nat.le_trans XN.out.bl.size f2)).sub (fun v hv => by
        simp only [List.mem_cons, List.not_mem_nil, or_false] at hv
        rcases hv with rfl | rfl | rfl
        · exact .head _
        · exact .tail _ (.tail _ (.head _))
        · exact .tail _ (.head _))
      have BX4 := Lib.hid (BX.out.below f3)
      have S4 := Lib.hid ((SN.out.below f3).more f3.size)
      clear f1 f2 f3 KC XN SN BX EWN d0 d1 d2 d3
      obtain ⟨d0, d1, d2, d3, dl⟩ := BX4.out.cells
      have hk4 : kd % 4 = 0 ∨ kd % 4 = 1 ∨ kd % 4 = 2 ∨ kd % 4 = 3 := by omega
      have hwc' : W.length ≤ cw := by have := hwc.out; exact this
      rcases hk4 with hk4 | hk4 | hk4 | hk4
      · -- rIns_any w4 Aw cw _ W S4.out (Nat.le_refl _) hwc' hcm.out hlen at_ m_ (Int.tmod x 2 != 0) fa fm the reference's contract at w4, fins_op W' p W g at_ m_ (Int.tmod x 2 != 0) fa fm the flags' at any world above, fInsTo W at_ m_ (Int.tmod x 2 != 0) bits, fInsErr W at_ m_ error
        have K1 := rIns_any w4 Aw cw _ W S4.out (Nat.le_refl _) hwc' hcm.out hlen at_ m_ (Int.tmod x 2 != 0) fa fm
        have K2 := fun W' (g : Fl W' p W) => fins_op W' p W g at_ m_ (Int.tmod x 2 != 0) fa fm
        generalize fInsTo W at_ m_ (Int.tmod x 2 != 0) = NR at K1 K2
        generalize fInsErr W at_ m_ = er at K1 K2
        unfold FPost at K1
        unfold FOp at K2
        rw [← EW.out] at K1
        obtain ⟨nR, enR⟩ : ∃ n, n = NR.length := ⟨_, rfl⟩
        rw [← enR] at K1
        have ENR := Lib.hid enR
        have K1 := Lib.hid K1
        have K2 := Lib.hid K2
        clear enR
        go_wp2_with fail
        refine (K1.out).mono ?_
        rintro e w5 ⟨Ar, cr, rfl, p1, hb, p2, p3⟩
        have X5 := Lib.hid (X4.out.below hb)
        have BX5 := Lib.hid (BX4.out.below hb)
        have S5 := Lib.hid p1
        have T5 := Lib.hid ((S4.out.below hb).more hb.size)
        have HP2 := Lib.hid p2
        have HP3 := Lib.hid p3
        have K3 := Lib.hid (K2.out w5 (X5.out.get (.tail _ (.tail _ (.head _)))))
        clear hb p1 p2 p3 K1 K2 X4 BX4 S4 d0 d1 d2 d3 dl
        obtain ⟨d0, d1, d2, d3, dl⟩ := BX5.out.cells
        go_wp2_with fail
        refine (K3.out).mono ?_
        rintro e w6 ⟨rfl, k1, k2⟩
        have X6 : Hid (FX w w6 [(p, NR), (q2, W), (q, l)]) := X5.out.put (.tail _ (.tail _ (.head _))) k1 k2 (fun v hv => by
          simp only [List.mem_cons, List.not_mem_nil, or_false] at hv
          rcases hv with rfl | rfl
          · exact ⟨.head _, HN2.out⟩
          · exact ⟨.tail _ (.head _), HN.out⟩)
        have F5 := X5.out.get (.tail _ (.tail _ (.head _)))
        have S6 := Lib.hid (SeesF.past S5.out F5 (Nat.le_refl _) k2)
        have T6 := Lib.hid (SeesF.past T5.out F5 (Nat.le_refl _) k2)
        clear k1 k2 K3 X5 BX5 S5 T5 F5 d0 d1 d2 d3 dl
        have K8 := same_any w6 p NR (X6.out.get (.head _)) Ar cr _ S6.out (Nat.le_refl _)
        have K9 := same_any w6 q2 W (X6.out.get (.tail _ (.head _))) Aw cw _ T6.out (Nat.le_refl _)
        rw [← ENR.out] at K8
        rw [← EW.out] at K9
        have K8 := Lib.hid K8
        have K9 := Lib.hid K9
        have X7 := Lib.hid (X6.out.sub (ps' := [(p, NR), (q, l)]) (fun v hv => by
          simp only [List.mem_cons, List.not_mem_nil, or_false] at hv
          rcases hv with rfl | rfl
          · exact .head _
          · exact .tail _ (.tail _ (.head _))))
        clear X6 T6
        go_wp2_with fail
        refine (K8.out).mono ?_
        rintro e w' ⟨rfl, rfl⟩
        go_wp2_with fail
        refine (K9.out).mono ?_
        rintro e w' ⟨rfl, rfl⟩
        go_wp2_with fail
        go_roundw
        case rel => exact ⟨k + 1, NR, Ar, cr, by omega, by rw [← ENR.out], by go_num, by rw [← ENR.out]; exact HP2.out, HP3.out, X7, S6⟩
        case measure => simp [intOf]; omega
      · -- rRem_any w4 Aw cw _ W S4.out (Nat.le_refl _) hwc' hcm.out (by omega) at_ m_ fa fm the reference's contract at w4, frem_op W' p W g at_ m_ fa fm the flags' at any world above, fRemTo W at_ m_ bits, fRemErr W at_ m_ error
        have K1 := rRem_any w4 Aw cw _ W S4.out (Nat.le_refl _) hwc' hcm.out (by omega) at_ m_ fa fm
        have K2 := fun W' (g : Fl W' p W) => frem_op W' p W g at_ m_ fa fm
        generalize fRemTo W at_ m_ = NR at K1 K2
        generalize fRemErr W at_ m_ = er at K1 K2
        unfold FPost at K1
        unfold FOp at K2
        rw [← EW.out] at K1
        obtain ⟨nR, enR⟩ : ∃ n, n = NR.length := ⟨_, rfl⟩
        rw [← enR] at K1
        have ENR := Lib.hid enR
        have K1 := Lib.hid K1
        have K2 := Lib.hid K2
        clear enR
        go_wp2_with fail
        refine (K1.out).mono ?_
        rintro e w5 ⟨Ar, cr, rfl, p1, hb, p2, p3⟩
        have X5 := Lib.hid (X4.out.below hb)
        have BX5 := Lib.hid (BX4.out.below hb)
        have S5 := Lib.hid p1
        have T5 := Lib.hid ((S4.out.below hb).more hb.size)
        have HP2 := Lib.hid p2
        have HP3 := Lib.hid p3
        have K3 := Lib.hid (K2.out w5 (X5.out.get (.tail _ (.tail _ (.head _)))))
        clear hb p1 p2 p3 K1 K2 X4 BX4 S4 d0 d1 d2 d3 dl
        obtain ⟨d0, d1, d2, d3, dl⟩ := BX5.out.cells
        go_wp2_with fail
        refine (K3.out).mono ?_
        rintro e w6 ⟨rfl, k1, k2⟩
        have X6 : Hid (FX w w6 [(p, NR), (q2, W), (q, l)]) := X5.out.put (.tail _ (.tail _ (.head _))) k1 k2 (fun v hv => by
          simp only [List.mem_cons, List.not_mem_nil, or_false] at hv
          rcases hv with rfl | rfl
          · exact ⟨.head _, HN2.out⟩
          · exact ⟨.tail _ (.head _), HN.out⟩)
        have F5 := X5.out.get (.tail _ (.tail _ (.head _)))
        have S6 := Lib.hid (SeesF.past S5.out F5 (Nat.le_refl _) k2)
        have T6 := Lib.hid (SeesF.past T5.out F5 (Nat.le_refl _) k2)
        clear k1 k2 K3 X5 BX5 S5 T5 F5 d0 d1 d2 d3 dl
        have K8 := same_any w6 p NR (X6.out.get (.head _)) Ar cr _ S6.out (Nat.le_refl _)
        have K9 := same_any w6 q2 W (X6.out.get (.tail _ (.head _))) Aw cw _ T6.out (Nat.le_refl _)
        rw [← ENR.out] at K8
        rw [← EW.out] at K9
        have K8 := Lib.hid K8
        have K9 := Lib.hid K9
        have X7 := Lib.hid (X6.out.sub (ps' := [(p, NR), (q, l)]) (fun v hv => by
          simp only [List.mem_cons, List.not_mem_nil, or_false] at hv
          rcases hv with rfl | rfl
          · exact .head _
          · exact .tail _ (.tail _ (.head _))))
        clear X6 T6
        go_wp2_with fail
        refine (K8.out).mono ?_
        rintro e w' ⟨rfl, rfl⟩
        go_wp2_with fail
        refine (K9.out).mono ?_
        rintro e w' ⟨rfl, rfl⟩
        go_wp2_with fail
        go_roundw
        case rel => exact ⟨k + 1, NR, Ar, cr, by omega, by rw [← ENR.out], by go_num, by rw [← ENR.out]; exact HP2.out, HP3.out, X7, S6⟩
        case measure => simp [intOf]; omega
      · -- rMov_any w4 Aw cw _ W S4.out (Nat.le_refl _) hwc' hcm.out (by omega) at_ m_ x fa fm fx the reference's contract at w4, fmov_op W' p W g at_ m_ x fa fm fx the flags' at any world above, fMovTo W at_ m_ x bits, fMovErr W at_ m_ x error
        have K1 := rMov_any w4 Aw cw _ W S4.out (Nat.le_refl _) hwc' hcm.out (by omega) at_ m_ x fa fm fx
        have K2 := fun W' (g : Fl W' p W) => fmov_op W' p W g at_ m_ x fa fm fx
        generalize fMovTo W at_ m_ x = NR at K1 K2
        generalize fMovErr W at_ m_ x = er at K1 K2
        unfold FPost at K1
        unfold FOp at K2
        rw [← EW.out] at K1
        obtain ⟨nR, enR⟩ : ∃ n, n = NR.length := ⟨_, rfl⟩
        rw [← enR] at K1
        have ENR := Lib.hid enR
        have K1 := Lib.hid K1
        have K2 := Lib.hid K2
        clear enR
        go_wp2_with fail
        refine (K1.out).mono ?_
        rintro e w5 ⟨Ar, cr, rfl, p1, hb, p2, p3⟩
        have X5 := Lib.hid (X4.out.below hb)
        have BX5 := Lib.hid (BX4.out.below hb)
        have S5 := Lib.hid p1
        have T5 := Lib.hid ((S4.out.below hb).more hb.size)
        have HP2 := Lib.hid p2
        have HP3 := Lib.hid p3
        have K3 := Lib.hid (K2.out w5 (X5.out.get (.tail _ (.tail _ (.head _)))))
        clear hb p1 p2 p3 K1 K2 X4 BX4 S4 d0 d1 d2 d3 dl
        obtain ⟨d0, d1, d2, d3, dl⟩ := BX5.out.cells
        go_wp2_with fail
        refine (K3.out).mono ?_
        rintro e w6 ⟨rfl, k1, k2⟩
        have X6 : Hid (FX w w6 [(p, NR), (q2, W), (q, l)]) := X5.out.put (.tail _ (.tail _ (.head _))) k1 k2 (fun v hv => by
          simp only [List.mem_cons, List.not_mem_nil, or_false] at hv
          rcases hv with rfl | rfl
          · exact ⟨.head _, HN2.out⟩
          · exact ⟨.tail _ (.head _), HN.out⟩)
        have F5 := X5.out.get (.tail _ (.tail _ (.head _)))
        have S6 := Lib.hid (SeesF.past S5.out F5 (Nat.le_refl _) k2)
        have T6 := Lib.hid (SeesF.past T5.out F5 (Nat.le_refl _) k2)
        clear k1 k2 K3 X5 BX5 S5 T5 F5 d0 d1 d2 d3 dl
        have K8 := same_any w6 p NR (X6.out.get (.head _)) Ar cr _ S6.out (Nat.le_refl _)
        have K9 := same_any w6 q2 W (X6.out.get (.tail _ (.head _))) Aw cw _ T6.out (Nat.le_refl _)
        rw [← ENR.out] at K8
        rw [← EW.out] at K9
        have K8 := Lib.hid K8
        have K9 := Lib.hid K9
        have X7 := Lib.hid (X6.out.sub (ps' := [(p, NR), (q, l)]) (fun v hv => by
          simp only [List.mem_cons, List.not_mem_nil, or_false] at hv
          rcases hv with rfl | rfl
          · exact .head _
          · exact .tail _ (.tail _ (.head _))))
        clear X6 T6
        go_wp2_with fail
        refine (K8.out).mono ?_
        rintro e w' ⟨rfl, rfl⟩
        go_wp2_with fail
        refine (K9.out).mono ?_
        rintro e w' ⟨rfl, rfl⟩
        go_wp2_with fail
        go_roundw
        case rel => exact ⟨k + 1, NR, Ar, cr, by omega, by rw [← ENR.out], by go_num, by rw [← ENR.out]; exact HP2.out, HP3.out, X7, S6⟩
        case measure => simp [intOf]; omega
      · have F4 := X4.out.get (.tail _ (.tail _ (.head _)))
        obtain ⟨v, ev⟩ : ∃ v, v = (Int.tmod x 2 != 0) := ⟨_, rfl⟩
        by_cases hin : 0 ≤ at_ ∧ at_ < (nW : Int)
        · obtain ⟨ht0, htn⟩ := hin
          obtain ⟨t, rfl⟩ : ∃ t : Nat, at_ = (t : Int) := ⟨at_.toNat, by omega⟩
          have htW : t < W.length := by rw [← EW.out]; omega
          have K3 := Lib.hid (fSet_ok w4 p W F4 t htW (Int.tmod x 2 != 0))
          have EV := Lib.hid ev
          clear ev
          go_wp2_with fail
          refine (K3.out).mono ?_
          rintro e w5 ⟨rfl, k1, k2⟩
          rw [← EV.out] at k1
          have X5 : Hid (FX w w5 [(p, W.set t v), (q2, W), (q, l)]) := X4.out.put (.tail _ (.tail _ (.head _))) k1 k2 (fun u hu => by
            simp only [List.mem_cons, List.not_mem_nil, or_false] at hu
            rcases hu with rfl | rfl
            · exact ⟨.head _, HN2.out⟩
            · exact ⟨.tail _ (.head _), HN.out⟩)
          have S5 := Lib.hid (SeesF.past S4.out F4 (Nat.le_refl _) k2)
          have BX5 := Lib.hid (BX4.out.fr k2 HPB.out)
          clear k1 k2 K3 X4 BX4 S4 d0 d1 d2 d3 dl F4
          obtain ⟨d0, d1, d2, d3, dl⟩ := BX5.out.cells
          obtain ⟨An, cn', w6, run, O, hb, hcm⟩ := clone_F w5 (c := cw) S5.out (Nat.le_refl _) (by omega)
          have hle := O.le
          obtain ⟨g, hA, hg1, hg2, hcells, hfz⟩ := O.at_ (show 0 < W.length by omega)
          subst hA
          have gc := hcells t (by omega)
          have gf := hfz t
          rw [bvs_at] at gc
          have O2 := O.set t (.bool v)
          have O3 : OwnF (w6.setCell ⟨g, t, none⟩ (.bool v)) w5.heap.size (some ⟨g, 0, none⟩) cn' (W.set t v) := by
            unfold OwnF
            rw [List.length_set]
            refine O2.congr fun j hj => ?_
            rw [bvs_at, bvs_at, bt_set htW]
            by_cases c : j = t
            · rw [if_pos c, if_pos c]
            · rw [if_neg c, if_neg c]
          have B7 : Below w5.heap.size w5 (w6.setCell ⟨g, t, none⟩ (.bool v)) := hb.setCell (p := ⟨g, t, none⟩) hg1 _
          have X7 := Lib.hid (X5.out.below B7)
          have S7 := Lib.hid (OwnF.see O3)
          have T7 := Lib.hid ((S5.out.below B7).more B7.size)
          have BX6 := Lib.hid (BX5.out.below hb)
          have R1 := Lib.hid run
          rw [← EW.out] at R1 hle
          have HL := Lib.hid hle
          have HC := Lib.hid hcm
          obtain ⟨u, eu⟩ : ∃ u, u = bt W t := ⟨_, rfl⟩
          rw [← eu] at gc
          have D1 := Lib.hid BX6.out.cells.2.1
          have D3 := Lib.hid BX6.out.cells.2.2.2.1
          have GC := Lib.hid gc
          have GF := Lib.hid gf
          have HTN : t < nW := by omega
          have HTC : t < cn' := by omega
          clear run O hb hcm hcells hfz O2 O3 B7 S5 X5 eu hle htW gc gf
          go_wp2_with (at_builtin; refine Hid.out ?_)
          refine Lib.hid (Lib.wpList_append_run _ rfl _ _ _ _ rfl _ _ rfl rfl _ _ (R1.out _) ?_)
          clear d0 d1 d2 d3 dl BX5
          have d1 := D1.out
          have d3 := D3.out
          have gc := GC.out
          have gf := GF.out
          clear D1 D3 GC GF
          obtain ⟨w7, e7⟩ : ∃ w7, w7 = w6.setCell ⟨g, t, none⟩ (.bool v) := ⟨_, rfl⟩
          rw [← e7] at X7 S7 T7
          rw [EV.out] at e7
          have E7 := Lib.hid e7
          have K8 := same_any w7 p (W.set t v) (X7.out.get (.head _)) (some ⟨g, 0, none⟩) cn' _ S7.out (Nat.le_refl _)
          have K9 := same_any w7 q2 W (X7.out.get (.tail _ (.head _))) Aw cw _ T7.out (Nat.le_refl _)
          rw [List.length_set, ← EW.out] at K8
          rw [← EW.out] at K9
          have K8 := Lib.hid K8
          have K9 := Lib.hid K9
          have X8 := Lib.hid (X7.out.sub (ps' := [(p, W.set t v), (q, l)]) (fun u hu => by
            simp only [List.mem_cons, List.not_mem_nil, or_false] at hu
            rcases hu with rfl | rfl
            · exact .head _
            · exact .tail _ (.tail _ (.head _))))
          clear X7 T7 e7
          go_wp2_with fail
          rw [← E7.out]
          refine (K8.out).mono ?_
          rintro e w' ⟨rfl, rfl⟩
          go_wp2_with fail
          refine (K9.out).mono ?_
          rintro e w' ⟨rfl, rfl⟩
          go_wp2_with fail
          go_roundw
          case rel => exact ⟨k + 1, W.set t v, some ⟨g, 0, none⟩, cn', by omega, by rw [List.length_set, ← EW.out], by go_num, by rw [List.length_set, ← EW.out]; exact HL.out, HC.out, X8, S7⟩
          case measure => simp [intOf]; omega
        · have K3 := Lib.hid (fSet_bad w4 p W F4 at_ fa (by rw [← EW.out]; omega) (Int.tmod x 2 != 0))
          have K8 := same_any w4 p W F4 Aw cw _ S4.out (Nat.le_refl _)
          have K9 := same_any w4 q2 W (X4.out.get (.head _)) Aw cw _ S4.out (Nat.le_refl _)
          rw [← EW.out] at K8 K9
          have K8 := Lib.hid K8
          have K9 := Lib.hid K9
          have X8 := Lib.hid (X4.out.sub (ps' := [(p, W), (q, l)]) (fun u hu => by
            simp only [List.mem_cons, List.not_mem_nil, or_false] at hu
            rcases hu with rfl | rfl
            · exact .tail _ (.tail _ (.head _))
            · exact .tail _ (.head _)))
          clear F4 ev X4
          by_cases h0 : at_ < 0
          · have h1 : ¬ 0 ≤ at_ := by omega
            go_wp2_with fail
            refine (K3.out).mono ?_
            rintro e w' ⟨rfl, rfl⟩
            go_wp2_with fail
            refine (K8.out).mono ?_
            rintro e w' ⟨rfl, rfl⟩
            go_wp2_with fail
            refine (K9.out).mono ?_
            rintro e w' ⟨rfl, rfl⟩
            go_wp2_with fail
            go_roundw
            case rel => exact ⟨k + 1, W, Aw, cw, by omega, by rw [EW.out], by go_num, hwc.out, hcm.out, X8, S4⟩
            case measure => simp [intOf]; omega
          · have h1 : 0 ≤ at_ := by omega
            have h2 : ¬ at_ < (nW : Int) := by omega
            go_wp2_with fail
            refine (K3.out).mono ?_
            rintro e w' ⟨rfl, rfl⟩
            go_wp2_with fail
            refine (K8.out).mono ?_
            rintro e w' ⟨rfl, rfl⟩
            go_wp2_with fail
            refine (K9.out).mono ?_
            rintro e w' ⟨rfl, rfl⟩
            go_wp2_with fail
            go_roundw
            case rel => exact ⟨k + 1, W, Aw, cw, by omega, by rw [EW.out], by go_num, hwc.out, hcm.out, X8, S4⟩
            case measure => simp [intOf]; omega
    · obtain rfl : k = n2 := by omega
      have KS := same_any wr q l (X3.out.get (.tail _ (.head _))) A c _ (HS.out.below X3.out.bl) X3.out.bl.size
      rw [← EN.out] at KS
      have KS := Lib.hid KS
      have KL := Lib.hid (lives_yes wr (X3.out.get (.head _)).tab (Nat.lt_of_lt_of_le H0.out X3.out.bl.size))
      go_wp2_with fail
      refine (KS.out).mono ?_
      rintro e w' ⟨rfl, rfl⟩
      go_wp2_with fail
      refine (KL.out).mono ?_
      rintro e w11 ⟨rfl, hb⟩
      have Y1 := Lib.hid (X3.out.below hb).bl
      clear hb KL KS X3
      go_wp2_with fail
      go_ret
      exact ⟨rfl, Y1.out⟩
end Go.Proofs.YteodkmndghaidaaDoor

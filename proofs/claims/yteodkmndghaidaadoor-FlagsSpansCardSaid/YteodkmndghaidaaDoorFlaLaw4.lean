/-
  FlagsSpans, walked.
-/
import Derived.Test.YteodkmndghaidaaDoorFlaOpen
import Derived.Test.YteodkmndghaidaaDoorSpaM
import Derived.Test.YteodkmndghaidaaDoorSpaF
import Derived.BigQuiet
namespace Go.Proofs.YteodkmndghaidaaDoor
open Go.RowKit
set_option linter.unusedVariables false
set_option linter.unusedSimpArgs false

/-- Spans that are seen lie outside flags. -/
theorem SeesP.past {w w' : World} {B p : Nat} {A : Option Addr} {R : Sp} {W : List Bool} (h : SeesP w B A R) (hN : NF R) (hF : Fl w p W) (hB : B ≤ w.heap.size) (hf : Fr (fun b => b = p) w w') : SeesP w' w'.heap.size A R := by
  intro hn
  obtain ⟨b, o, h1, h2, h3⟩ := h hn
  have hbp : ¬ b = p := by
    rintro rfl
    have h0 := h3 0 (by omega)
    have h1 := h3 1 (by omega)
    have e0 := spf_0 R 0
    have e1 := spf_1 R 0
    rw [Nat.zero_mul] at e0 e1
    rw [Nat.zero_add] at e1
    rw [e0] at h0
    rw [e1] at h1
    rw [Nat.add_zero] at h0
    have hlt : (sg R 0).1 < (sg R 0).2 := by
      have : R ≠ [] := by rintro rfl; simp at hn
      obtain ⟨s, r, rfl⟩ := List.exists_cons_of_ne_nil this
      have := NFfrom.mem hN s (.head _)
      exact this.2.1
    obtain ⟨cs, q1, q2, q3⟩ := hF.row
    have g0 : cs[o]? = some (.int .i64 (sg R 0).1) := by simpa [World.cell?, q1] using h0
    have g1 : cs[o + 1]? = some (.int .i64 (sg R 0).2) := by simpa [World.cell?, q1] using h1
    have ho : o + 1 < 66 := by
      obtain ⟨q, _⟩ := Array.getElem?_eq_some_iff.1 g1
      omega
    have f0 := (q3 o (by omega)).symm.trans g0
    have f1 := (q3 (o + 1) ho).symm.trans g1
    unfold flc at f0 f1
    by_cases c : o = 0
    · subst c
      rw [if_pos rfl] at f0
      rw [if_neg (by omega), if_pos rfl] at f1
      injection f0 with f0; injection f0 with _ f0
      injection f1 with f1; injection f1 with _ f1
      have := cn_le W
      omega
    · rw [if_neg (by omega), if_neg (by omega)] at f1
      injection f1 with f1
      cases f1
  have hs := hf.size
  refine ⟨b, o, h1, by omega, fun j hj => ?_⟩
  rw [World.cell?_of_block (w := w) (hf.block b (by omega) hbp)]
  exact h3 j hj
structure XS (w0 w : World) (ps : List (Nat × List Bool)) (qs : List (Option Addr × Sp)) : Prop where
  fx : FX w0 w ps
  sp : ∀ q ∈ qs, SeesP w w.heap.size q.1 q.2 ∧ NF q.2
theorem XS.below {w0 w w' : World} {ps : List (Nat × List Bool)} {qs : List (Option Addr × Sp)} (h : XS w0 w ps qs) (hb : Below w.heap.size w w') : XS w0 w' ps qs := ⟨h.fx.below hb, fun q hq => ⟨((h.sp q hq).1.below hb).more hb.size, (h.sp q hq).2⟩⟩
theorem XS.drawn {w0 w w' : World} {ps : List (Nat × List Bool)} {qs : List (Option Addr × Sp)} (h : XS w0 w ps qs) (hd : Drawn w w') : XS w0 w' ps qs := h.below (hd.below _)
theorem XS.addF {w0 w : World} {ps : List (Nat × List Bool)} {qs : List (Option Addr × Sp)} (h : XS w0 w ps qs) {p : Nat} {l : List Bool} (hF : Fl w p l) (hp : w0.heap.size ≤ p) : XS w0 w ((p, l) :: ps) qs := ⟨h.fx.add hF hp, h.sp⟩
theorem XS.addS {w0 w : World} {ps : List (Nat × List Bool)} {qs : List (Option Addr × Sp)} (h : XS w0 w ps qs) {A : Option Addr} {R : Sp} (hs : SeesP w w.heap.size A R) (hN : NF R) : XS w0 w ps ((A, R) :: qs) := ⟨h.fx, fun q hq => by
  rcases List.mem_cons.1 hq with rfl | hq
  · exact ⟨hs, hN⟩
  · exact h.sp q hq⟩
theorem XS.put {w0 w w' : World} {ps ps' : List (Nat × List Bool)} {qs : List (Option Addr × Sp)} (h : XS w0 w ps qs) {p : Nat} {l l' : List Bool} (hv : (p, l) ∈ ps) (hF : Fl w' p l') (hf : Fr (fun b => b = p) w w') (hs : ∀ v ∈ ps', v ∈ ps ∧ v.1 ≠ p) : XS w0 w' ((p, l') :: ps') qs :=
  ⟨h.fx.put hv hF hf hs, fun q hq => ⟨(h.sp q hq).1.past (h.sp q hq).2 (h.fx.get hv) (Nat.le_refl _) hf, (h.sp q hq).2⟩⟩
theorem XS.see {w0 w : World} {ps : List (Nat × List Bool)} {qs : List (Option Addr × Sp)} (h : XS w0 w ps qs) {A : Option Addr} {R : Sp} (hq : (A, R) ∈ qs) : SeesP w w.heap.size A R := (h.sp _ hq).1
theorem XS.get {w0 w : World} {ps : List (Nat × List Bool)} {qs : List (Option Addr × Sp)} (h : XS w0 w ps qs) {p : Nat} {l : List Bool} (hv : (p, l) ∈ ps) : Fl w p l := h.fx.get hv

theorem SetOf.rng {l : List Bool} {R : Sp} (h : SetOf l R) (hn : l.length ≤ 200) {a m : Nat} (ha : a ≤ 400) (hm : m ≤ 400) : rngS R a m = 0 := by
  have := h.len
  unfold rngS
  rw [if_neg (by rw [chkS_zero.2 ⟨h.nf, by omega⟩]; decide), if_neg (by omega)]
theorem ins_set {l : List Bool} {R0 : Sp} {i m : Nat} {w w' : World} {e : Ending} (h : SetOf l R0) (hi : i ≤ l.length) (hn : l.length ≤ 200) (hm : m ≤ 255) (hp : InsPost w R0 i m e w') :
    ∃ R, SetOf (fIns l i m false) R ∧ SPost w R 0 e w' := by
  have h0 := h.rng hn (a := i) (m := m) (by omega) (by omega)
  have he := NFfrom.end_below (n := l.length) h.nf (fun i hi => ((h.me i).1 hi).2.1) (by omega)
  rcases hp with ⟨c, _⟩ | ⟨_, c, _⟩ | ⟨_, _, R, hR, hS⟩
  · exact absurd h0 c
  · omega
  · have hme := hR.me
    rw [List.take_length] at hme
    have hset : SetOf (fIns l i m false) R := ⟨hR.nf, fun j => by
      rw [hme, h.me, h.me, fIns_len hi, bt_fIns hi]
      constructor
      · rintro (⟨h1, h2, h3, h4⟩ | ⟨h1, h2, h3, h4⟩)
        · refine ⟨h2, by push_cast; omega, ?_⟩
          rw [if_pos (by omega)]; exact h4
        · refine ⟨by omega, by push_cast; omega, ?_⟩
          rw [if_neg (by omega), if_neg (by omega), show j.toNat - m = (j - m).toNat from by omega]; exact h4
      · rintro ⟨h1, h2, h3⟩
        push_cast at h2
        by_cases c : j.toNat < i
        · rw [if_pos c] at h3
          exact .inl ⟨by omega, h1, by omega, h3⟩
        · rw [if_neg c] at h3
          by_cases d : j.toNat < i + m
          · rw [if_pos d] at h3; cases h3
          · rw [if_neg d, show j.toNat - m = (j - m).toNat from by omega] at h3
            exact .inr ⟨by omega, by omega, by omega, h3⟩⟩
    have hl := hset.len
    rw [fIns_len hi] at hl
    unfold dS dE at hS
    rw [if_neg (by omega), if_neg (by omega)] at hS
    exact ⟨R, hset, hS⟩
theorem rem_set {l : List Bool} {R0 : Sp} {i m : Nat} {w w' : World} {e : Ending} (h : SetOf l R0) (hi : i + m ≤ l.length) (hn : l.length ≤ 200) (hp : RemPost w R0 i m e w') :
    ∃ R, SetOf (fRem l i m) R ∧ SPost w R 0 e w' := by
  have h0 := h.rng hn (a := i) (m := m) (by omega) (by omega)
  rcases hp with ⟨c, _⟩ | ⟨_, R, hR, hS⟩
  · exact absurd h0 c
  · have hme := hR.me
    rw [List.take_length] at hme
    have hset : SetOf (fRem l i m) R := ⟨hR.nf, fun j => by
      rw [hme, h.me, h.me, fRem_len hi, bt_fRem hi]
      constructor
      · rintro (⟨h1, h2, h3, h4⟩ | ⟨h1, h2, h3, h4⟩)
        · refine ⟨h2, by omega, ?_⟩
          rw [if_pos (by omega)]; exact h4
        · refine ⟨by omega, by omega, ?_⟩
          rw [if_neg (by omega), show j.toNat + m = (j + m).toNat from by omega]; exact h4
      · rintro ⟨h1, h2, h3⟩
        by_cases c : j.toNat < i
        · rw [if_pos c] at h3
          exact .inl ⟨by omega, h1, by omega, h3⟩
        · rw [if_neg c, show j.toNat + m = (j + m).toNat from by omega] at h3
          exact .inr ⟨by omega, by omega, by omega, h3⟩⟩
    have hl := hset.len
    rw [fRem_len hi] at hl
    unfold dS dE at hS
    rw [if_neg (by omega), if_neg (by omega)] at hS
    exact ⟨R, hset, hS⟩
theorem SpTo.set {l : List Bool} {R : Sp} (h : SpTo (bt l) l.length R) : SetOf l R := ⟨h.nf, h.me⟩
theorem tmod_small (a n : Nat) : ∃ i : Nat, i ≤ n ∧ Int.tmod (a : Int) ((n : Int) + 1) = (i : Int) :=
  ⟨a % (n + 1), Nat.le_of_lt_succ (Nat.mod_lt _ (by omega)), by rw [Int.tmod_eq_emod_of_nonneg (by omega)]; norm_cast⟩

set_option maxRecDepth 100000 in
set_option maxHeartbeats 12800000 in
theorem law_spans (A : Option Addr) (n c : Nat) (l : List Bool) (x y : Int) (w : World) (hs : n = l.length ∧ SeesF w w.heap.size A l) (hnc : n ≤ c) (hc : c ≤ maxLen) (x0 : 0 ≤ x) (x1 : x ≤ 255) (y0 : 0 ≤ y) (y1 : y ≤ 255) (hT : Tab w) (h0 : 0 < w.heap.size) :
    Calls Tryd.prog 8 #[.slice A n c, .int .u8 x, .int .u8 y] w fun e w' => e = .returned (.bool true) ∧ Below w.heap.size w w' := by
  obtain ⟨en, hs⟩ := hs
  obtain ⟨a, rfl⟩ : ∃ a : Nat, x = a := ⟨x.toNat, by omega⟩
  obtain ⟨d, rfl⟩ : ∃ a : Nat, y = a := ⟨y.toNat, by omega⟩
  have ha : a ≤ 255 := by omega
  have hd : d ≤ 255 := by omega
  have EN := Lib.hid en
  have HT := Lib.hid hT
  have H0 := Lib.hid h0
  have HS := Lib.hid hs
  have HNC := Lib.hid hnc
  have HCM := Lib.hid hc
  clear en hs hnc hc hT h0 x0 x1 y0 y1
  by_cases hbig : 200 < n
  · have hbi : (200 : Int) < (n : Int) := by omega
    have KL := Lib.hid (lives_yes w HT.out H0.out)
    go_enter Tryd.func8, Tryd.ntmps8
    go_wp2_with fail
    refine (KL.out).mono ?_
    rintro e w11 ⟨rfl, hb⟩
    have Y1 := Lib.hid hb
    clear hb KL
    go_wp2_with fail
    go_ret
    exact ⟨rfl, Y1.out⟩
  have hbi : ¬ (200 : Int) < (n : Int) := by omega
  have KM := made_any w HT.out H0.out A c _ l HS.out (Nat.le_refl _) (by rw [← EN.out]; omega)
  rw [← EN.out] at KM
  have KM := Lib.hid KM
  go_enter Tryd.func8, Tryd.ntmps8
  go_wp2_with fail
  refine (KM.out).mono ?_
  rintro e w1 ⟨p, rfl, f1, f2, f3⟩
  have X1 : Hid (XS w w1 [(p, l)] []) := ⟨FX.add (FX.start f3) f1 f2, fun q h => nomatch h⟩
  have KC := Lib.hid (fspans_any w1 p l f1)
  clear f1 f2 f3 KM
  go_wp2_with fail
  refine (KC.out).mono ?_
  rintro e w2 ⟨R, A1, hR, rfl, s2, b2⟩
  have HR := Lib.hid hR
  have X2 := Lib.hid ((X1.out.below b2).addS s2 hR.nf)
  have B2 := Lib.hid X2.out.fx.bl
  have KR := Lib.hid (refSpans_any w2 w.heap.size A n c (bt l) (by
    have := HS.out.below B2.out
    rw [show l.length = n from EN.out.symm] at this
    exact this) B2.out.size (by omega))
  clear hR s2 b2 KC X1
  go_wp2_with fail
  refine (KR.out).mono ?_
  rintro e w3 ⟨R', A3, c3, rfl, hR3, s3, b3⟩
  obtain rfl : R' = R := SetOf.uniq (SpTo.set (by rw [← EN.out]; exact hR3)) HR.out
  have X3 := Lib.hid ((X2.out.below b3).addS s3 hR3.nf)
  have hRl := HR.out.len
  clear hR3 s3 b3 KR X2
  obtain ⟨r, er⟩ : ∃ r, r = R'.length := ⟨_, rfl⟩
  have ER := Lib.hid er
  rw [← er] at hRl ⊢
  rw [← EN.out] at hRl
  clear er
  go_wp2_with fail
  go_loopw [11] (fun i wr => ∃ k : Nat, k ≤ r ∧ i = .int .i64 k ∧ Hid (Drawn w3 wr)) (fun i _ => r - (intOf i).toNat)
  case atStart => exact ⟨0, Nat.zero_le _, rfl, Drawn.refl _⟩
  case round =>
    obtain ⟨k, hk, rfl, hD⟩ := hrel
    have X4 := Lib.hid (X3.out.drawn hD.out)
    by_cases hlt : k < r
    · obtain ⟨b, o, rfl, _, z0, z1⟩ := SeesP.cells (X4.out.see (.tail _ (.head _))) (k := k) (by rw [← ER.out]; exact hlt)
      obtain ⟨b', o', rfl, _, e0, e1⟩ := SeesP.cells (X4.out.see (.head _)) (k := k) (by rw [← ER.out]; exact hlt)
      generalize (sg R' k).1 = u at *
      generalize (sg R' k).2 = v at *
      have hki : (k : Int) < (r : Int) := by omega
      clear X4
      go_wp2_with fail
      go_quiet (fail)
      go_wp2_with fail
      go_roundw
      case rel => exact ⟨k + 1, by omega, by go_num, hD.out.drewN _⟩
      case measure => simp [intOf]; omega
    obtain rfl : r = k := by omega
    clear X3 hD hlt hk
    obtain ⟨i, hi, ei⟩ := tmod_small a n
    obtain ⟨k2, hk2, ek⟩ := tmod_small d (n - i)
    rw [show ((n - i : Nat) : Int) = (n : Int) - (i : Int) from by omega] at ek
    have hik : i + k2 ≤ l.length := by rw [← EN.out]; omega
    have KC := Lib.hid (fcopy_any wr p l (X4.out.get (.head _)))
    go_wp2_with fail
    refine (KC.out).mono ?_
    rintro e w5 ⟨q, rfl, f1, f2, f3⟩
    have HN : Hid (q ≠ p) := by have := (X4.out.get (.head _)).lt; show _ ≠ _; omega
    have X5 := Lib.hid ((X4.out.below f3).addF f1 (Nat.le_trans X4.out.fx.bl.size f2))
    have KI := Lib.hid (fins_ok w5 p l (X5.out.get (.tail _ (.head _))) i d false (by rw [← EN.out]; exact hi) (by rw [← EN.out]; omega))
    clear f1 f2 f3 KC X4
    go_wp2_with fail
    refine (KI.out).mono ?_
    rintro e w6 ⟨rfl, k1, k2'⟩
    have X6 : Hid (XS w w6 [(p, fIns l i d false), (q, l)] _) := X5.out.put (.tail _ (.head _)) k1 k2' (fun v hv => by
      simp only [List.mem_cons, List.not_mem_nil, or_false] at hv
      subst hv
      exact ⟨.head _, HN.out⟩)
    have KI := Lib.hid (frem_ok w6 q l (X6.out.get (.tail _ (.head _))) i k2 hik)
    clear k1 k2' X5
    go_wp2_with fail
    refine (KI.out).mono ?_
    rintro e w7 ⟨rfl, k1, k2'⟩
    have X7 : Hid (XS w w7 [(q, fRem l i k2), (p, fIns l i d false)] _) := X6.out.put (.tail _ (.head _)) k1 k2' (fun v hv => by
      simp only [List.mem_cons, List.not_mem_nil, or_false] at hv
      subst hv
      exact ⟨.head _, HN.out.symm⟩)
    have KJ := insert_any w7 _ A1 r R' i d (X7.out.see (.tail _ (.head _))) (Nat.le_refl _) (NF.fits HR.out.nf) (by rw [← ER.out]; omega) ⟨by omega, by omega⟩ ⟨by omega, by omega⟩
    rw [← ER.out] at KJ
    have KJ := Lib.hid KJ
    clear k1 k2' X6 KI
    go_wp2_with fail
    refine (KJ.out).mono ?_
    intro e w8 hp
    obtain ⟨P, hP, A8, rfl, s8, b8⟩ := ins_set HR.out (by rw [← EN.out]; exact hi) (by rw [← EN.out]; omega) hd hp
    have HP := Lib.hid hP
    have X8 := Lib.hid ((X7.out.below b8).addS s8 hP.nf)
    have KJ := remove_any w8 _ A1 r R' i k2 (X8.out.see (.tail _ (.tail _ (.head _)))) (Nat.le_refl _) (NF.fits HR.out.nf) (by rw [← ER.out]; omega) ⟨by omega, by omega⟩ ⟨by omega, by omega⟩
    rw [← ER.out] at KJ
    have KJ := Lib.hid KJ
    clear hP s8 b8 hp X7
    go_wp2_with fail
    refine (KJ.out).mono ?_
    intro e w9 hp
    obtain ⟨Q, hQ, A9, rfl, s9, b9⟩ := rem_set HR.out hik (by rw [← EN.out]; omega) hp
    have HQ := Lib.hid hQ
    have X9 := Lib.hid ((X8.out.below b9).addS s9 hQ.nf)
    have KF := Lib.hid (fspans_any w9 p _ (X9.out.get (.tail _ (.head _))))
    clear hQ s9 b9 hp X8 KJ
    have lP := HP.out.len
    have lQ := HQ.out.len
    rw [fIns_len (by rw [← EN.out]; exact hi), ← EN.out] at lP
    rw [fRem_len hik, ← EN.out] at lQ
    obtain ⟨np, enp⟩ : ∃ r, r = P.length := ⟨_, rfl⟩
    have ENP := Lib.hid enp
    obtain ⟨nq, enq⟩ : ∃ r, r = Q.length := ⟨_, rfl⟩
    have ENQ := Lib.hid enq
    rw [← enp] at lP ⊢
    rw [← enq] at lQ ⊢
    clear enp enq
    go_wp2_with fail
    refine (KF.out).mono ?_
    rintro e w10 ⟨P', A10, hP', rfl, s10, b10⟩
    obtain rfl : P' = P := hP'.uniq HP.out
    have X10 := Lib.hid ((X9.out.below b10).addS s10 hP'.nf)
    have KF := Lib.hid (fspans_any w10 q _ (X10.out.get (.head _)))
    clear hP' s10 b10 X9
    rw [← ENP.out]
    go_wp2_with fail
    refine (KF.out).mono ?_
    rintro e w11 ⟨Q', A11, hQ', rfl, s11, b11⟩
    obtain rfl : Q' = Q := hQ'.uniq HQ.out
    have X11 := Lib.hid ((X10.out.below b11).addS s11 hQ'.nf)
    clear hQ' s11 b11 X10 KF
    rw [← ENQ.out]
    go_wp2_with fail
    go_loopw [23] (fun i wr => ∃ k : Nat, k ≤ np ∧ i = .int .i64 k ∧ Hid (Drawn w11 wr)) (fun i _ => np - (intOf i).toNat)
    case atStart => exact ⟨0, Nat.zero_le _, rfl, Drawn.refl _⟩
    case round =>
      obtain ⟨k, hk, rfl, hD⟩ := hrel
      have X4 := Lib.hid (X11.out.drawn hD.out)
      by_cases hlt : k < np
      · obtain ⟨b, o, rfl, _, z0, z1⟩ := SeesP.cells (X4.out.see (.tail _ (.head _))) (k := k) (by rw [← ENP.out]; exact hlt)
        obtain ⟨b', o', rfl, _, e0, e1⟩ := SeesP.cells (X4.out.see (.tail _ (.tail _ (.tail _ (.head _))))) (k := k) (by rw [← ENP.out]; exact hlt)
        generalize (sg P' k).1 = u at *
        generalize (sg P' k).2 = v at *
        have hki : (k : Int) < (np : Int) := by omega
        clear X4
        go_wp2_with fail
        go_quiet (fail)
        go_wp2_with fail
        go_roundw
        case rel => exact ⟨k + 1, by omega, by go_num, hD.out.drewN _⟩
        case measure => simp [intOf]; omega
      obtain rfl : k = np := by omega
      clear X11 hD hlt hk
      go_wp2_with fail
      go_loopw [24] (fun i ws => ∃ k : Nat, k ≤ nq ∧ i = .int .i64 k ∧ Hid (Drawn wr ws)) (fun i _ => nq - (intOf i).toNat)
      case atStart => exact ⟨0, Nat.zero_le _, rfl, Drawn.refl _⟩
      case round =>
        obtain ⟨k, hk, rfl, hD⟩ := hrel
        have X5 := Lib.hid (X4.out.drawn hD.out)
        by_cases hlt : k < nq
        · obtain ⟨b, o, rfl, _, z0, z1⟩ := SeesP.cells (X5.out.see (.head _)) (k := k) (by rw [← ENQ.out]; exact hlt)
          obtain ⟨b', o', rfl, _, e0, e1⟩ := SeesP.cells (X5.out.see (.tail _ (.tail _ (.head _)))) (k := k) (by rw [← ENQ.out]; exact hlt)
          generalize (sg Q' k).1 = u at *
          generalize (sg Q' k).2 = v at *
          have hki : (k : Int) < (nq : Int) := by omega
          clear X5
          go_wp2_with fail
          go_quiet (fail)
          go_wp2_with fail
          go_roundw
          case rel => exact ⟨k + 1, by omega, by go_num, hD.out.drewN _⟩
          case measure => simp [intOf]; omega
        obtain rfl : k = nq := by omega
        have KL := Lib.hid (lives_yes _ (X5.out.get (.head _)).tab (Nat.lt_of_lt_of_le H0.out X5.out.fx.bl.size))
        clear X4 hD hlt hk
        go_wp2_with fail
        refine (KL.out).mono ?_
        rintro e w12 ⟨rfl, hb⟩
        have Y1 := Lib.hid (X5.out.fx.below hb).bl
        clear hb KL X5
        go_wp2_with fail
        go_ret
        exact ⟨rfl, Y1.out⟩
end Go.Proofs.YteodkmndghaidaaDoor

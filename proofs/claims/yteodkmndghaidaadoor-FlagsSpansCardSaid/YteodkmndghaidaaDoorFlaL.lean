/-
  Law package 04: lives.
-/
import Derived.Test.YteodkmndghaidaaDoorFlaK
namespace Go.Proofs.YteodkmndghaidaaDoor
open Go.RowKit
set_option linter.unusedVariables false
set_option linter.unusedSimpArgs false

/-- What a function holds: some flags. -/
structure FX (w0 w : World) (ps : List (Nat × List Bool)) : Prop where
  bl : Below w0.heap.size w0 w
  fl : ∀ v ∈ ps, Fl w v.1 v.2 ∧ w0.heap.size ≤ v.1
theorem FX.start {w0 w : World} (hb : Below w0.heap.size w0 w) : FX w0 w [] := ⟨hb, fun v h => nomatch h⟩
theorem FX.get {w0 w : World} {ps : List (Nat × List Bool)} (h : FX w0 w ps) {p : Nat} {l : List Bool} (hv : (p, l) ∈ ps) : Fl w p l := (h.fl _ hv).1
theorem FX.below {w0 w w' : World} {ps : List (Nat × List Bool)} (h : FX w0 w ps) (hb : Below w.heap.size w w') : FX w0 w' ps := ⟨h.bl.trans (hb.mono h.bl.size), fun v hv => ⟨(h.fl v hv).1.below hb, (h.fl v hv).2⟩⟩
theorem FX.add {w0 w : World} {ps : List (Nat × List Bool)} (h : FX w0 w ps) {p : Nat} {l : List Bool} (hF : Fl w p l) (hp : w0.heap.size ≤ p) : FX w0 w ((p, l) :: ps) := ⟨h.bl, fun v hv => by
  rcases List.mem_cons.1 hv with rfl | hv
  · exact ⟨hF, hp⟩
  · exact h.fl v hv⟩
theorem FX.alloc {w0 w : World} {ps : List (Nat × List Bool)} (h : FX w0 w ps) (o : Obj) : FX w0 (w.alloc o) ps := h.below ((Below.refl _ w).alloc (Nat.le_refl _) o)
theorem FX.drawn {w0 w w' : World} {ps : List (Nat × List Bool)} (h : FX w0 w ps) (hd : Drawn w w') : FX w0 w' ps := h.below (hd.below _)
/-- One of them turns; the others (of a part of the list) stay. -/
theorem FX.put {w0 w w' : World} {ps ps' : List (Nat × List Bool)} (h : FX w0 w ps) {p : Nat} {l l' : List Bool} (hv : (p, l) ∈ ps) (hF : Fl w' p l') (hf : Fr (fun b => b = p) w w') (hs : ∀ v ∈ ps', v ∈ ps ∧ v.1 ≠ p) : FX w0 w' ((p, l') :: ps') := by
  have hp := (h.fl _ hv)
  refine ⟨hf.wide hp.2 h.bl, fun v hv => ?_⟩
  rcases List.mem_cons.1 hv with rfl | hv
  · exact ⟨hF, hp.2⟩
  · obtain ⟨h1, h2⟩ := hs v hv
    have := h.fl v h1
    exact ⟨this.1.fr hf h2 (by have := hp.1.pos; omega), this.2⟩
theorem FX.sub {w0 w : World} {ps ps' : List (Nat × List Bool)} (h : FX w0 w ps) (hs : ∀ v ∈ ps', v ∈ ps) : FX w0 w ps' := ⟨h.bl, fun v hv => h.fl v (hs v hv)⟩

theorem litZ (w : World) (z : List Int) : Sees (w.alloc (.cells (z.map (fun x => Value.int .i64 x)).toArray 3)) (w.heap.size + 1) (some ⟨w.heap.size, 0, none⟩) z.length (fun j => .int .i64 (z.getD j 0)) := by
  have := Sees.lit w (z.map (fun x => Value.int .i64 x)).toArray 3 (fun j => .int .i64 (z.getD j 0)) z.length (by simp) (fun j hj => by
    rw [List.getElem?_toArray, List.getElem?_map, List.getElem?_eq_getElem hj, List.getD_eq_getElem?_getD, List.getElem?_eq_getElem hj]; rfl)
  rw [World.size_alloc] at this
  exact this
theorem bits_lit (w : World) (z : List Int) (hl : z.length ≤ 1000) :
    Calls Tryd.prog 33 #[.slice (some ⟨w.heap.size, 0, none⟩) z.length z.length] (w.alloc (.cells (z.map (fun x => Value.int .i64 x)).toArray 3)) fun e w' => ∃ A' c', e = .returned (.slice A' (ofInts z).length c') ∧ SeesF w' w'.heap.size A' (ofInts z) ∧ Below w.heap.size w w' := by
  refine (bits_any _ _ z.length _ z (litZ w z) (by rw [World.size_alloc]; exact Nat.le_refl _) hl).mono ?_
  rintro e w' ⟨A', c', h1, h2, h3⟩
  exact ⟨A', c', h1, h2, ((Below.refl _ w).alloc (Nat.le_refl _) _).trans (h3.mono (by rw [World.size_alloc]; omega))⟩
theorem fNext_yes (w : World) (p : Nat) (l : List Bool) (h : Fl w p l) (i t : Nat) (v : Bool) (hi : i ≤ t) (ht : t < l.length) (hv : bt l t = v) (hb : ∀ j, i ≤ j → j < t → bt l j = !v) :
    Calls Tryd.prog 16 #[.pointer (some ⟨p, 0, none⟩), .int .i64 i, .bool v] w fun e w' => e = .returned (.tuple #[.int .i64 t, .int .i64 0]) ∧ w = w' := by
  refine (fNext_any w p l h i (by omega) v).mono ?_
  rintro e w' ⟨⟨s, rfl, h1, h2, h3, h4⟩ | ⟨rfl, h1⟩, rfl⟩
  · rcases Nat.lt_trichotomy s t with c | c | c
    · rw [hb s h1 c] at h3; cases v <;> cases h3
    · subst c; exact ⟨rfl, rfl⟩
    · rw [h4 t hi c] at hv; cases v <;> cases hv
  · rw [h1 t hi ht] at hv; cases v <;> cases hv
theorem fNext_no (w : World) (p : Nat) (l : List Bool) (h : Fl w p l) (i : Nat) (v : Bool) (hi : i ≤ l.length) (hb : ∀ j, i ≤ j → j < l.length → bt l j = !v) :
    Calls Tryd.prog 16 #[.pointer (some ⟨p, 0, none⟩), .int .i64 i, .bool v] w fun e w' => e = .returned (.tuple #[.int .i64 0, .int .i64 11]) ∧ w = w' := by
  refine (fNext_any w p l h i hi v).mono ?_
  rintro e w' ⟨⟨s, rfl, h1, h2, h3, h4⟩ | ⟨rfl, h1⟩, rfl⟩
  · rw [hb s h1 h2] at h3; cases v <;> cases h3
  · exact ⟨rfl, rfl⟩
abbrev e0 : List Bool := [false, true, true, false, true]
set_option maxRecDepth 100000 in
set_option maxHeartbeats 12800000 in
theorem lives_yes (w : World) (hT : Tab w) (h0 : 0 < w.heap.size) : Calls Tryd.prog 9 #[] w fun e w' => e = .returned (.bool true) ∧ Below w.heap.size w w' := by
  have KB := Lib.hid (bits_lit w [0, 1, 1, 0, 1] (by decide))
  have HT := Lib.hid hT
  have H0 := Lib.hid h0
  clear hT h0
  go_enter Tryd.func9, Tryd.ntmps9
  go_wp2_with fail
  refine (KB.out).mono ?_
  rintro e w1 ⟨A1, c1, rfl, s1, b1⟩
  have KM := Lib.hid (made_any w1 (HT.out.below b1 H0.out) (Nat.lt_of_lt_of_le H0.out b1.size) A1 c1 _ (ofInts [0, 1, 1, 0, 1]) s1 (Nat.le_refl _) (by decide))
  have B1 := Lib.hid b1
  clear s1 b1 KB
  go_wp2_with fail
  refine (KM.out).mono ?_
  rintro e w2 ⟨p, rfl, f1, f2, f3⟩
  have X2 : Hid (FX w w2 [(p, e0)]) := FX.add (FX.start (B1.out.trans (f3.mono B1.out.size))) f1 (Nat.le_trans B1.out.size f2)
  clear f1 f2 f3 KM B1
  have K1 : Calls Tryd.prog 12 #[.pointer (some ⟨p, 0, none⟩), .int .i64 2] w2 fun e w' => e = .returned (.tuple #[.int .i64 1, .int .i64 0]) ∧ w2 = w' := fRank_ok w2 p e0 (X2.out.get (.head _)) 2 (by decide)
  have K2 : Calls Tryd.prog 12 #[.pointer (some ⟨p, 0, none⟩), .int .i64 5] w2 fun e w' => e = .returned (.tuple #[.int .i64 3, .int .i64 0]) ∧ w2 = w' := fRank_ok w2 p e0 (X2.out.get (.head _)) 5 (by decide)
  have K3 : Calls Tryd.prog 14 #[.pointer (some ⟨p, 0, none⟩), .int .i64 0] w2 fun e w' => e = .returned (.tuple #[.int .i64 1, .int .i64 0]) ∧ w2 = w' := fSel_ok w2 p e0 (X2.out.get (.head _)) 1 rfl
  have K4 : Calls Tryd.prog 14 #[.pointer (some ⟨p, 0, none⟩), .int .i64 2] w2 fun e w' => e = .returned (.tuple #[.int .i64 4, .int .i64 0]) ∧ w2 = w' := fSel_ok w2 p e0 (X2.out.get (.head _)) 4 rfl
  have K5 := fSel_bad w2 p e0 (X2.out.get (.head _)) 3 ⟨by decide, by decide⟩ (.inr (by decide))
  have K6 : Calls Tryd.prog 15 #[.pointer (some ⟨p, 0, none⟩)] w2 fun e w' => e = .returned (.int .i64 3) ∧ w2 = w' := fcount_any w2 p e0 (X2.out.get (.head _))
  have K7 : Calls Tryd.prog 16 #[.pointer (some ⟨p, 0, none⟩), .int .i64 0, .bool true] w2 fun e w' => e = .returned (.tuple #[.int .i64 1, .int .i64 0]) ∧ w2 = w' := fNext_yes w2 p e0 (X2.out.get (.head _)) 0 1 true (by decide) (by decide) rfl (fun j a b => by
    obtain rfl : j = 0 := by omega
    rfl)
  have K8 : Calls Tryd.prog 16 #[.pointer (some ⟨p, 0, none⟩), .int .i64 3, .bool true] w2 fun e w' => e = .returned (.tuple #[.int .i64 4, .int .i64 0]) ∧ w2 = w' := fNext_yes w2 p e0 (X2.out.get (.head _)) 3 4 true (by decide) (by decide) rfl (fun j a b => by
    obtain rfl : j = 3 := by omega
    rfl)
  have K9 : Calls Tryd.prog 16 #[.pointer (some ⟨p, 0, none⟩), .int .i64 1, .bool false] w2 fun e w' => e = .returned (.tuple #[.int .i64 3, .int .i64 0]) ∧ w2 = w' := fNext_yes w2 p e0 (X2.out.get (.head _)) 1 3 false (by decide) (by decide) rfl (fun j a b => by
    have : j = 1 ∨ j = 2 := by omega
    rcases this with rfl | rfl <;> rfl)
  have K10 : Calls Tryd.prog 16 #[.pointer (some ⟨p, 0, none⟩), .int .i64 5, .bool false] w2 fun e w' => e = .returned (.tuple #[.int .i64 0, .int .i64 11]) ∧ w2 = w' := fNext_no w2 p e0 (X2.out.get (.head _)) 5 false (by decide) (fun j a b => by have : j < 5 := b; omega)
  have K1 := Lib.hid K1
  have K2 := Lib.hid K2
  have K3 := Lib.hid K3
  have K4 := Lib.hid K4
  have K5 := Lib.hid K5
  have K6 := Lib.hid K6
  have K7 := Lib.hid K7
  have K8 := Lib.hid K8
  have K9 := Lib.hid K9
  have K10 := Lib.hid K10
  go_wp2_with fail
  refine (K1.out).mono ?_
  rintro e w' ⟨rfl, rfl⟩
  go_wp2_with fail
  refine (K2.out).mono ?_
  rintro e w' ⟨rfl, rfl⟩
  go_wp2_with fail
  refine (K3.out).mono ?_
  rintro e w' ⟨rfl, rfl⟩
  go_wp2_with fail
  refine (K4.out).mono ?_
  rintro e w' ⟨rfl, rfl⟩
  go_wp2_with fail
  refine (K5.out).mono ?_
  rintro e w' ⟨rfl, rfl⟩
  go_wp2_with fail
  refine (K6.out).mono ?_
  rintro e w' ⟨rfl, rfl⟩
  go_wp2_with fail
  refine (K7.out).mono ?_
  rintro e w' ⟨rfl, rfl⟩
  go_wp2_with fail
  refine (K8.out).mono ?_
  rintro e w' ⟨rfl, rfl⟩
  go_wp2_with fail
  refine (K9.out).mono ?_
  rintro e w' ⟨rfl, rfl⟩
  go_wp2_with fail
  refine (K10.out).mono ?_
  rintro e w' ⟨rfl, rfl⟩
  go_wp2_with fail
  clear K1 K2 K3 K4 K5 K6 K7 K8 K9 K10
  have KC := Lib.hid (fcopy_any w2 p e0 (X2.out.get (.head _)))
  refine (KC.out).mono ?_
  rintro e w3 ⟨q, rfl, f1, f2, f3⟩
  have HQP : Hid (q ≠ p) := by have := (X2.out.get (.head _)).lt; show _ ≠ _; omega
  have X3 : Hid (FX w w3 [(q, e0), (p, e0)]) := (X2.out.below f3).add f1 (Nat.le_trans X2.out.bl.size f2)
  have KI := Lib.hid (fins_ok w3 p e0 (X3.out.get (.tail _ (.head _))) 1 2 true (by decide) (by decide))
  clear f1 f2 f3 KC X2
  go_wp2_with fail
  refine (KI.out).mono ?_
  rintro e w4 ⟨rfl, k1, k2⟩
  have X4 : Hid (FX w w4 [(p, fIns e0 1 2 true), (q, e0)]) := X3.out.put (.tail _ (.head _)) k1 k2 (fun v hv => by
    simp only [List.mem_cons, List.not_mem_nil, or_false] at hv
    subst hv
    exact ⟨.head _, HQP.out⟩)
  clear k1 k2 KI X3
  have KB := Lib.hid (bits_lit w4 [0, 1, 1, 1, 1, 0, 1] (by decide))
  go_wp2_with fail
  refine (KB.out).mono ?_
  rintro e w5 ⟨A5, c5, rfl, s5, b5⟩
  have X5 := Lib.hid (X4.out.below b5)
  have KS := Lib.hid (same_any w5 p (fIns e0 1 2 true) (X5.out.get (.head _)) A5 c5 _ s5 (Nat.le_refl _))
  clear s5 b5 KB X4
  go_wp2_with fail
  refine (KS.out).mono ?_
  rintro e w' ⟨rfl, rfl⟩
  go_wp2_with fail
  have KR := Lib.hid (frem_ok w5 p (fIns e0 1 2 true) (X5.out.get (.head _)) 0 4 (by decide))
  refine (KR.out).mono ?_
  rintro e w6 ⟨rfl, k1, k2⟩
  have X6 : Hid (FX w w6 [(p, fRem (fIns e0 1 2 true) 0 4), (q, e0)]) := X5.out.put (.head _) k1 k2 (fun v hv => by
    simp only [List.mem_cons, List.not_mem_nil, or_false] at hv
    subst hv
    exact ⟨.tail _ (.head _), HQP.out⟩)
  clear k1 k2 KR X5 KS
  have KB := Lib.hid (bits_lit w6 [1, 0, 1] (by decide))
  go_wp2_with fail
  refine (KB.out).mono ?_
  rintro e w7 ⟨A7, c7, rfl, s7, b7⟩
  have X7 := Lib.hid (X6.out.below b7)
  have KS := Lib.hid (same_any w7 p (fRem (fIns e0 1 2 true) 0 4) (X7.out.get (.head _)) A7 c7 _ s7 (Nat.le_refl _))
  clear s7 b7 KB X6
  go_wp2_with fail
  refine (KS.out).mono ?_
  rintro e w' ⟨rfl, rfl⟩
  go_wp2_with fail
  have KM := Lib.hid (fmov_ok w7 q e0 (X7.out.get (.tail _ (.head _))) 1 2 3 (by decide) (by decide))
  refine (KM.out).mono ?_
  rintro e w8 ⟨rfl, k1, k2⟩
  have X8 : Hid (FX w w8 [(q, fMov e0 1 2 3)]) := X7.out.put (ps' := []) (.tail _ (.head _)) k1 k2 (fun v hv => nomatch hv)
  clear k1 k2 KM X7 KS
  have KP := Lib.hid (fspans_any w8 q _ (X8.out.get (.head _)))
  go_wp2_with fail
  refine (KP.out).mono ?_
  rintro e w9 ⟨R, A9, hR, rfl, s9, b9⟩
  obtain rfl : R = [(2, 5)] := hR.uniq ⟨by simp [NF, NFfrom], fun i => by
    rw [memS_cons]
    show ((2 : Int) ≤ i ∧ i < 5) ∨ memS [] i ↔ 0 ≤ i ∧ i < 5 ∧ bt [false, false, true, true, true] i.toNat = true
    constructor
    · rintro (⟨h1, h2⟩ | h)
      · have : i = 2 ∨ i = 3 ∨ i = 4 := by omega
        rcases this with rfl | rfl | rfl <;> exact ⟨by omega, by omega, rfl⟩
      · exact absurd h (memS_nil _)
    · rintro ⟨h1, h2, h3⟩
      have : i = 0 ∨ i = 1 ∨ i = 2 ∨ i = 3 ∨ i = 4 := by omega
      rcases this with rfl | rfl | rfl | rfl | rfl
      · cases h3
      · cases h3
      · exact .inl (by omega)
      · exact .inl (by omega)
      · exact .inl (by omega)⟩
  obtain ⟨bs, os, rfl, lb, hcell⟩ := s9 (by decide)
  have d0 : w9.cell? ⟨bs, os + 0, none⟩ = some (.int .i64 2) := hcell 0 (by decide)
  have d1 : w9.cell? ⟨bs, os + 1, none⟩ = some (.int .i64 5) := hcell 1 (by decide)
  have X9 := Lib.hid (X8.out.below b9)
  have D0 := Lib.hid d0
  have D1 := Lib.hid d1
  have LB := Lib.hid lb
  clear s9 b9 KP X8 hcell hR d0 d1 lb
  have KN := Lib.hid (fnew_neg w9 (-1) (by decide))
  have KN2 := Lib.hid (fnew_big w9 4097 (by decide))
  have KG := Lib.hid (fGet_bad w9 q _ (X9.out.get (.head _)) 5 ⟨by decide, by decide⟩ (.inr (by decide)))
  go_wp2_with fail
  refine (KN.out).mono ?_
  rintro e w' ⟨rfl, rfl⟩
  go_wp2_with fail
  refine (KN2.out).mono ?_
  rintro e w' ⟨rfl, rfl⟩
  go_wp2_with fail
  refine (KG.out).mono ?_
  rintro e w' ⟨rfl, rfl⟩
  go_wp2_with fail
  clear KN KN2 KG
  have KB := Lib.hid (bits_lit w9 [0, 0, 1, 1, 1] (by decide))
  refine (KB.out).mono ?_
  rintro e w10 ⟨A10, c10, rfl, s10, b10⟩
  have X10 := Lib.hid (X9.out.below b10)
  have KS := Lib.hid (same_any w10 q (fMov e0 1 2 3) (X10.out.get (.head _)) A10 c10 _ s10 (Nat.le_refl _))
  have d0 := (b10.cell (p := ⟨bs, os + 0, none⟩) LB.out).trans D0.out
  have d1 := (b10.cell (p := ⟨bs, os + 1, none⟩) LB.out).trans D1.out
  rw [Nat.add_zero] at d0
  clear s10 b10 KB X9 D0 D1
  go_wp2_with fail
  refine (KS.out).mono ?_
  rintro e w' ⟨rfl, rfl⟩
  go_wp2_with fail
  go_ret
  exact ⟨rfl, X10.out.bl⟩
end Go.Proofs.YteodkmndghaidaaDoor

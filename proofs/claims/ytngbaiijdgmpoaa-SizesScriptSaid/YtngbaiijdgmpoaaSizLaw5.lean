/-
  SizesScript.
-/
import Derived.Test.YtngbaiijdgmpoaaSizQ
import Derived.Test.YtngbaiijdgmpoaaSizOps
namespace Go.Proofs.Ytngbaiijdgmpoaa
open Go.RowKit
set_option linter.unusedVariables false
set_option linter.unusedSimpArgs false

def box6 (a b c d e f : Value) : Nat → Value := fun j => if j = 0 then a else if j = 1 then b else if j = 2 then c else if j = 3 then d else if j = 4 then e else f
theorem box6_row (w : World) (a b c d e f : Value) (t : TypeId) : (w.alloc (.cells #[a, b, c, d, e, f] t)).rowIs w.heap.size t 6 (box6 a b c d e f) := World.rowIs_alloc w #[a, b, c, d, e, f] t _ (fun j hj => by
  have : j = 0 ∨ j = 1 ∨ j = 2 ∨ j = 3 ∨ j = 4 ∨ j = 5 := by simp at hj; omega
  rcases this with rfl | rfl | rfl | rfl | rfl | rfl <;> rfl)
structure B6 (w : World) (p : Nat) (a b c d e f : Value) : Prop where
  r : w.rowIs p 62 6 (box6 a b c d e f)
theorem B6.below {w w' : World} {p : Nat} {a b c d e f : Value} (h : B6 w p a b c d e f) (hb : Below w.heap.size w w') : B6 w' p a b c d e f := ⟨World.rowIs.of_block h.r (hb.block p (World.rowIs.lt h.r))⟩
theorem B6.cells {w : World} {p : Nat} {a b c d e f : Value} (h : B6 w p a b c d e f) : w.cell? ⟨p, 0, none⟩ = some a ∧ w.cell? ⟨p, 1, none⟩ = some b ∧ w.cell? ⟨p, 2, none⟩ = some c ∧ w.cell? ⟨p, 3, none⟩ = some d ∧ w.cell? ⟨p, 4, none⟩ = some e ∧ w.cell? ⟨p, 5, none⟩ = some f ∧ p < w.heap.size :=
  ⟨h.r.cell (i := 0) (by omega), h.r.cell (i := 1) (by omega), h.r.cell (i := 2) (by omega), h.r.cell (i := 3) (by omega), h.r.cell (i := 4) (by omega), h.r.cell (i := 5) (by omega), h.r.lt⟩
theorem toL_len (l : Nat → Int) (n : Nat) : (toL l n).length = n := by simp [toL]
theorem toLsees {w : World} {A : Option Addr} {n : Nat} {l : Nat → Int} (h : Sees w w.heap.size A n (i64s l)) : SeesL w w.heap.size A (toL l n) := by
  intro hn
  rw [toL_len] at hn
  obtain ⟨b, o, h1, h2, h3⟩ := h hn
  refine ⟨b, o, h1, h2, fun j hj => ?_⟩
  rw [toL_len] at hj
  rw [h3 j hj, i64s_at, i64s_at, lf_toL _ _ _ hj]
theorem ckZ_cases (l : Nat → Int) : ∀ k, ckZ l k = 0 ∨ ckZ l k = 12 ∨ ckZ l k = 13 := by
  intro k
  induction k with
  | zero => exact .inl rfl
  | succ k ih =>
    by_cases h : ckZ l k = 0
    · rw [ckZ_fault l h]
      unfold faultV
      split
      · exact .inr (.inl rfl)
      · split
        · exact .inr (.inr rfl)
        · exact .inl rfl
    · rw [ckZ_stays l h (Nat.le_succ k)]
      exact ih
theorem fit1 (R : Rws) (i : Int) (Z : List Int) : Fits (iinsErr R i Z) := by
  unfold iinsErr
  have := ckZ_cases (lf Z) Z.length
  split
  · constructor <;> omega
  · split
    · constructor <;> omega
    · split
      · rcases this with h | h | h <;> rw [h] <;> constructor <;> omega
      · split <;> constructor <;> omega
theorem fit2 (R : Rws) (i n : Int) : Fits (iremErr R i n) := by unfold iremErr cutErr; split <;> constructor <;> omega
theorem fit3 (R : Rws) (i n t : Int) : Fits (imovErr R i n t) := by unfold imovErr movErr; split <;> constructor <;> omega
theorem fit4 (R : Rws) (i v : Int) : Fits (isetErr R i v) := by
  unfold isetErr
  split
  · constructor <;> omega
  · split
    · constructor <;> omega
    · split <;> constructor <;> omega
set_option maxRecDepth 100000 in
set_option maxHeartbeats 12800000 in
theorem law_script (A : Option Addr) (n c : Nat) (f : Nat → Int) (g : Bool) (A2 : Option Addr) (n2 c2 : Nat) (F : Nat → Value) (w : World)
    (hs : Sees w w.heap.size A n (u8r f)) (hf : ∀ j, 0 ≤ f j ∧ f j ≤ 255) (hnc : n ≤ c) (hc : c ≤ maxLen) (hs2 : Sees w w.heap.size A2 (n2 * 6) F) (hf2 : ∀ i, i < n2 → StepAt w F i) (hnc2 : n2 ≤ c2) (hc2 : c2 ≤ maxLen) :
    Calls Try.prog 6 #[.agg #[.slice A n c, .bool g], .slice A2 n2 c2] w fun e w' => e = .returned (.bool true) ∧ Below w.heap.size w w' := by
  have HS2 := Lib.hid hs2
  have HF2 := Lib.hid hf2
  clear hs2 hf2
  by_cases hbig : 15 < n2
  · clear hs hf hnc hc hnc2 hc2
    go_enter Try.func6, Try.ntmps6
    go_wp2_with fail
    refine (lives_yes _).mono ?_
    rintro e w2 ⟨rfl, hb2⟩
    have HB : Hid (Below w.heap.size w w2) := ((Below.refl _ w).alloc (Nat.le_refl _) _).trans (hb2.mono (by rw [World.size_alloc]; omega))
    clear hb2
    go_wp2_with fail
    go_ret
    exact ⟨rfl, HB.out⟩
  have hn15 : n2 ≤ 15 := by omega
  clear hbig
  have OK := Lib.hid (irows_ok f n g)
  have b0 : Below w.heap.size w (w.alloc (.cells #[.slice A n c, .bool g] 24)) := (Below.refl _ w).alloc (Nat.le_refl _) _
  have VR := Lib.hid (World.rowIs_alloc w #[.slice A n c, .bool g] 24 (fun j => if j = 0 then .slice A n c else .bool g) (fun j hj => by
    have : j = 0 ∨ j = 1 := by simp at hj; omega
    rcases this with rfl | rfl <;> rfl))
  have HS0 := (hs.below b0)
  have hm : n ≤ maxLen := Nat.le_trans hnc hc
  have KR := Lib.hid (Rows_any (w.alloc (.cells #[.slice A n c, .bool g] 24)) A n c f g (HS0.more b0.size) (fun j _ => hf j) hm)
  have KO : Hid (∀ W, Below (w.alloc (.cells #[.slice A n c, .bool g] 24)).heap.size (w.alloc (.cells #[.slice A n c, .bool g] 24)) W → _) := fun W (hW : Below (w.alloc (.cells #[.slice A n c, .bool g] 24)).heap.size (w.alloc (.cells #[.slice A n c, .bool g] 24)) W) => Of_any W A n c f g ((HS0.below (hW.mono b0.size)).more (Nat.le_trans b0.size hW.size)) (fun j _ => hf j) hm
  have L0 := Lib.hid (LX.start b0)
  have lw : w.heap.size < (w.alloc (.cells #[.slice A n c, .bool g] 24)).heap.size := by rw [World.size_alloc]; omega
  generalize irows f n g = R at KR KO OK
  clear hs hf hnc HS0 hm b0
  go_enter Try.func6, Try.ntmps6
  go_wp2_with fail
  change Calls Try.prog _ _ (w.alloc (.cells #[.slice A n c, .bool g] 24)) _
  generalize w.alloc (.cells #[.slice A n c, .bool g] 24) = w0 at KR KO L0 VR lw ⊢
  refine (KR.out).mono ?_
  rintro e w1 ⟨A1, c1, rfl, p1, p2, p3, p4⟩
  have L1 := Lib.hid ((L0.out.below p2).add p1)
  have B1 := Lib.hid p2
  have V1 := Lib.hid (World.rowIs.of_block VR.out (p2.block _ lw))
  have v1 := V1.out.cell (i := 0) (by simp)
  have v2 := V1.out.cell (i := 1) (by simp)
  rw [if_pos rfl] at v1
  rw [if_neg (by decide)] at v2
  have lw1 := World.rowIs.lt V1.out
  clear p1 p2 KR
  go_wp2_with fail
  refine (KO.out _ B1.out).mono ?_
  rintro e w2 ⟨a, A', S, rfl, p1, p2⟩
  have L2 := Lib.hid ((L1.out.below p2).cons p1)
  clear p1 p2 KO v1 v2 lw1 V1
  have KS := Lib.hid (same_any (ixw w2 a A' S.length) a A' S R (L2.out.get (.head _)).ix A1 c1 _ (L2.out.see (.head _)) (Nat.le_refl _) 0 ⟨by omega, by omega⟩)
  obtain ⟨x1, x2, x3, x4, _, lx⟩ := L2.out.get (.head _)
  have hlen := OK.out.len
  obtain ⟨m, em⟩ : ∃ m, m = R.length := ⟨_, rfl⟩
  have EM := Lib.hid em
  rw [← em] at KS hlen p3 ⊢
  clear em
  go_wp2_with fail
  refine (KS.out).mono ?_
  rintro e w3 ⟨rfl, hb⟩
  have L3 := Lib.hid (L2.out.below hb)
  clear hb x1 x2 x3 x4 lx KS
  obtain ⟨x1, x2, x3, x4, _, lx⟩ := L3.out.get (.head _)
  go_wp2_with fail
  have P3 := Lib.hid p3
  have P4 := Lib.hid p4
  go_loopw [5, 7] (fun wv i wr => ∃ (k : Nat) (W : Rws) (Aw : Option Addr) (cw : Nat) (a : Option Addr) (A' : Option Addr) (S : Sp), k ≤ n2 ∧ wv = .slice Aw W.length cw ∧ i = .int .i64 k ∧ Hid (W.length ≤ cw) ∧ Hid (cw ≤ maxLen) ∧ Hid (LX w wr [(w2.heap.size, a, A', S, W)] [(Aw, W)])) (fun _ i _ => n2 - (intOf i).toNat)
  case atStart => exact ⟨0, R, A1, c1, a, A', S, Nat.zero_le _, by rw [EM.out], rfl, by rw [← EM.out]; exact P3.out, P4.out, L3⟩
  case round =>
    obtain ⟨k, W, Aw, cw, a, A', S, hk, rfl, rfl, hwc, hcm, L4⟩ := hrel
    clear L3 x1 x2 x3 x4 lx P3 P4
    obtain ⟨nW, enW⟩ : ∃ n, n = W.length := ⟨_, rfl⟩
    have EW := Lib.hid enW
    rw [← enW]
    clear enW
    by_cases hlt : k < n2
    · obtain ⟨kd, at_, m_, x, z, As, ns, cs, ls, e0, e1, e2, e3, e4, e5, fk, fa, fm, fx, fz, ss, fs, hns, hcs⟩ := HF2.out k hlt
      obtain ⟨b2, o2, rfl, hb2, hcell⟩ := HS2.out (by omega)
      have d0 := (L4.out.bl.cell (p := ⟨b2, o2 + k * 6, none⟩) hb2).trans (hcell (k * 6) (by omega))
      have d1 := (L4.out.bl.cell (p := ⟨b2, o2 + k * 6 + 1, none⟩) hb2).trans (hcell (k * 6 + 1) (by omega))
      have d2 := (L4.out.bl.cell (p := ⟨b2, o2 + k * 6 + 2, none⟩) hb2).trans (hcell (k * 6 + 2) (by omega))
      have d3 := (L4.out.bl.cell (p := ⟨b2, o2 + k * 6 + 3, none⟩) hb2).trans (hcell (k * 6 + 3) (by omega))
      have d4 := (L4.out.bl.cell (p := ⟨b2, o2 + k * 6 + 4, none⟩) hb2).trans (hcell (k * 6 + 4) (by omega))
      have d5 := (L4.out.bl.cell (p := ⟨b2, o2 + k * 6 + 5, none⟩) hb2).trans (hcell (k * 6 + 5) (by omega))
      rw [e0] at d0
      rw [e1] at d1
      rw [e2] at d2
      rw [e3] at d3
      rw [e4] at d4
      rw [e5] at d5
      clear e0 e1 e2 e3 e4 e5 hcell
      have hki : (k : Int) < (n2 : Int) := by omega
      have SS := Lib.hid ss
      have FS := Lib.hid fs
      have HCS := Lib.hid hcs
      have HNS := Lib.hid hns
      clear ss fs hns hcs
      obtain ⟨fk0, fk1⟩ := fk
      by_cases hb20 : 20 < ns
      · go_wp2_with fail
        refine (lives_yes _).mono ?_
        rintro e w5 ⟨rfl, hb⟩
        have Y1 := Lib.hid (((L4.out.alloc _).below hb).bl)
        clear hb
        go_wp2_with fail
        go_ret
        exact ⟨rfl, Y1.out⟩
      have hSl : (toL ls ns).length = ns := toL_len ls ns
      have HSS := Lib.hid (toLsees SS.out)
      have HFS : Hid (∀ x ∈ toL ls ns, Fits x) := fun x hx => by
        obtain ⟨j, hj, rfl⟩ := List.mem_iff_getElem.1 hx
        rw [← lf_get _ hj, lf_toL _ _ _ (by rw [hSl] at hj; exact hj)]
        exact FS.out j
      obtain ⟨Z, eZ⟩ : ∃ Z, Z = toL ls ns := ⟨_, rfl⟩
      rw [← eZ] at hSl HSS HFS
      have ESL := Lib.hid hSl
      obtain ⟨wn, ewn⟩ : ∃ wn, wn = (wr.alloc (.cells #[.int .u8 kd, .int .i64 at_, .int .i64 m_, .int .i64 x, .int .i64 z, .slice As ns cs] 62)).alloc (.cells #[.pointer none, .slice none 0 0] 34) := ⟨_, rfl⟩
      have BX : Hid (B6 wn wr.heap.size (.int .u8 kd) (.int .i64 at_) (.int .i64 m_) (.int .i64 x) (.int .i64 z) (.slice As ns cs)) := by rw [ewn]; exact ⟨(box6_row wr _ _ _ _ _ _ _).alloc _⟩
      have hne : w2.heap.size ≠ wr.heap.size + 1 := by have := (L4.out.get (.head _)).lt; omega
      have XN : Hid (LX w wn [(wr.heap.size + 1, none, none, [], []), (w2.heap.size, a, A', S, W)] [(Aw, W)]) := by
        have h1 := (L4.out.alloc (.cells #[.int .u8 kd, .int .i64 at_, .int .i64 m_, .int .i64 x, .int .i64 z, .slice As ns cs] 62)).cons (Ix.new _)
        rw [World.size_alloc] at h1
        rw [ewn]
        exact h1
      have EWN := Lib.hid ewn
      have OKW := (L4.out.get (.head _)).ix.ok
      have LEW := (L4.out.get (.head _)).ix.le
      have zb : B6 wn wr.heap.size (.int .u8 kd) (.int .i64 at_) (.int .i64 m_) (.int .i64 x) (.int .i64 z) (.slice As ns cs) := BX.out
      have nsl : ns ≤ 20 := by omega
      clear hSl ewn eZ zb SS FS
      have hk4 : kd % 4 = 0 ∨ kd % 4 = 1 ∨ kd % 4 = 2 ∨ kd % 4 = 3 := by omega
      rcases hk4 with hk4 | hk4 | hk4 | hk4
      · -- ESL.out ▸ rInsert_any wn Aw As cw cs _ _ W Z (XN.out.see (.head _)) (HSS.out.below XN.out.bl) (Nat.le_refl _) XN.out.bl.size hwc.out hcm.out (by omega) (by rw [ESL.out]; omega) HFS.out OKW at_ (Int.tmod x 2 != 0) fa the reference's contract at wn, ESL.out ▸ iinsert_any W' a A' S W g at_ As cs w.heap.size Z (Int.tmod x 2 != 0) fa (HSS.out.below hW) hW.size (by rw [ESL.out]; exact HNS.out) HCS.out (by rw [ESL.out]; omega) HFS.out the index's at any world above, iinsTo W at_ Z (Int.tmod x 2 != 0) rows, iinsErr W at_ Z error, fit1 W at_ Z its bounds
        have K1 := ESL.out ▸ rInsert_any wn Aw As cw cs _ _ W Z (XN.out.see (.head _)) (HSS.out.below XN.out.bl) (Nat.le_refl _) XN.out.bl.size hwc.out hcm.out (by omega) (by rw [ESL.out]; omega) HFS.out OKW at_ (Int.tmod x 2 != 0) fa
        have K2 := fun W' (g : Ix W' a A' S W) (hW : Below w.heap.size w W') => ESL.out ▸ iinsert_any W' a A' S W g at_ As cs w.heap.size Z (Int.tmod x 2 != 0) fa (HSS.out.below hW) hW.size (by rw [ESL.out]; exact HNS.out) HCS.out (by rw [ESL.out]; omega) HFS.out
        have FE := fit1 W at_ Z
        generalize iinsTo W at_ Z (Int.tmod x 2 != 0) = NR at K1 K2
        generalize iinsErr W at_ Z = er at K1 K2 FE
        rw [← EW.out] at K1
        have K1 := Lib.hid K1
        have K2 := Lib.hid K2
        go_wp2_with fail
        rw [← EWN.out]
        refine (K1.out).mono ?_
        rintro e w5 ⟨Ar, cr, rfl, p1, hb, p2, p3⟩
        have X5 := Lib.hid ((XN.out.below hb).add p1)
        have BX5 := Lib.hid (BX.out.below hb)
        have HP2 := Lib.hid p2
        have HP3 := Lib.hid p3
        have K3 := Lib.hid (K2.out w5 (X5.out.get (.tail _ (.head _))).ix X5.out.bl)
        clear hb p1 p2 p3 K1 K2 d0 d1 d2 d3 d4 d5
        obtain ⟨d0, d1, d2, d3, d4, d5, dl⟩ := BX5.out.cells
        obtain ⟨x1, x2, x3, x4, _, lx⟩ := X5.out.get (.tail _ (.head _))
        go_wp2_with fail
        refine (K3.out).mono ?_
        rintro e w6 ⟨an, An, Sn, rfl, p1, hb⟩
        have X6 := Lib.hid (X5.out.below hb)
        clear hb K3 d0 d1 d2 d3 d4 d5 dl x1 x2 x3 x4 lx
        obtain ⟨y1, y2, y3, y4, ly⟩ := X6.out.get0 (.head _)
        have X7 := X6.out.put (.head _) p1 [(w2.heap.size, a, A', S, W)] (by
          intro z hz
          simp only [List.mem_cons, List.not_mem_nil, or_false] at hz
          subst hz
          exact ⟨.tail _ (.head _), hne⟩)
        obtain ⟨w7, e7⟩ : ∃ w7, w7 = (w6.setCell ⟨wr.heap.size + 1, 0, none⟩ (.pointer an)).setCell ⟨wr.heap.size + 1, 1, none⟩ (.slice An Sn.length Sn.length) := ⟨_, rfl⟩
        rw [← e7] at X7
        have X7 := Lib.hid X7
        have E7 := Lib.hid e7
        clear p1 e7
        have K8 := Lib.hid (same_any w7 an An Sn NR (X7.out.get (.head _)).ix Ar cr _ (X7.out.see (.head _)) (Nat.le_refl _) er FE)
        obtain ⟨nN, enN⟩ : ∃ n, n = NR.length := ⟨_, rfl⟩
        rw [← enN] at K8 HP2 ⊢
        have ENN := Lib.hid enN
        clear enN FE
        go_wp2_with fail
        rw [← E7.out]
        refine (K8.out).mono ?_
        rintro e w8 ⟨rfl, hb⟩
        have X8 := Lib.hid (X7.out.below hb)
        clear hb K8 y1 y2 y3 y4 ly X7
        obtain ⟨x1, x2, x3, x4, _, lx⟩ := X8.out.get (.tail _ (.head _))
        have K9 := Lib.hid (same_any w8 a A' S W (X8.out.get (.tail _ (.head _))).ix Aw cw _ (X8.out.see (.tail _ (.head _))) (Nat.le_refl _) 0 ⟨by omega, by omega⟩)
        rw [← EW.out] at K9
        go_wp2_with fail
        refine (K9.out).mono ?_
        rintro e w9 ⟨rfl, hb⟩
        have X9 := Lib.hid (X8.out.below hb)
        clear hb K9 X8 x1 x2 x3 x4 lx
        by_cases f0 : er = 0
        · subst f0
          obtain ⟨y1, y2, y3, y4, iy, ly⟩ := X9.out.get (.head _)
          obtain ⟨x1, x2, x3, x4, _, lx⟩ := X9.out.get (.tail _ (.head _))
          have X10 := Lib.hid ((X9.out.put1 (.tail _ (.head _)) iy).sub (qs' := [(Ar, NR)]) (fun _ h => h) (fun v hv => by rcases List.mem_cons.1 hv with rfl | h; exact .head _; cases h))
          clear iy
          go_wp2_with fail
          go_roundw
          case rel => exact ⟨k + 1, NR, Ar, cr, an, An, Sn, by omega, by rw [ENN.out], by go_num, by rw [← ENN.out]; exact HP2.out, HP3.out, X10.out⟩
          case measure => simp [intOf]; omega
        · have f1 : (er == 0) = false := by rw [beq_eq_false_iff_ne]; exact f0
          have X10 := Lib.hid (X9.out.sub (ps' := [(w2.heap.size, a, A', S, W)]) (qs' := [(Aw, W)]) (fun v hv => by rcases List.mem_cons.1 hv with rfl | h; exact .tail _ (.head _); cases h) (fun v hv => by rcases List.mem_cons.1 hv with rfl | h; exact .tail _ (.head _); cases h))
          go_wp2_with fail
          go_roundw
          case rel => exact ⟨k + 1, W, Aw, cw, a, A', S, by omega, by rw [EW.out], by go_num, hwc.out, hcm.out, X10.out⟩
          case measure => simp [intOf]; omega
      · -- rRemove_any wn Aw cw _ W (XN.out.see (.head _)) (Nat.le_refl _) hwc.out hcm.out (by omega) at_ m_ fa fm the reference's contract at wn, iremove_any W' a A' S W g at_ m_ the index's at any world above, iremTo W at_ m_ rows, iremErr W at_ m_ error, fit2 W at_ m_ its bounds
        have K1 := rRemove_any wn Aw cw _ W (XN.out.see (.head _)) (Nat.le_refl _) hwc.out hcm.out (by omega) at_ m_ fa fm
        have K2 := fun W' (g : Ix W' a A' S W) (hW : Below w.heap.size w W') => iremove_any W' a A' S W g at_ m_
        have FE := fit2 W at_ m_
        generalize iremTo W at_ m_ = NR at K1 K2
        generalize iremErr W at_ m_ = er at K1 K2 FE
        rw [← EW.out] at K1
        have K1 := Lib.hid K1
        have K2 := Lib.hid K2
        go_wp2_with fail
        rw [← EWN.out]
        refine (K1.out).mono ?_
        rintro e w5 ⟨Ar, cr, rfl, p1, hb, p2, p3⟩
        have X5 := Lib.hid ((XN.out.below hb).add p1)
        have BX5 := Lib.hid (BX.out.below hb)
        have HP2 := Lib.hid p2
        have HP3 := Lib.hid p3
        have K3 := Lib.hid (K2.out w5 (X5.out.get (.tail _ (.head _))).ix X5.out.bl)
        clear hb p1 p2 p3 K1 K2 d0 d1 d2 d3 d4 d5
        obtain ⟨d0, d1, d2, d3, d4, d5, dl⟩ := BX5.out.cells
        obtain ⟨x1, x2, x3, x4, _, lx⟩ := X5.out.get (.tail _ (.head _))
        go_wp2_with fail
        refine (K3.out).mono ?_
        rintro e w6 ⟨an, An, Sn, rfl, p1, hb⟩
        have X6 := Lib.hid (X5.out.below hb)
        clear hb K3 d0 d1 d2 d3 d4 d5 dl x1 x2 x3 x4 lx
        obtain ⟨y1, y2, y3, y4, ly⟩ := X6.out.get0 (.head _)
        have X7 := X6.out.put (.head _) p1 [(w2.heap.size, a, A', S, W)] (by
          intro z hz
          simp only [List.mem_cons, List.not_mem_nil, or_false] at hz
          subst hz
          exact ⟨.tail _ (.head _), hne⟩)
        obtain ⟨w7, e7⟩ : ∃ w7, w7 = (w6.setCell ⟨wr.heap.size + 1, 0, none⟩ (.pointer an)).setCell ⟨wr.heap.size + 1, 1, none⟩ (.slice An Sn.length Sn.length) := ⟨_, rfl⟩
        rw [← e7] at X7
        have X7 := Lib.hid X7
        have E7 := Lib.hid e7
        clear p1 e7
        have K8 := Lib.hid (same_any w7 an An Sn NR (X7.out.get (.head _)).ix Ar cr _ (X7.out.see (.head _)) (Nat.le_refl _) er FE)
        obtain ⟨nN, enN⟩ : ∃ n, n = NR.length := ⟨_, rfl⟩
        rw [← enN] at K8 HP2 ⊢
        have ENN := Lib.hid enN
        clear enN FE
        go_wp2_with fail
        rw [← E7.out]
        refine (K8.out).mono ?_
        rintro e w8 ⟨rfl, hb⟩
        have X8 := Lib.hid (X7.out.below hb)
        clear hb K8 y1 y2 y3 y4 ly X7
        obtain ⟨x1, x2, x3, x4, _, lx⟩ := X8.out.get (.tail _ (.head _))
        have K9 := Lib.hid (same_any w8 a A' S W (X8.out.get (.tail _ (.head _))).ix Aw cw _ (X8.out.see (.tail _ (.head _))) (Nat.le_refl _) 0 ⟨by omega, by omega⟩)
        rw [← EW.out] at K9
        go_wp2_with fail
        refine (K9.out).mono ?_
        rintro e w9 ⟨rfl, hb⟩
        have X9 := Lib.hid (X8.out.below hb)
        clear hb K9 X8 x1 x2 x3 x4 lx
        by_cases f0 : er = 0
        · subst f0
          obtain ⟨y1, y2, y3, y4, iy, ly⟩ := X9.out.get (.head _)
          obtain ⟨x1, x2, x3, x4, _, lx⟩ := X9.out.get (.tail _ (.head _))
          have X10 := Lib.hid ((X9.out.put1 (.tail _ (.head _)) iy).sub (qs' := [(Ar, NR)]) (fun _ h => h) (fun v hv => by rcases List.mem_cons.1 hv with rfl | h; exact .head _; cases h))
          clear iy
          go_wp2_with fail
          go_roundw
          case rel => exact ⟨k + 1, NR, Ar, cr, an, An, Sn, by omega, by rw [ENN.out], by go_num, by rw [← ENN.out]; exact HP2.out, HP3.out, X10.out⟩
          case measure => simp [intOf]; omega
        · have f1 : (er == 0) = false := by rw [beq_eq_false_iff_ne]; exact f0
          have X10 := Lib.hid (X9.out.sub (ps' := [(w2.heap.size, a, A', S, W)]) (qs' := [(Aw, W)]) (fun v hv => by rcases List.mem_cons.1 hv with rfl | h; exact .tail _ (.head _); cases h) (fun v hv => by rcases List.mem_cons.1 hv with rfl | h; exact .tail _ (.head _); cases h))
          go_wp2_with fail
          go_roundw
          case rel => exact ⟨k + 1, W, Aw, cw, a, A', S, by omega, by rw [EW.out], by go_num, hwc.out, hcm.out, X10.out⟩
          case measure => simp [intOf]; omega
      · -- rMove_any wn Aw cw _ W (XN.out.see (.head _)) (Nat.le_refl _) hwc.out hcm.out (by omega) at_ m_ x fa fm fx the reference's contract at wn, imove_any W' a A' S W g at_ m_ x fx the index's at any world above, imovTo W at_ m_ x rows, imovErr W at_ m_ x error, fit3 W at_ m_ x its bounds
        have K1 := rMove_any wn Aw cw _ W (XN.out.see (.head _)) (Nat.le_refl _) hwc.out hcm.out (by omega) at_ m_ x fa fm fx
        have K2 := fun W' (g : Ix W' a A' S W) (hW : Below w.heap.size w W') => imove_any W' a A' S W g at_ m_ x fx
        have FE := fit3 W at_ m_ x
        generalize imovTo W at_ m_ x = NR at K1 K2
        generalize imovErr W at_ m_ x = er at K1 K2 FE
        rw [← EW.out] at K1
        have K1 := Lib.hid K1
        have K2 := Lib.hid K2
        go_wp2_with fail
        rw [← EWN.out]
        refine (K1.out).mono ?_
        rintro e w5 ⟨Ar, cr, rfl, p1, hb, p2, p3⟩
        have X5 := Lib.hid ((XN.out.below hb).add p1)
        have BX5 := Lib.hid (BX.out.below hb)
        have HP2 := Lib.hid p2
        have HP3 := Lib.hid p3
        have K3 := Lib.hid (K2.out w5 (X5.out.get (.tail _ (.head _))).ix X5.out.bl)
        clear hb p1 p2 p3 K1 K2 d0 d1 d2 d3 d4 d5
        obtain ⟨d0, d1, d2, d3, d4, d5, dl⟩ := BX5.out.cells
        obtain ⟨x1, x2, x3, x4, _, lx⟩ := X5.out.get (.tail _ (.head _))
        go_wp2_with fail
        refine (K3.out).mono ?_
        rintro e w6 ⟨an, An, Sn, rfl, p1, hb⟩
        have X6 := Lib.hid (X5.out.below hb)
        clear hb K3 d0 d1 d2 d3 d4 d5 dl x1 x2 x3 x4 lx
        obtain ⟨y1, y2, y3, y4, ly⟩ := X6.out.get0 (.head _)
        have X7 := X6.out.put (.head _) p1 [(w2.heap.size, a, A', S, W)] (by
          intro z hz
          simp only [List.mem_cons, List.not_mem_nil, or_false] at hz
          subst hz
          exact ⟨.tail _ (.head _), hne⟩)
        obtain ⟨w7, e7⟩ : ∃ w7, w7 = (w6.setCell ⟨wr.heap.size + 1, 0, none⟩ (.pointer an)).setCell ⟨wr.heap.size + 1, 1, none⟩ (.slice An Sn.length Sn.length) := ⟨_, rfl⟩
        rw [← e7] at X7
        have X7 := Lib.hid X7
        have E7 := Lib.hid e7
        clear p1 e7
        have K8 := Lib.hid (same_any w7 an An Sn NR (X7.out.get (.head _)).ix Ar cr _ (X7.out.see (.head _)) (Nat.le_refl _) er FE)
        obtain ⟨nN, enN⟩ : ∃ n, n = NR.length := ⟨_, rfl⟩
        rw [← enN] at K8 HP2 ⊢
        have ENN := Lib.hid enN
        clear enN FE
        go_wp2_with fail
        rw [← E7.out]
        refine (K8.out).mono ?_
        rintro e w8 ⟨rfl, hb⟩
        have X8 := Lib.hid (X7.out.below hb)
        clear hb K8 y1 y2 y3 y4 ly X7
        obtain ⟨x1, x2, x3, x4, _, lx⟩ := X8.out.get (.tail _ (.head _))
        have K9 := Lib.hid (same_any w8 a A' S W (X8.out.get (.tail _ (.head _))).ix Aw cw _ (X8.out.see (.tail _ (.head _))) (Nat.le_refl _) 0 ⟨by omega, by omega⟩)
        rw [← EW.out] at K9
        go_wp2_with fail
        refine (K9.out).mono ?_
        rintro e w9 ⟨rfl, hb⟩
        have X9 := Lib.hid (X8.out.below hb)
        clear hb K9 X8 x1 x2 x3 x4 lx
        by_cases f0 : er = 0
        · subst f0
          obtain ⟨y1, y2, y3, y4, iy, ly⟩ := X9.out.get (.head _)
          obtain ⟨x1, x2, x3, x4, _, lx⟩ := X9.out.get (.tail _ (.head _))
          have X10 := Lib.hid ((X9.out.put1 (.tail _ (.head _)) iy).sub (qs' := [(Ar, NR)]) (fun _ h => h) (fun v hv => by rcases List.mem_cons.1 hv with rfl | h; exact .head _; cases h))
          clear iy
          go_wp2_with fail
          go_roundw
          case rel => exact ⟨k + 1, NR, Ar, cr, an, An, Sn, by omega, by rw [ENN.out], by go_num, by rw [← ENN.out]; exact HP2.out, HP3.out, X10.out⟩
          case measure => simp [intOf]; omega
        · have f1 : (er == 0) = false := by rw [beq_eq_false_iff_ne]; exact f0
          have X10 := Lib.hid (X9.out.sub (ps' := [(w2.heap.size, a, A', S, W)]) (qs' := [(Aw, W)]) (fun v hv => by rcases List.mem_cons.1 hv with rfl | h; exact .tail _ (.head _); cases h) (fun v hv => by rcases List.mem_cons.1 hv with rfl | h; exact .tail _ (.head _); cases h))
          go_wp2_with fail
          go_roundw
          case rel => exact ⟨k + 1, W, Aw, cw, a, A', S, by omega, by rw [EW.out], by go_num, hwc.out, hcm.out, X10.out⟩
          case measure => simp [intOf]; omega
      · -- rSet_any wn Aw cw _ W (XN.out.see (.head _)) (Nat.le_refl _) hwc.out hcm.out (by omega) OKW at_ z (Int.tmod x 2 != 0) fa fz the reference's contract at wn, iset_any W' a A' S W g at_ z (Int.tmod x 2 != 0) fa fz the index's at any world above, isetTo W at_ z (Int.tmod x 2 != 0) rows, isetErr W at_ z error, fit4 W at_ z its bounds
        have K1 := rSet_any wn Aw cw _ W (XN.out.see (.head _)) (Nat.le_refl _) hwc.out hcm.out (by omega) OKW at_ z (Int.tmod x 2 != 0) fa fz
        have K2 := fun W' (g : Ix W' a A' S W) (hW : Below w.heap.size w W') => iset_any W' a A' S W g at_ z (Int.tmod x 2 != 0) fa fz
        have FE := fit4 W at_ z
        generalize isetTo W at_ z (Int.tmod x 2 != 0) = NR at K1 K2
        generalize isetErr W at_ z = er at K1 K2 FE
        rw [← EW.out] at K1
        have K1 := Lib.hid K1
        have K2 := Lib.hid K2
        go_wp2_with fail
        rw [← EWN.out]
        refine (K1.out).mono ?_
        rintro e w5 ⟨Ar, cr, rfl, p1, hb, p2, p3⟩
        have X5 := Lib.hid ((XN.out.below hb).add p1)
        have BX5 := Lib.hid (BX.out.below hb)
        have HP2 := Lib.hid p2
        have HP3 := Lib.hid p3
        have K3 := Lib.hid (K2.out w5 (X5.out.get (.tail _ (.head _))).ix X5.out.bl)
        clear hb p1 p2 p3 K1 K2 d0 d1 d2 d3 d4 d5
        obtain ⟨d0, d1, d2, d3, d4, d5, dl⟩ := BX5.out.cells
        obtain ⟨x1, x2, x3, x4, _, lx⟩ := X5.out.get (.tail _ (.head _))
        go_wp2_with fail
        refine (K3.out).mono ?_
        rintro e w6 ⟨an, An, Sn, rfl, p1, hb⟩
        have X6 := Lib.hid (X5.out.below hb)
        clear hb K3 d0 d1 d2 d3 d4 d5 dl x1 x2 x3 x4 lx
        obtain ⟨y1, y2, y3, y4, ly⟩ := X6.out.get0 (.head _)
        have X7 := X6.out.put (.head _) p1 [(w2.heap.size, a, A', S, W)] (by
          intro z hz
          simp only [List.mem_cons, List.not_mem_nil, or_false] at hz
          subst hz
          exact ⟨.tail _ (.head _), hne⟩)
        obtain ⟨w7, e7⟩ : ∃ w7, w7 = (w6.setCell ⟨wr.heap.size + 1, 0, none⟩ (.pointer an)).setCell ⟨wr.heap.size + 1, 1, none⟩ (.slice An Sn.length Sn.length) := ⟨_, rfl⟩
        rw [← e7] at X7
        have X7 := Lib.hid X7
        have E7 := Lib.hid e7
        clear p1 e7
        have K8 := Lib.hid (same_any w7 an An Sn NR (X7.out.get (.head _)).ix Ar cr _ (X7.out.see (.head _)) (Nat.le_refl _) er FE)
        obtain ⟨nN, enN⟩ : ∃ n, n = NR.length := ⟨_, rfl⟩
        rw [← enN] at K8 HP2 ⊢
        have ENN := Lib.hid enN
        clear enN FE
        go_wp2_with fail
        rw [← E7.out]
        refine (K8.out).mono ?_
        rintro e w8 ⟨rfl, hb⟩
        have X8 := Lib.hid (X7.out.below hb)
        clear hb K8 y1 y2 y3 y4 ly X7
        obtain ⟨x1, x2, x3, x4, _, lx⟩ := X8.out.get (.tail _ (.head _))
        have K9 := Lib.hid (same_any w8 a A' S W (X8.out.get (.tail _ (.head _))).ix Aw cw _ (X8.out.see (.tail _ (.head _))) (Nat.le_refl _) 0 ⟨by omega, by omega⟩)
        rw [← EW.out] at K9
        go_wp2_with fail
        refine (K9.out).mono ?_
        rintro e w9 ⟨rfl, hb⟩
        have X9 := Lib.hid (X8.out.below hb)
        clear hb K9 X8 x1 x2 x3 x4 lx
        by_cases f0 : er = 0
        · subst f0
          obtain ⟨y1, y2, y3, y4, iy, ly⟩ := X9.out.get (.head _)
          obtain ⟨x1, x2, x3, x4, _, lx⟩ := X9.out.get (.tail _ (.head _))
          have X10 := Lib.hid ((X9.out.put1 (.tail _ (.head _)) iy).sub (qs' := [(Ar, NR)]) (fun _ h => h) (fun v hv => by rcases List.mem_cons.1 hv with rfl | h; exact .head _; cases h))
          clear iy
          go_wp2_with fail
          go_roundw
          case rel => exact ⟨k + 1, NR, Ar, cr, an, An, Sn, by omega, by rw [ENN.out], by go_num, by rw [← ENN.out]; exact HP2.out, HP3.out, X10.out⟩
          case measure => simp [intOf]; omega
        · have f1 : (er == 0) = false := by rw [beq_eq_false_iff_ne]; exact f0
          have X10 := Lib.hid (X9.out.sub (ps' := [(w2.heap.size, a, A', S, W)]) (qs' := [(Aw, W)]) (fun v hv => by rcases List.mem_cons.1 hv with rfl | h; exact .tail _ (.head _); cases h) (fun v hv => by rcases List.mem_cons.1 hv with rfl | h; exact .tail _ (.head _); cases h))
          go_wp2_with fail
          go_roundw
          case rel => exact ⟨k + 1, W, Aw, cw, a, A', S, by omega, by rw [EW.out], by go_num, hwc.out, hcm.out, X10.out⟩
          case measure => simp [intOf]; omega
    · obtain rfl : k = n2 := by omega
      go_wp2_with fail
      -- lives(), and the end; L4 holder
      refine (lives_yes _).mono ?_
      rintro e wz ⟨rfl, hb⟩
      have HB := Lib.hid ((L4.out.below hb).bl)
      clear hb
      go_wp2_with fail
      go_ret
      exact ⟨rfl, HB.out⟩
end Go.Proofs.Ytngbaiijdgmpoaa

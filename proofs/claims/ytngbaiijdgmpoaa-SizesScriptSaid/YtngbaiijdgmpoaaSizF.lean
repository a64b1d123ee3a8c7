/-
  Contracts of package sizes: Insert.
-/
import Derived.Test.YtngbaiijdgmpoaaSizE
import Derived.Test.YtngbaiijdgmpoaaSliceL
namespace Go.Proofs.Ytngbaiijdgmpoaa
open Go.RowKit
set_option linter.unusedVariables false
set_option linter.unusedSimpArgs false

/-- The error of sizes that come in: as chkTo, but each one is at least 1. -/
def ckZ (l : Nat → Int) : Nat → Int
  | 0 => 0
  | k + 1 => if ckZ l k = 0 then (if l k < 1 ∨ 2305843009213693952 < l k then 12 else if 4611686018427387904 - psum l k < l k then 13 else 0) else ckZ l k
theorem ckZ_stays (l : Nat → Int) {k : Nat} (h : ckZ l k ≠ 0) : ∀ {m}, k ≤ m → ckZ l m = ckZ l k := by
  intro m hm
  induction m with
  | zero => rw [show k = 0 from by omega]
  | succ m ih =>
    by_cases e : k = m + 1
    · rw [e]
    · have := ih (by omega)
      rw [← this] at h ⊢
      show (if ckZ l m = 0 then _ else ckZ l m) = _
      rw [if_neg h]
theorem ckZ_12 (l : Nat → Int) {k : Nat} (h : ckZ l k = 0) (hb : l k < 1 ∨ 2305843009213693952 < l k) : ckZ l (k + 1) = 12 := by
  unfold ckZ; rw [if_pos h, if_pos hb]
theorem ckZ_zero (l : Nat → Int) : ∀ {k : Nat}, ckZ l k = 0 → chkTo l k = 0 ∧ ∀ j, j < k → 1 ≤ l j ∧ l j ≤ 2305843009213693952 := by
  intro k
  induction k with
  | zero => intro _; exact ⟨rfl, fun j hj => by omega⟩
  | succ k ih =>
    intro h
    have h0 : ckZ l k = 0 := by
      apply Classical.byContradiction; intro c
      rw [ckZ_stays l c (Nat.le_succ k)] at h; exact c h
    obtain ⟨i1, i2⟩ := ih h0
    unfold ckZ at h
    rw [if_pos h0] at h
    by_cases a : l k < 1 ∨ 2305843009213693952 < l k
    · rw [if_pos a] at h; exact absurd h (by decide)
    rw [if_neg a] at h
    by_cases b : 4611686018427387904 - psum l k < l k
    · rw [if_pos b] at h; exact absurd h (by decide)
    refine ⟨chkTo_0 l i1 (by omega) (by omega) (by omega), fun j hj => ?_⟩
    by_cases e : j = k
    · subst e; omega
    · exact i2 j (by omega)
theorem ckZ_next (l : Nat → Int) {k : Nat} (h : ckZ l k = 0) (hb : ¬ (l k < 1 ∨ 2305843009213693952 < l k)) : ckZ l (k + 1) = chkTo l (k + 1) := by
  obtain ⟨h1, _⟩ := ckZ_zero l h
  unfold ckZ chkTo
  rw [if_pos h, if_pos h1, if_neg hb, if_neg (show ¬ (l k < 0 ∨ 2305843009213693952 < l k) from by omega)]
def iinsErr (R : Rws) (i : Int) (Z : List Int) : Int := if i < 0 ∨ (R.length : Int) < i then 4 else if 1024 < R.length + Z.length then 3 else if ckZ (lf Z) Z.length ≠ 0 then ckZ (lf Z) Z.length else if 4611686018427387904 - Z.sum < (szs R).sum then 13 else 0
def iinsTo (R : Rws) (i : Int) (Z : List Int) (b : Bool) : Rws := if iinsErr R i Z = 0 then insR R i.toNat Z b else []
theorem infoI64_1 : (Try.prog.info? 2).map (·.size) = some 1 := by kernel_rfl
theorem slL_h (A : Option Addr) (n c hi : Nat) (h2 : hi ≤ c) : ∀ wx, (Instr.sliceAt 54 (.slice A n c) none (some (.int .i64 hi)) none).run Try.prog wx = .ok (.slice A hi c) wx :=
  fun wx => slice_h Try.underlying54 infoI64_1 A n c hi h2 wx
theorem len_insR (R : Rws) {k : Nat} (h : k ≤ R.length) (Z : List Int) (b : Bool) : (insR R k Z b).length = R.length + Z.length := by
  unfold insR; rw [List.length_append, List.length_append, List.length_take, List.length_drop, List.length_map]; omega
theorem mem_insR {R : Rws} {k : Nat} {Z : List Int} {b : Bool} {x : Int} (h : x ∈ szs (insR R k Z b)) : x ∈ szs R ∨ x ∈ Z := by
  rw [szs_insR] at h
  unfold insL at h
  rcases List.mem_append.1 h with h | h
  · rcases List.mem_append.1 h with h | h
    · exact .inl (List.mem_of_mem_take h)
    · exact .inr h
  · exact .inl (List.mem_of_mem_drop h)
theorem insErr_13 {L Z : List Int} {k : Nat} (hk : k ≤ L.length) (hc : chkL Z = 0) (hl : L.length + Z.length ≤ 1024) : insErr L k Z = if 4611686018427387904 - Z.sum < L.sum then 13 else 0 := by
  unfold insErr joinErr
  rw [if_neg (by omega), hc, if_neg (by simp), if_neg (by omega)]

set_option maxRecDepth 100000 in
set_option maxHeartbeats 3200000 in
theorem iinsert_any (w : World) (a A : Option Addr) (S : Sp) (R : Rws) (h : Ix w a A S R) (i : Int) (A2 : Option Addr) (c B2 : Nat) (Z : List Int) (b : Bool) (fi : Fits i) (hs : SeesL w B2 A2 Z) (hB : B2 ≤ w.heap.size) (hc : Z.length ≤ c) (hm : c ≤ maxLen) (hn : Z.length ≤ 1000000000000000) (hf : ∀ x ∈ Z, Fits x) :
    Calls Try.prog 20 #[ixv a A S.length, .int .i64 i, .slice A2 Z.length c, .bool b] w (IPost w (iinsTo R i Z b) (iinsErr R i Z)) := by
  have V := Lib.hid (vI_x h)
  have g1 := V.out.get (.tail _ (.head _))
  have hle := h.le
  have b0 : Below w.heap.size w (vI w a A S.length) := V.out.bl
  have KL := Lib.hid (fun W (hW : Below (vI w a A S.length).heap.size (vI w a A S.length) W) => ilen_any W a A S.length R (g1.ix.rp.below hW))
  unfold iinsTo
  by_cases c1 : i < 0
  · have e1 : iinsErr R i Z = 4 := if_pos (.inl c1)
    rw [e1, if_neg (by decide)]
    clear h g1 KL e1 hs hf
    go_enter Try.func20, Try.ntmps20
    go_wp2_with fail
    exact bodyPost_ret (v := .tuple #[ixv none none 0, .int .i64 4]) (by simp [results, Try.results20, go_sem]) rfl ⟨none, none, [], rfl, Ix.new _, b0⟩
  by_cases c1' : (R.length : Int) < i
  · have e1 : iinsErr R i Z = 4 := if_pos (.inr c1')
    rw [e1, if_neg (by decide)]
    obtain ⟨x1, x2, _, _, _, l1⟩ := g1
    obtain ⟨w0, e0⟩ : ∃ w0, w0 = vI w a A S.length := ⟨_, rfl⟩
    rw [← e0] at V KL x1 x2 l1
    clear h e1 b0 hs hf
    go_enter Try.func20, Try.ntmps20
    go_wp2_with fail
    change Calls Try.prog _ _ (vI w a A S.length) _
    rw [← e0]
    refine (KL.out _ (Below.refl _ _)).mono ?_
    rintro e w1 ⟨rfl, hb⟩
    have V1 := Lib.hid (V.out.below hb)
    clear hb x1 x2 l1
    obtain ⟨d1', d2', k1', k2', l2'⟩ := V1.out.get0 (.head _)
    have VZ := Lib.hid (V1.out.zero (.head _))
    obtain ⟨z1, z2, _, _, _⟩ := VZ.out.get0 (.head _)
    go_wp2_with fail
    exact bodyPost_ret (v := .tuple #[ixv none none 0, .int .i64 4]) (by simp [results, Try.results20, go_sem, z1, z2]) rfl (VZ.out.bad 4)
  obtain ⟨k, rfl⟩ : ∃ k : Nat, i = (k : Int) := ⟨i.toNat, by omega⟩
  by_cases c2 : 1024 < R.length + Z.length
  · have e1 : iinsErr R k Z = 3 := by unfold iinsErr; rw [if_neg (by omega), if_pos c2]
    rw [e1, if_neg (by decide)]
    obtain ⟨x1, x2, _, _, _, l1⟩ := g1
    obtain ⟨w0, e0⟩ : ∃ w0, w0 = vI w a A S.length := ⟨_, rfl⟩
    rw [← e0] at V KL x1 x2 l1
    obtain ⟨n, en⟩ : ∃ n, n = Z.length := ⟨_, rfl⟩
    rw [← en] at c2 hc hn ⊢
    clear h e1 b0 hs hf en
    go_enter Try.func20, Try.ntmps20
    go_wp2_with fail
    change Calls Try.prog _ _ (vI w a A S.length) _
    rw [← e0]
    refine (KL.out _ (Below.refl _ _)).mono ?_
    rintro e w1 ⟨rfl, hb⟩
    have V1 := Lib.hid (V.out.below hb)
    have B1 := Lib.hid hb
    obtain ⟨x1', x2', _, _, _, l1'⟩ := V1.out.get (.tail _ (.head _))
    clear hb x1 x2 l1
    go_wp2_with fail
    refine (KL.out _ B1.out).mono ?_
    rintro e w2 ⟨rfl, hb⟩
    have V2 := Lib.hid (V1.out.below hb)
    clear hb x1' x2' l1'
    obtain ⟨d1', d2', k1', k2', l2'⟩ := V2.out.get0 (.head _)
    have VZ := Lib.hid (V2.out.zero (.head _))
    obtain ⟨z1, z2, _, _, _⟩ := VZ.out.get0 (.head _)
    go_wp2_with fail
    exact bodyPost_ret (v := .tuple #[ixv none none 0, .int .i64 3]) (by simp [results, Try.results20, go_sem, z1, z2]) rfl (VZ.out.bad 3)
  have e1 : iinsErr R k Z = if ckZ (lf Z) Z.length ≠ 0 then ckZ (lf Z) Z.length else if 4611686018427387904 - Z.sum < (szs R).sum then 13 else 0 := by unfold iinsErr; rw [if_neg (by omega), if_neg c2]
  rw [e1, Int.toNat_natCast]
  have KI := Lib.hid (fun W (hW : Below (vI w a A S.length).heap.size (vI w a A S.length) W) => rinsert_any W a (szs R) (g1.ix.rp.below hW) h.ok k A2 c B2 Z ((hs.below (b0.mono hB)).below (hW.mono (by have := b0.size; omega))) (by have := hW.size; have := b0.size; omega) hc hm hn hf)
  have KW := Lib.hid (fun W x (fx : Fits x) => wrong_any W x fx)
  have HS := Lib.hid (fun W (hW : Below (vI w a A S.length).heap.size (vI w a A S.length) W) => (hs.below (b0.mono hB)).below (hW.mono (show B2 ≤ (vI w a A S.length).heap.size from by have := b0.size; omega)))
  have KC := Lib.hid (fun W j (hj : j ≤ Z.length) (hW : Below (vI w a A S.length).heap.size (vI w a A S.length) W) => fcheck_any A2 j c (lf Z) W B2 (fun h0 => by
    obtain ⟨b', o', q1, q2, q3⟩ := HS.out W hW (by omega)
    exact ⟨b', o', q1, q2, fun t ht => q3 t (by omega)⟩) (lf_fits hf) (by omega))
  have KSI := Lib.hid (fun W (hW : Below (vI w a A S.length).heap.size (vI w a A S.length) W) => sins_small W A _ S (kn R) R.length k Z.length (g1.ix.sp.below hW) hW.size h.ks h.lt (by omega) (by omega))
  have FZ := Lib.hid (lf_fits hf)
  have SL : Hid (∀ j, j ≤ c → ∀ wx, (Instr.sliceAt 54 (.slice A2 Z.length c) none (some (.int .i64 (j : Nat))) none).run Try.prog wx = .ok (.slice A2 j c) wx) := fun j hj => slL_h A2 Z.length c j hj
  have HIX := Lib.hid h
  obtain ⟨x1, x2, _, _, _, l1⟩ := g1
  obtain ⟨w0, e0⟩ : ∃ w0, w0 = vI w a A S.length := ⟨_, rfl⟩
  rw [← e0] at V KL KI HS KC KSI x1 x2 l1
  obtain ⟨n, en⟩ : ∃ n, n = Z.length := ⟨_, rfl⟩
  have EN := Lib.hid en
  rw [← en] at c2 hc hn KI HS KC KSI SL ⊢
  obtain ⟨err, eerr⟩ : ∃ err, err = (if ckZ (lf Z) n ≠ 0 then ckZ (lf Z) n else if 4611686018427387904 - Z.sum < (szs R).sum then 13 else 0) := ⟨_, rfl⟩
  rw [← eerr]
  obtain ⟨RR, eRR⟩ : ∃ RR, RR = (if err = 0 then insR R k Z b else []) := ⟨_, rfl⟩
  rw [← eRR]
  have XX : Hid (∀ j, j ≤ n → ckZ (lf Z) j ≠ 0 → ckZ (lf Z) j = err ∧ RR = []) := fun j hj h0 => by
    have h1 := ckZ_stays (lf Z) h0 hj
    have h2 : err = ckZ (lf Z) j := by rw [eerr, h1, if_pos h0]
    exact ⟨h2.symm, by rw [eRR, if_neg (by rw [h2]; exact h0)]⟩
  have EE := Lib.hid eerr
  have ER := Lib.hid eRR
  clear h e1 b0 hs hf en eerr eRR
  go_enter Try.func20, Try.ntmps20
  go_wp2_with fail
  change Calls Try.prog _ _ (vI w a A S.length) _
  rw [← e0]
  refine (KL.out _ (Below.refl _ _)).mono ?_
  rintro e w1 ⟨rfl, hb⟩
  have V1 := Lib.hid (V.out.below hb)
  have B1 := Lib.hid hb
  obtain ⟨x1', x2', _, _, _, l1'⟩ := V1.out.get (.tail _ (.head _))
  clear hb x1 x2 l1
  go_wp2_with fail
  refine (KL.out _ B1.out).mono ?_
  rintro e w2 ⟨rfl, hb⟩
  have V2 := Lib.hid (V1.out.below hb)
  have B2' := Lib.hid (B1.out.trans (hb.mono B1.out.size))
  clear hb x1' x2' l1'
  go_wp2_with fail
  go_loopw [36] (fun i wr => ∃ j : Nat, j ≤ n ∧ i = .int .i64 j ∧ Hid (ckZ (lf Z) j = 0) ∧ Hid (LX w wr [(w.heap.size + 1, none, none, [], []), (w.heap.size, a, A, S, R)] []) ∧ Hid (Below w0.heap.size w0 wr)) (fun i _ => n - (intOf i).toNat)
  case atStart => exact ⟨0, Nat.zero_le _, rfl, rfl, V2, B2'⟩
  case round =>
    obtain ⟨j, hj, rfl, h0, V3, B3⟩ := hrel
    clear V V1 V2 B1 B2'
    by_cases hlt : j < n
    · obtain ⟨b', o', hA', hb0, hcell⟩ := (HS.out wr B3.out).at_ (k := j) hlt
      subst hA'
      rw [i64s_at] at hcell
      have fz := FZ.out j
      have K1 := Lib.hid (KW.out wr (lf Z j) fz)
      by_cases g : lf Z j < 1 ∨ 2305843009213693952 < lf Z j
      · rw [decide_eq_true g] at K1
        obtain ⟨q1, q2⟩ := XX.out (j + 1) hlt (by rw [ckZ_12 _ h0.out g]; decide)
        rw [ckZ_12 _ h0.out g] at q1
        subst q2
        subst q1
        clear g XX EE ER
        go_wp2_with fail
        refine (K1.out).mono ?_
        rintro e w3 ⟨rfl, rfl⟩
        obtain ⟨d1', d2', k1', k2', l2'⟩ := V3.out.get0 (.head _)
        have VZ := Lib.hid (V3.out.zero (.head _))
        obtain ⟨z1, z2, _, _, _⟩ := VZ.out.get0 (.head _)
        go_wp2_with fail
        exact bodyPost_ret (v := .tuple #[ixv none none 0, .int .i64 12]) (by simp [results, Try.results20, go_sem, z1, z2]) rfl (VZ.out.bad 12)
      · rw [decide_eq_false g] at K1
        have SJ : ∀ wx, (Instr.sliceAt 54 (.slice (some ⟨b', o', none⟩) n c) none (some (.int .i64 ((j : Int) + 1))) none).run Try.prog wx = .ok (.slice (some ⟨b', o', none⟩) (j + 1) c) wx := fun wx => by
          have := SL.out (j + 1) (by omega) wx
          rwa [show ((j + 1 : Nat) : Int) = (j : Int) + 1 from by omega] at this
        have K2 := Lib.hid (KC.out wr (j + 1) hlt B3.out)
        have e3 : chk (lf Z) (j + 1) = ckZ (lf Z) (j + 1) := by unfold chk; rw [if_neg (by omega), ckZ_next _ h0.out g]
        rw [e3] at K2
        obtain ⟨x, hx⟩ : ∃ x, x = ckZ (lf Z) (j + 1) := ⟨_, rfl⟩
        have hxH := Lib.hid hx
        rw [← hx] at K2
        have XJ : Hid (x ≠ 0 → x = err ∧ RR = []) := by rw [hx]; exact XX.out (j + 1) hlt
        clear g e3 hx fz
        go_wp2_with fail
        refine (K1.out).mono ?_
        rintro e w3 ⟨rfl, rfl⟩
        go_wp2_with fail
        refine (K2.out).mono ?_
        rintro e w4 ⟨rfl, rfl⟩
        clear SJ
        by_cases hx0 : x = 0
        · have hck : Hid (ckZ (lf Z) (j + 1) = 0) := by show _ = _; rw [← hxH.out]; exact hx0
          subst hx0
          clear hxH XJ
          go_wp2_with fail
          go_roundw
          case rel => exact ⟨j + 1, by omega, by go_num, hck, V3, B3⟩
          case measure => simp [intOf]; omega
        · obtain ⟨q1, q2⟩ := XJ.out hx0
          subst q2
          subst q1
          have xb : (x != 0) = true := by rw [bne_iff_ne]; exact hx0
          clear hxH XJ XX EE ER
          obtain ⟨d1', d2', k1', k2', l2'⟩ := V3.out.get0 (.head _)
          have VZ := Lib.hid (V3.out.zero (.head _))
          obtain ⟨z1, z2, _, _, _⟩ := VZ.out.get0 (.head _)
          go_wp2_with fail
          exact bodyPost_ret (v := .tuple #[ixv none none 0, .int .i64 x]) (by simp [results, Try.results20, go_sem, z1, z2]) rfl (VZ.out.bad x)
    · obtain rfl : j = n := by omega
      have hz := h0.out
      obtain ⟨z1, z2⟩ := ckZ_zero _ hz
      have hcz : chkL Z = 0 := by unfold chkL chk; rw [← EN.out, if_neg (by omega)]; exact z1
      have hER : err = if 4611686018427387904 - Z.sum < (szs R).sum then 13 else 0 := by rw [EE.out, if_neg (by rw [hz]; simp)]
      have hIE := insErr_13 (L := szs R) (Z := Z) (k := k) (by rw [szs_len]; omega) hcz (by rw [szs_len, ← EN.out]; omega)
      rw [← hER] at hIE
      have K5 := Lib.hid (KI.out wr B3.out)
      have hIT : insTo (szs R) k Z = if err = 0 then insL (szs R) k Z else [] := by unfold insTo; rw [hIE, Int.toNat_natCast]
      rw [hIE, hIT] at K5
      obtain ⟨x1, x2, _, _, _, l1⟩ := V3.out.get (.tail _ (.head _))
      by_cases g : 4611686018427387904 - Z.sum < (szs R).sum
      · rw [if_pos g] at hER
        have hRR : RR = [] := by rw [ER.out, hER]; rfl
        rw [hER] at K5
        clear XX EE ER
        subst hER
        subst hRR
        clear hIE hIT g z1 z2 hz hcz KSI
        go_wp2_with fail
        refine (K5.out).mono ?_
        rintro e w3 ⟨r, rfl, hr, hb⟩
        have V4 := Lib.hid (V3.out.below hb)
        obtain ⟨d1', d2', k1', k2', l2'⟩ := V4.out.get0 (.head _)
        have VZ := Lib.hid ((V4.out.zero (.head _)).alloc (.cells #[.pointer r] 29))
        obtain ⟨z1, z2, _, _, _⟩ := VZ.out.get0 (.head _)
        clear hb hr x1 x2 l1
        go_wp2_with fail
        exact bodyPost_ret (v := .tuple #[ixv none none 0, .int .i64 13]) (by simp [results, Try.results20, go_sem, z1, z2]) rfl (VZ.out.bad 13)
      · rw [if_neg g] at hER
        have hRR : RR = insR R k Z b := by rw [ER.out, hER]; rfl
        rw [hER, if_pos rfl, ← szs_insR R k Z b, ← hRR] at K5
        have OK : Hid (LOk (szs RR)) := by
          rw [hRR, szs_insR]
          exact insL_ok (joinErr_ok HIX.out.ok (chkL_ok hcz).1 (by unfold joinErr; rw [if_neg (by rw [szs_len, ← EN.out]; omega), if_neg g])).1 k
        have PS : Hid (∀ x ∈ szs RR, 1 ≤ x ∧ x ≤ 2305843009213693952) := fun x hx => by
          rw [hRR] at hx
          rcases mem_insR hx with hx | hx
          · exact HIX.out.ps x hx
          · obtain ⟨t, ht, rfl⟩ := List.mem_iff_getElem.1 hx
            have := z2 t (by rw [EN.out]; exact ht)
            rwa [lf_get Z ht] at this
        have LE : Hid (RR.length ≤ 1024) := by show _ ≤ _; rw [hRR, len_insR R (by omega), ← EN.out]; omega
        have KN : Hid (∀ T, KnS T (markF (insF (kn R) k j) k (k + j) b) → KnS T (kn RR)) := fun T hT => hT.congr (fun t => by rw [hRR, kn_insR R (by omega), ← EN.out])
        clear hIE hIT g z1 z2 hz hcz XX EE ER hRR
        subst hER
        obtain ⟨R', eR⟩ : ∃ R', R' = RR := ⟨_, rfl⟩
        subst eR
        go_wp2_with fail
        refine (K5.out).mono ?_
        rintro e w3 ⟨r, rfl, hr, hb⟩
        have HB3 := Lib.hid (B3.out.trans (hb.mono B3.out.size))
        have VA := Lib.hid (V3.out.below hb)
        have VB := Lib.hid (VA.out.alloc (.cells #[.pointer r] 29))
        have VR0 := Lib.hid (Var.mk w3 29 (.pointer r))
        have HR0 := Lib.hid (hr.below ((Below.refl _ w3).alloc (Nat.le_refl _) (.cells #[.pointer r] 29)))
        have HB0 := Lib.hid (HB3.out.alloc HB3.out.size (.cells #[.pointer r] 29))
        clear hb hr x1 x2 l1
        obtain ⟨x1, x2, _, _, _, l1⟩ := VA.out.get (.tail _ (.head _))
        go_wp2_with fail
        refine (KSI.out _ HB0.out).mono ?_
        rintro e w4 ⟨A4, S4, rfl, p1, p2, p3⟩
        have V4 := Lib.hid (VB.out.below p3)
        have VR := Lib.hid (VR0.out.below p3)
        have HR4 := Lib.hid (HR0.out.below p3)
        have KM := Lib.hid (fun W (hW : Below w4.heap.size w4 W) => marked_any W A4 _ S4 (insF (kn R) k j) (R.length + j) k (k + j) b (p1.below hW) hW.size p2 (insF_lt HIX.out.lt) (by omega) (by omega) (by omega))
        clear p1 p2 p3 x1 x2 l1
        go_wp2_with fail
        obtain ⟨x1, x2, _, _, _, l3⟩ := V4.out.get (.tail _ (.head _))
        obtain ⟨y1, y2, y3, y4, l4⟩ := V4.out.get0 (.head _)
        have v1 := VR.out.c
        have l5 := World.rowIs.lt VR.out
        have l6 := (VA.out.get (.head _)).lt
        have n1 : ¬ w3.heap.size = w.heap.size + 1 := by omega
        have n2 : ¬ w.heap.size = w.heap.size + 1 := by omega
        have S0 : Hid (Fr (fun b => b = w.heap.size + 1) w4 w4.drew) := (Fr.refl _ _).drawn ⟨1, rfl⟩
        refine wp_region_plan [(false, 0), (false, 1), (false, 2), (false, 3), (false, 4), (false, 5), (false, 6), (false, 7), (false, 9), (true, 8), (true, 10), (false, 11), (false, 12), (true, 13), (false, 14)] (Fr (fun b => b = w.heap.size + 1) w4) (by kernel_rfl) (by kernel_rfl) (S0.out) _ (by simp only [pickH, List.getElem?_toArray, List.getElem?_cons_succ, List.getElem?_cons_zero]; rfl) ?_
        repeat (refine HWalk.step (fun K hK => ?_); first | (apply held_yes; (focus rfl); (focus (intro w' hw; have hc' := fr_cells hw; go_simp; rfl)); (go_simp; refine hK _ ?_; clear hK K)) | (refine ite_no (by decide) ?_; go_simp; refine hK _ ?_; clear hK K))
        clear l6
        clear x1 x2 y1 y2 y3 y4 v1 l3 l4 l5
        refine HWalk.mark ?_
        go_wp2_with fail
        refine (KM.out w4.drew ((Below.refl _ w4).drew)).mono ?_
        rintro e w5 ⟨A5, S5, rfl, p1, p2, p3⟩
        have B5 : Hid (Below w4.heap.size w4 w5) := ((Below.refl _ w4).drew).trans p3
        have KP := Lib.hid (with_ok w5 r A5 S5 R' ⟨HR4.out.below B5.out, p1, KN.out _ p2, OK.out, LE.out, PS.out⟩)
        have S1 := Lib.hid (Fr.of_below (S := fun b => b = w.heap.size + 1) B5.out)
        clear p1 p2 p3
        go_wp2_with fail
        refine ⟨S1.out, ?_⟩
        repeat (refine HWalk.step (fun K hK => ?_); first | (apply held_yes; (focus rfl); (focus (intro w' hw; have hc' := fr_cells hw; go_simp; rfl)); (go_simp; refine hK _ ?_; clear hK K)) | (refine ite_no (by decide) ?_; go_simp; refine hK _ ?_; clear hK K))
        refine HWalk.mark ?_
        go_wp2_with fail
        refine (KP.out).mono ?_
        rintro e w6 ⟨a6, A6, S6, rfl, q1, q2⟩
        have B6 : Hid (Below w4.heap.size w4 w6) := B5.out.trans (q2.mono B5.out.size)
        have V6 := Lib.hid (V4.out.below B6.out)
        obtain ⟨y1, y2, y3, y4, l4⟩ := V6.out.get0 (.head _)
        have V7 := Lib.hid (V6.out.put1 (.head _) q1)
        obtain ⟨z1, z2, _, _, _, _⟩ := V7.out.get (.head _)
        have S2 := Lib.hid (Fr.of_below (S := fun b => b = w.heap.size + 1) B6.out)
        have S3 := Lib.hid ((S2.out.setCell (p := ⟨w.heap.size + 1, 0, none⟩) rfl (.pointer a6)).setCell (p := ⟨w.heap.size + 1, 1, none⟩) rfl (.slice A6 S6.length S6.length))
        clear q1 q2 KP
        go_wp2_with fail
        refine ⟨S2.out, ?_⟩
        repeat (refine HWalk.step (fun K hK => ?_); first | (apply held_yes; (focus rfl); (focus (intro w' hw; have hc' := fr_cells hw; go_simp; rfl)); (go_simp; refine hK _ ?_; clear hK K)) | (refine ite_no (by decide) ?_; go_simp; refine hK _ ?_; clear hK K))
        refine HWalk.mark ?_
        go_wp2_with fail
        refine ⟨S3.out, ?_⟩
        repeat (refine HWalk.step (fun K hK => ?_); first | (apply held_yes; (focus rfl); (focus (intro w' hw; have hc' := fr_cells hw; go_simp; rfl)); (go_simp; refine hK _ ?_; clear hK K)) | (refine ite_no (by decide) ?_; go_simp; refine hK _ ?_; clear hK K))
        refine HWalk.done ?_
        go_wp2_with fail
        go_wp2_with fail
        exact bodyPost_ret (v := .tuple #[ixv a6 A6 S6.length, .int .i64 0]) (by simp [results, Try.results20, go_sem, z1, z2]) rfl ⟨a6, A6, S6, rfl, (V7.out.get (.head _)).ix, V7.out.bl⟩
end Go.Proofs.Ytngbaiijdgmpoaa

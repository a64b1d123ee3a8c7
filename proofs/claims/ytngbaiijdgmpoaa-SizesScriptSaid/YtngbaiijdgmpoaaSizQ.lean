/-
  The reference of layer 6: Insert.
-/
import Derived.Test.YtngbaiijdgmpoaaSizO
namespace Go.Proofs.Ytngbaiijdgmpoaa
open Go.RowKit
set_option linter.unusedVariables false
set_option linter.unusedSimpArgs false

theorem ckZ_fault (l : Nat → Int) {k : Nat} (h : ckZ l k = 0) : ckZ l (k + 1) = faultV (l k) (psum l k) := by
  unfold faultV
  show (if ckZ l k = 0 then _ else _) = _
  rw [if_pos h]
theorem map_snoc (Z : List Int) (b : Bool) {j : Nat} (h : j < Z.length) (P : Rws) : P ++ (Z.take (j + 1)).map (·, b) = (P ++ (Z.take j).map (·, b)) ++ [(lf Z j, b)] := by
  rw [List.take_succ_eq_append_getElem h, List.map_append, ← List.append_assoc, lf_get Z h]
  rfl
set_option maxRecDepth 100000 in
set_option maxHeartbeats 3200000 in
theorem rInsert_any (w : World) (A A2 : Option Addr) (c c2 B B2 : Nat) (L : Rws) (Z : List Int) (h : SeesR w B A L) (h2 : SeesL w B2 A2 Z) (hB : B ≤ w.heap.size) (hB2 : B2 ≤ w.heap.size) (hnc : L.length ≤ c) (hc : c ≤ maxLen) (hl : L.length ≤ 2000) (hn2 : Z.length ≤ 1000000) (hf : ∀ x ∈ Z, Fits x) (ok : LOk (szs L)) (i : Int) (b : Bool) (fi : Fits i) :
    Calls Try.prog 24 #[.slice A L.length c, .int .i64 i, .slice A2 Z.length c2, .bool b] w (RwPost w (iinsTo L i Z b) (iinsErr L i Z)) := by
  obtain ⟨fi1, fi2⟩ := fi
  have E : Hid (∀ W, Below w.heap.size w W → ∀ x : Int, RwPost w [] x (.returned (.tuple #[.slice none 0 0, .int .i64 x])) W) := fun W hW x => RwPost.no hW x
  unfold iinsTo
  by_cases c1 : i < 0 ∨ (L.length : Int) < i
  · have hE : iinsErr L i Z = 4 := if_pos c1
    rw [hE, if_neg (by decide)]
    obtain ⟨N, eN⟩ : ∃ N, N = L.length := ⟨_, rfl⟩
    rw [← eN] at c1 hl ⊢
    clear h hnc eN hE ok h2
    by_cases q1 : i < 0
    · clear c1
      go_enter Try.func24, Try.ntmps24
      go_wp2_with fail
      go_ret2
      exact E.out w (Below.refl _ _) 4
    · have q2 : (N : Int) < i := by omega
      clear c1
      go_enter Try.func24, Try.ntmps24
      go_wp2_with fail
      go_ret2
      exact E.out w (Below.refl _ _) 4
  obtain ⟨k, rfl⟩ : ∃ k : Nat, i = (k : Int) := ⟨i.toNat, by omega⟩
  have hk : k ≤ L.length := by omega
  by_cases c2' : 1024 < L.length + Z.length
  · have hE : iinsErr L k Z = 3 := by unfold iinsErr; rw [if_neg c1, if_pos c2']
    rw [hE, if_neg (by decide)]
    obtain ⟨N, eN⟩ : ∃ N, N = L.length := ⟨_, rfl⟩
    obtain ⟨n, en⟩ : ∃ N, N = Z.length := ⟨_, rfl⟩
    rw [← eN] at c1 hl hk c2' ⊢
    rw [← en] at c2' hn2 ⊢
    have q1 : ¬ (k : Int) < 0 := by omega
    have q2 : ¬ (N : Int) < (k : Int) := by omega
    have q3 : 1024 < (N : Int) + (n : Int) := by omega
    clear h hnc eN hE ok h2 en c1 c2'
    go_enter Try.func24, Try.ntmps24
    go_wp2_with fail
    go_ret2
    exact E.out w (Below.refl _ _) 3
  have hE : iinsErr L k Z = if ckZ (lf Z) Z.length ≠ 0 then ckZ (lf Z) Z.length else if 4611686018427387904 - Z.sum < (szs L).sum then 13 else 0 := by unfold iinsErr; rw [if_neg c1, if_neg c2']
  obtain ⟨err, eerr⟩ : ∃ x, x = iinsErr L k Z := ⟨_, rfl⟩
  rw [← eerr] at hE ⊢
  rw [Int.toNat_natCast]
  obtain ⟨RR, eRR⟩ : ∃ RR, RR = (if err = 0 then insR L k Z b else []) := ⟨_, rfl⟩
  rw [← eRR]
  obtain ⟨n, en⟩ : ∃ N, N = Z.length := ⟨_, rfl⟩
  have XX : Hid (∀ j, j ≤ n → ckZ (lf Z) j ≠ 0 → ckZ (lf Z) j = err ∧ RR = []) := fun j hj h0 => by
    have h1 := ckZ_stays (lf Z) h0 hj
    have h2 : err = ckZ (lf Z) j := by rw [hE, ← en, h1, if_pos h0]
    exact ⟨h2.symm, by rw [eRR, if_neg (by rw [h2]; exact h0)]⟩
  have l1 : (L.take k).length = k := by rw [List.length_take]; omega
  have l2 : (L.drop k).length = L.length - k := List.length_drop
  obtain ⟨Ac, cc, w2, run, O, hb, hcm⟩ := clone_R w (A := A) (c := c) (L := L.take k) (h.first k hk) hB (by omega)
  rw [l1] at run
  have RUN := Lib.hid run
  have SA := slR_h A L.length c k (by omega)
  have SB := slR_l A L.length c k hk
  have HS := Lib.hid h2
  have HF := Lib.hid (lf_fits hf)
  have HB := Lib.hid hb
  have O0 : Hid (OwnR w2 w.heap.size Ac cc (L.take k ++ (Z.take 0).map (·, b))) := by
    show OwnR _ _ _ _ (L.take k ++ [])
    rw [List.append_nil]
    exact O
  have KT := Lib.hid (fun W (g : Below w.heap.size w W) => refTop_any W B A c L L.length (h.below (g.mono hB)) ok (Nat.le_refl _) (by omega))
  rw [show (szs L).take L.length = szs L from List.take_of_length_le (by rw [szs_len]; exact Nat.le_refl _)] at KT
  have hsub := h.sub hnc k L.length hk (Nat.le_refl _)
  rw [List.take_of_length_le (by rw [l2]; exact Nat.le_refl _)] at hsub
  have HSUB := Lib.hid (hsub.more hB)
  have LT : Hid (∀ j, j ≤ n → (L.take k ++ (Z.take j).map (·, b)).length = k + j) := fun j hj => by
    rw [List.length_append, l1, List.length_map, List.length_take, Nat.min_eq_left (by omega)]
  have EN := Lib.hid en
  have HE := Lib.hid hE
  have HRR := Lib.hid eRR
  have ht := ok.top
  have ht0 := ok.sum0
  obtain ⟨T, eT⟩ : ∃ T, T = (szs L).sum := ⟨_, rfl⟩
  rw [← eT] at KT HE ht ht0
  have LD : Hid ((L.drop k).length = L.length - k) := l2
  obtain ⟨N, eN⟩ : ∃ N, N = L.length := ⟨_, rfl⟩
  rw [← eN] at KT SA SB hl hk c1 c2' LD hnc ⊢
  rw [← en] at c2' hn2 HE ⊢
  have q1 : ¬ (k : Int) < 0 := by omega
  have q2 : ¬ (N : Int) < (k : Int) := by omega
  have q3 : ¬ 1024 < (N : Int) + (n : Int) := by omega
  have HSB := Lib.hid SB
  clear h h2 run O hb hf l1 l2 hsub en hE eRR eerr eT ok SB c1
  have INS : Hid (insR L k Z b = (L.take k ++ (Z.take n).map (·, b)) ++ L.drop k) := by
    show insR L k Z b = _
    unfold insR
    rw [EN.out, List.take_length]
  clear eN
  go_enter Try.func24, Try.ntmps24
  go_wp2_with (at_builtin; refine Hid.out ?_)
  refine Lib.hid (Lib.wpList_append_run _ rfl _ _ _ _ rfl _ _ rfl rfl _ _ (RUN.out _) ?_)
  clear SA
  go_wp2_with fail
  go_loopw [10, 11, 12] (fun o s i wr => ∃ (j : Nat) (Ao : Option Addr) (co : Nat), j ≤ n ∧ o = .slice Ao (k + j) co ∧ s = .int .i64 (psum (lf Z) j) ∧ i = .int .i64 j ∧ Hid (OwnR wr w.heap.size Ao co (L.take k ++ (Z.take j).map (·, b))) ∧ Hid (Below w.heap.size w wr) ∧ Hid (co ≤ maxLen) ∧ Hid (ckZ (lf Z) j = 0)) (fun _ _ i _ => n - (intOf i).toNat)
  case atStart => exact ⟨0, Ac, cc, Nat.zero_le _, rfl, rfl, rfl, O0, HB, hcm, rfl⟩
  case round =>
    obtain ⟨j, Ao, co, hj, rfl, rfl, rfl, hO, hBW, hco, h0⟩ := hrel
    clear O0 HB RUN
    obtain ⟨z1, z2⟩ := ckZ_zero _ h0.out
    obtain ⟨p1, p2⟩ := psum_bd (lf Z) z1
    by_cases hlt : j < n
    · obtain ⟨q, o, rfl, hq, hcell⟩ := (HS.out.below (hBW.out.mono hB2)).at_ (k := j) (by rw [← EN.out]; exact hlt)
      rw [i64s_at] at hcell
      have fz := HF.out j
      have KF := Lib.hid (fault_any wr (lf Z j) (psum (lf Z) j) fz p1 p2)
      rw [← ckZ_fault _ h0.out] at KF
      have XJ := Lib.hid (XX.out (j + 1) hlt)
      have CN : Hid (ckZ (lf Z) (j + 1) = 0 → 1 ≤ lf Z j ∧ psum (lf Z) j + lf Z j ≤ 4611686018427387904) := fun hz => by
        obtain ⟨y1, y2⟩ := ckZ_zero _ hz
        have := (psum_bd (lf Z) y1).2
        rw [psum_succ] at this
        exact ⟨(y2 j (by omega)).1, this⟩
      have PS : Hid (psum (lf Z) (j + 1) = psum (lf Z) j + lf Z j) := psum_succ _ _
      obtain ⟨Ad, cd, w3, run3, O3, hb3, hcm3, _⟩ := push_R wr w.heap.size hO.out hBW.out.size (lf Z j) b (by rw [LT.out j hj]; omega)
      rw [LT.out j hj] at run3
      rw [← map_snoc Z b (by rw [← EN.out]; exact hlt)] at O3
      have R3 := Lib.hid run3
      have HO3 := Lib.hid O3
      have HB3 := Lib.hid (hBW.out.trans hb3)
      have HC3 : Hid (cd ≤ maxLen) := hcm3 hco.out
      obtain ⟨x, ex⟩ : ∃ x, x = ckZ (lf Z) (j + 1) := ⟨_, rfl⟩
      have EX := Lib.hid ex
      rw [← ex] at KF XJ CN
      clear ex run3 O3 hb3 hcm3 z1 z2 hO
      generalize lf Z j = v at hcell KF CN PS R3 fz
      generalize psum (lf Z) j = s at p1 p2 KF CN PS
      by_cases x0 : x = 0
      · subst x0
        obtain ⟨v1, v2⟩ := CN.out rfl
        have ws : IntKind.i64.wrap (s + v) = s + v := IntWalk.i64_in _ (by omega)
        clear XJ CN
        go_wp2_with fail
        refine (KF.out).mono ?_
        rintro e w4 ⟨rfl, rfl⟩
        go_wp2_with (at_builtin; refine Hid.out ?_)
        refine Lib.hid (Lib.wpList_append_run _ rfl _ _ _ _ rfl _ _ rfl rfl _ _ (R3.out _) ?_)
        go_wp2_with fail
        go_roundw
        case rel => exact ⟨j + 1, Ad, cd, by omega, rfl, by rw [PS.out], by go_num, HO3, HB3, HC3, EX.out.symm⟩
        case measure => simp [intOf]; omega
      · obtain ⟨e1, e2⟩ := XJ.out x0
        subst e1
        subst e2
        have xb : (x != 0) = true := by rw [bne_iff_ne]; exact x0
        clear XJ CN HE HRR XX
        go_wp2_with fail
        refine (KF.out).mono ?_
        rintro e w4 ⟨rfl, rfl⟩
        go_wp2_with fail
        go_ret2
        exact E.out _ hBW.out x
    · obtain rfl : j = n := by omega
      have hz := h0.out
      have sZ : psum (lf Z) j = Z.sum := by rw [EN.out, psum_lf_all]
      have hER : err = if 4611686018427387904 - Z.sum < T then 13 else 0 := by rw [HE.out, if_neg (by rw [hz]; simp)]
      rw [← sZ] at hER
      obtain ⟨Ad, cd, w3, run3, O3, hb3, hcm3, _⟩ := app_R wr w.heap.size hO.out hBW.out.size (c2 := c - k) (HSUB.out.below hBW.out) (by rw [LT.out j hj, LD.out]; omega)
      rw [LT.out j hj, LD.out] at run3
      rw [← INS.out] at O3
      have lI : (insR L k Z b).length = k + j + (N - k) := by rw [INS.out, List.length_append, LT.out j hj, LD.out]
      have R3 := Lib.hid run3
      have HH : Hid (RwPost w (insR L k Z b) 0 (.returned (.tuple #[.slice Ad (k + j + (N - k)) cd, .int .i64 0])) w3) := ⟨Ad, cd, by rw [lI], O3.see, hBW.out.trans hb3, O3.le, hcm3 hco.out⟩
      have K9 := Lib.hid (KT.out wr hBW.out)
      clear run3 O3 hb3 hcm3 lI KT HSUB hO h0 z1 z2 hz sZ HE XX
      generalize psum (lf Z) j = s at p1 p2 hER
      have ws : IntKind.i64.wrap (4611686018427387904 - s) = 4611686018427387904 - s := IntWalk.i64_in _ (by omega)
      have SB := HSB.out
      by_cases g : 4611686018427387904 - s < T
      · rw [if_pos g] at hER
        have eR : RR = [] := by rw [HRR.out, hER]; rfl
        clear HRR
        subst hER
        subst eR
        go_wp2_with fail
        refine (K9.out).mono ?_
        rintro e w4 ⟨rfl, rfl⟩
        go_wp2_with fail
        go_ret2
        exact E.out _ hBW.out 13
      · rw [if_neg g] at hER
        have eR : RR = insR L k Z b := by rw [HRR.out, hER]; rfl
        clear HRR
        subst hER
        subst eR
        go_wp2_with fail
        refine (K9.out).mono ?_
        rintro e w4 ⟨rfl, rfl⟩
        go_wp2_with (at_builtin; refine Hid.out ?_)
        refine Lib.hid (Lib.wpList_append_run _ rfl _ _ _ _ rfl _ _ rfl rfl _ _ (R3.out _) ?_)
        go_wp2_with fail
        go_ret2
        exact HH.out
end Go.Proofs.Ytngbaiijdgmpoaa

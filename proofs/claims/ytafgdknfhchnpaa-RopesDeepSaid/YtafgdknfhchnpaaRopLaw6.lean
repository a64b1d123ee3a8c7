/-
  The walk of the law RopesDeep.
-/
import Derived.Test.YtafgdknfhchnpaaRopLS2
namespace Go.Proofs.Ytafgdknfhchnpaa
open Go.RowKit
set_option linter.unusedVariables false
set_option linter.unusedSimpArgs false

/-- A slice of sizes of the call's own. -/
abbrev OwnL (w : World) (B : Nat) (A : Option Addr) (c : Nat) (L : List Int) : Prop := Own w B 2 1 L.length c A (i64s (lf L))
theorem own_row {w : World} {B n c : Nat} {e : TypeId} {A : Option Addr} {F : Nat → Value} (h : Own w B e 1 n c A F) : ∀ b, A.map (·.block) = some b → ∃ F', w.rowIs b e c F' := by
  intro b hb
  rcases h with ⟨rfl, _⟩ | ⟨h, g, F', rfl, hg, hr, hF⟩
  · cases hb
  · injection hb with hb
    have : g = b := hb
    subst this
    rw [Nat.mul_one] at hr
    exact ⟨F', hr⟩
theorem rowIs_ne {w : World} {b c : Nat} {t t' : TypeId} {n m : Nat} {f f' : Nat → Value} (h : w.rowIs b t n f) (h' : w.rowIs c t' m f') (ht : t ≠ t') : b ≠ c := by
  rintro rfl
  obtain ⟨c1, h1, _⟩ := h
  obtain ⟨c2, h2, _⟩ := h'
  rw [h1] at h2
  injection h2 with h2
  injection h2 with _ h2 _
  exact ht h2
/-- Ropes in variables stay where an own slice of sizes turns. -/
theorem LS.push {w0 w w' : World} {ps : List (Nat × Option Addr × List Int)} {B n c : Nat} {A : Option Addr} {F : Nat → Value} (h : LS w0 w ps []) (O : Own w B 2 1 n c A F) (hB : w0.heap.size ≤ B) (fr : Fr (fun b => A.map (·.block) = some b) w w') : LS w0 w' ps [] := by
  have hrow := own_row O
  refine ⟨⟨fun x hx => ?_, h.v.bl.trans (fr.below h.v.bl.size fun b hb => by have := (O.blk b hb).1; omega)⟩, fun q hq => nomatch hq⟩
  obtain ⟨h1, h2, t, h3, h4, h5⟩ := h.v.vs x hx
  refine ⟨h1, World.rowIs.of_block h2 (fr.block _ (World.rowIs.lt h2) fun hb => ?_), t, h3.stay (fun b f hr => fr.block _ hr.lt fun hb => ?_), h4, h5⟩
  · obtain ⟨F', hF⟩ := hrow _ hb
    exact rowIs_ne hF h2 (by decide) rfl
  · obtain ⟨F', hF⟩ := hrow _ hb
    exact rowIs_ne hF hr (by decide) rfl
theorem own_set {w : World} {B n c p : Nat} {A r : Option Addr} {F : Nat → Value} (O : Own w B 2 1 n c A F) (hv : Var w p 27 (.pointer r)) (v : Value) : Own (w.setCell ⟨p, 0, none⟩ v) B 2 1 n c A F :=
  O.fr (S := fun b => b = p) (Fr.setCell (S := fun b => b = p) (Fr.refl _ w) (p := ⟨p, 0, none⟩) rfl v) fun b hb e => by
    subst e
    obtain ⟨F', hF⟩ := own_row O _ hb
    exact rowIs_ne hF hv (by decide) rfl

/-- The sizes of the law: few and small. -/
structure Small (L : List Int) : Prop where
  b : ∀ x ∈ L, 0 ≤ x ∧ x ≤ 6
  len : L.length ≤ 255
theorem sum_le6 : ∀ {L : List Int}, (∀ x ∈ L, 0 ≤ x ∧ x ≤ 6) → 0 ≤ L.sum ∧ L.sum ≤ 6 * L.length
  | [], _ => by simp
  | x :: L, h => by
    have := sum_le6 (L := L) (fun y hy => h y (by simp [hy]))
    have := h x (by simp)
    rw [List.sum_cons, List.length_cons]
    omega
theorem Small.ok {L : List Int} (h : Small L) : LOk L := ⟨fun x hx => (h.b x hx).1, by have := h.len; omega, by have := (sum_le6 h.b).2; have := h.len; omega⟩
theorem chk_one {v : Int} (h : 0 ≤ v ∧ v ≤ 6) : chkL [v] = 0 := by
  unfold chkL chk
  rw [if_neg (by simp)]
  exact chkTo_0 _ rfl (by show 0 ≤ v; omega) (by show v ≤ _; omega) (by show v ≤ _ - (0 : Int); omega)
theorem ins_one {L : List Int} (h : Small L) {v : Int} (hv : 0 ≤ v ∧ v ≤ 6) (k : Nat) (hk : k ≤ L.length) : insErr L k [v] = 0 ∧ insTo L k [v] = insL L k [v] := by
  have e : insErr L k [v] = 0 := by
    unfold insErr
    rw [if_neg (by omega), if_neg (by rw [chk_one hv]; decide)]
    unfold joinErr
    have := sum_le6 h.b
    have := h.len
    rw [if_neg (by simp; omega), if_neg (by simp; omega)]
  refine ⟨e, ?_⟩
  unfold insTo
  rw [if_pos e, Int.toNat_natCast]
theorem ins_front {L : List Int} (h : Small L) {v : Int} (hv : 0 ≤ v ∧ v ≤ 6) : insErr L 0 [v] = 0 ∧ insTo L 0 [v] = [v] ++ L := by
  obtain ⟨h1, h2⟩ := ins_one h hv 0 (Nat.zero_le _)
  refine ⟨h1, h2.trans ?_⟩
  simp [insL]
theorem ins_back {L : List Int} (h : Small L) {v : Int} (hv : 0 ≤ v ∧ v ≤ 6) : insErr L (L.length : Nat) [v] = 0 ∧ insTo L (L.length : Nat) [v] = L ++ [v] := by
  obtain ⟨h1, h2⟩ := ins_one h hv L.length (Nat.le_refl _)
  refine ⟨h1, h2.trans ?_⟩
  simp [insL]
theorem Small.front {L : List Int} (h : Small L) {v : Int} (hv : 0 ≤ v ∧ v ≤ 6) (hl : L.length < 255) : Small ([v] ++ L) :=
  ⟨fun x hx => (by
    rcases List.mem_cons.1 hx with rfl | hx
    · exact hv
    · exact h.b x hx), (by simp; omega)⟩
theorem Small.back {L : List Int} (h : Small L) {v : Int} (hv : 0 ≤ v ∧ v ≤ 6) (hl : L.length < 255) : Small (L ++ [v]) :=
  ⟨fun x hx => (by
    rcases List.mem_append.1 hx with hx | hx
    · exact h.b x hx
    · rcases List.mem_cons.1 hx with rfl | hx
      · exact hv
      · cases hx), (by simp; omega)⟩
theorem rem_one {L : List Int} {k : Nat} (hk : k < L.length) : cutErr L k 1 = 0 ∧ remTo L k 1 = L.take k ++ L.drop (k + 1) := by
  have e : cutErr L k 1 = 0 := by unfold cutErr; rw [if_neg (by omega)]
  refine ⟨e, ?_⟩
  unfold remTo
  rw [if_pos e]
  unfold remL
  rw [Int.toNat_natCast, List.drop_drop]
  rfl
theorem Small.rem {L : List Int} (h : Small L) (k : Nat) (hk : k < L.length) : Small (L.take k ++ L.drop (k + 1)) ∧ (L.take k ++ L.drop (k + 1)).length = L.length - 1 := by
  have hl : (L.take k ++ L.drop (k + 1)).length = L.length - 1 := by simp; omega
  refine ⟨⟨fun x hx => ?_, by have := h.len; omega⟩, hl⟩
  rcases List.mem_append.1 hx with hx | hx
  · exact h.b x (List.mem_of_mem_take hx)
  · exact h.b x (List.mem_of_mem_drop hx)
/-- append(own, v) in lists. -/
theorem push_L (w : World) (B : Nat) {c : Nat} {A : Option Addr} {L : List Int} (h : OwnL w B A c L) (hB : B ≤ w.heap.size) (x : Int) (hm : L.length ≤ 100000) :
    ∃ A' c' w', (∀ ty, (Builtin.append_ #[22, 22] ty #[.slice A L.length c, .slice (some ⟨w.heap.size, 0, none⟩) 1 1]).run Try.prog (w.alloc (.cells #[.int .i64 x] 2)) = .ok (.slice A' (L.length + 1) c') w') ∧ OwnL w' B A' c' (L ++ [x]) ∧
      Fr (fun b => A.map (·.block) = some b) w w' ∧ (c ≤ maxLen → c' ≤ maxLen) := by
  obtain ⟨A', c', w', run, O, f, m⟩ := push_i64 w B h hB x hm
  refine ⟨A', c', w', run, ?_, f, m⟩
  unfold OwnL
  rw [List.length_append, List.length_singleton]
  refine O.congr fun j hj => ?_
  show Value.int .i64 (if j < L.length then lf L j else x) = Value.int .i64 (lf (L ++ [x]) j)
  rw [lf_app]
  by_cases d : j < L.length
  · rw [if_pos d, if_pos d]
  · rw [if_neg d, if_neg d, show j - L.length = 0 from by omega]
    rfl
/-- append([]int64{v}, l...). -/
theorem front_L (w : World) (x : Int) {A : Option Addr} {c B2 : Nat} {L : List Int} (hs : SeesL w B2 A L) (hB : B2 ≤ w.heap.size) (hm : L.length ≤ 100000) :
    ∃ A' c' w', (∀ ty, (Builtin.append_ #[22, 22] ty #[.slice (some ⟨w.heap.size, 0, none⟩) 1 1, .slice A L.length c]).run Try.prog (w.alloc (.cells #[.int .i64 x] 2)) = .ok (.slice A' (1 + L.length) c') w') ∧ OwnL w' w.heap.size A' c' ([x] ++ L) ∧ Below w.heap.size w w' ∧ c' ≤ maxLen := by
  have hb : Below w.heap.size w (w.alloc (.cells #[.int .i64 x] 2)) := (Below.refl _ w).alloc (Nat.le_refl _) _
  have O : OwnL (w.alloc (.cells #[.int .i64 x] 2)) w.heap.size (some ⟨w.heap.size, 0, none⟩) 1 [x] := Own.row (World.rowIs_alloc w #[.int .i64 x] _ _ (fun j hj => by
    have h0 : j = 0 := Nat.lt_one_iff.1 hj
    subst h0; rfl)) rfl (Nat.le_refl _)
  obtain ⟨A', c', w', run, O2, hb2, hm2⟩ := app_L (w.alloc (.cells #[.int .i64 x] 2)) w.heap.size O (by rw [World.size_alloc]; omega) (c2 := c) ((hs.more hB).below hb) (by simp; omega)
  exact ⟨A', c', w', run, O2, hb.trans hb2, hm2 (by decide)⟩


set_option maxRecDepth 100000 in
set_option maxHeartbeats 6400000 in
theorem law_deep (a : Int) (front : Bool) (w : World) (f0 : 0 ≤ a) (g0 : a ≤ 255) :
    Calls Try.prog 6 #[.int .u8 a, .bool front] w fun e w' => e = .returned (.bool true) ∧ Below w.heap.size w w' := by
  obtain ⟨n, rfl⟩ : ∃ n : Nat, a = (n : Int) := ⟨a.toNat, by omega⟩
  have X0 : Hid (LS w (w.alloc (.cells #[.pointer none] 27)) [(w.heap.size, none, [])] []) := (LS.start (Below.refl _ w)).cons (Rp.nil _)
  go_enter Try.func6, Try.ntmps6
  go_wp2_with fail
  go_loopw [6, 7, 8] (fun a e i wr => ∃ (k : Nat) (W : List Int) (Aw ra : Option Addr) (cw : Nat), k ≤ n ∧ a = .slice Aw W.length cw ∧ e = .int .i64 0 ∧ i = .int .i64 k ∧ W.length = k ∧ Hid (Small W) ∧ cw ≤ maxLen ∧ Hid (OwnL wr w.heap.size Aw cw W) ∧ Hid (LS w wr [(w.heap.size, ra, W)] [])) (fun _ _ i _ => n - (intOf i).toNat)
  case atStart => exact ⟨0, [], none, none, 0, Nat.zero_le _, rfl, rfl, rfl, rfl, ⟨(fun _ h => nomatch h), Nat.zero_le _⟩, Nat.zero_le _, Own.nil _ _ _ _ _, X0⟩
  case round =>
    obtain ⟨k, W, Aw, ra, cw, hk, rfl, rfl, rfl, hWk, hS, hcw, hO, hX⟩ := hrel
    clear X0
    by_cases hlt : k < n
    · obtain ⟨v, hv⟩ : ∃ v : Int, v = (k : Int) % 7 := ⟨_, rfl⟩
      have hvb : 0 ≤ v ∧ v ≤ 6 := by omega
      have HVB := Lib.hid hvb
      have hvw : IntKind.i64.wrap v = v := IntWalk.i64_in _ (by omega)
      have hk0 : (0 : Int) ≤ (k : Int) := by omega
      have hkn : (k : Int) < (n : Int) := by omega
      cases front with
      | true =>
        obtain ⟨A2, c2, w2, run, O2, hb2, hm2⟩ := front_L wr v (c := cw) hO.out.seesL (Nat.le_refl _) (by omega)
        have RUN := Lib.hid run
        have X2 := Lib.hid (hX.out.below hb2)
        have HO2 := Lib.hid (O2.less hX.out.v.bl.size)
        have g1 := X2.out.get (.head _)
        have d1 := g1.c
        have lw : Below w2.heap.size w2 (w2.alloc (.cells #[.int .i64 v] 2)) := (Below.refl _ w2).alloc (Nat.le_refl _) _
        have KI := Lib.hid (rinsert_any (w2.alloc (.cells #[.int .i64 v] 2)) ra W (g1.r.below lw) hS.out.ok 0 (some ⟨w2.heap.size, 0, none⟩) 1 (w2.heap.size + 1) [v] (litL w2 [v]) (by rw [World.size_alloc]; omega) (Nat.le_refl _) (by simp only [maxLen]; omega) (by simp) (fun x hx => by rcases List.mem_cons.1 hx with rfl | h; exact ⟨by omega, by omega⟩; cases h))
        rw [(ins_front hS.out HVB.out).1, (ins_front hS.out HVB.out).2] at KI
        have HS2 := Lib.hid (hS.out.front HVB.out (by omega))
        obtain ⟨V, eV⟩ : ∃ V, V = [v] ++ W := ⟨_, rfl⟩
        have hVl : V.length = k + 1 := by rw [eV]; simp; omega
        rw [← eV] at KI HS2 HO2
        rw [hWk, show 1 + k = k + 1 from by omega] at RUN
        rw [hWk]
        have HVL := Lib.hid hVl
        first | (unfold OwnL at HO2; skip) | skip
        rw [hVl] at HO2
        clear run O2 hb2 g1 lw hO hX eV hVl hS
        subst hv
        go_wp2_with (at_builtin; refine Hid.out ?_)
        refine Lib.hid (Lib.wpList_append_run _ rfl _ _ _ _ rfl _ _ rfl rfl _ _ (RUN.out _) ?_)
        go_wp2_with fail
        refine (KI.out).mono ?_
        rintro e w3 ⟨an, rfl, p1, hb⟩
        have X3' := ((X2.out.alloc (.cells #[.int .i64 ((k : Int) % 7)] 2)).below hb)
        have O3' := ((HO2.out.below ((Below.refl _ w2).alloc (Nat.le_refl _) (.cells #[.int .i64 ((k : Int) % 7)] 2))).below hb)
        have g1 := X3'.get (.head _)
        have d2 := g1.c
        have d3 := g1.f
        obtain ⟨w4, e4⟩ : ∃ w4, w4 = w3.setCell ⟨w.heap.size, 0, none⟩ (.pointer an) := ⟨_, rfl⟩
        have E4 := Lib.hid e4
        have X4 : Hid (LS w w4 [(w.heap.size, an, V)] []) := by rw [e4]; exact X3'.put (.head _) p1 [] (fun _ h => nomatch h)
        have O4 : Hid (Own w4 w.heap.size 2 1 (k + 1) c2 A2 (i64s (lf V))) := by rw [e4]; exact own_set O3' (X3'.v.vs _ (.head _)).2.1 _
        have g4 := X4.out.get (.head _)
        have d4 := g4.c
        have K8 := Lib.hid (same_any w4 an A2 V c2 _ 0 0 rfl g4.r HS2.out.ok (by unfold SeesL; rw [HVL.out]; have := O4.out.sees; rwa [Nat.mul_one] at this) (Nat.le_refl _))
        rw [HVL.out] at K8
        clear KI X3' O3' g1 p1 hb X2 HO2 d1 e4 g4
        by_cases h31 : (k : Int) % 32 = 31
        · go_wp2_with fail
          rw [← E4.out]
          go_wp2_with fail
          refine (K8.out).mono ?_
          rintro e w5 ⟨rfl, hb⟩
          have X5 := Lib.hid (X4.out.below hb)
          have O5 := Lib.hid (O4.out.below hb)
          clear hb K8 X4 O4 d4 d2 d3
          go_wp2_with fail
          go_roundw
          case rel => exact ⟨k + 1, V, A2, an, c2, by omega, by rw [HVL.out], rfl, by go_num, HVL.out, HS2, hm2, by unfold OwnL; rw [HVL.out]; exact O5, X5⟩
          case measure => simp [intOf]; omega
        · go_wp2_with fail
          rw [← E4.out]
          go_wp2_with fail
          go_roundw
          case rel => exact ⟨k + 1, V, A2, an, c2, by omega, by rw [HVL.out], rfl, by go_num, HVL.out, HS2, hm2, by unfold OwnL; rw [HVL.out]; exact O4, X4⟩
          case measure => simp [intOf]; omega
      | false =>
        obtain ⟨A2, c2, w2, run, O2, fr, mx⟩ := push_L wr w.heap.size hO.out hX.out.v.bl.size v (by omega)
        have RUN := Lib.hid run
        have X2 := Lib.hid (hX.out.push hO.out (Nat.le_refl _) fr)
        have HO2 := Lib.hid O2
        have hm2 := mx hcw
        have g1 := X2.out.get (.head _)
        have d1 := g1.c
        have lw : Below w2.heap.size w2 (w2.alloc (.cells #[.int .i64 v] 2)) := (Below.refl _ w2).alloc (Nat.le_refl _) _
        have KI := Lib.hid (rinsert_any (w2.alloc (.cells #[.int .i64 v] 2)) ra W (g1.r.below lw) hS.out.ok (k : Nat) (some ⟨w2.heap.size, 0, none⟩) 1 (w2.heap.size + 1) [v] (litL w2 [v]) (by rw [World.size_alloc]; omega) (Nat.le_refl _) (by simp only [maxLen]; omega) (by simp) (fun x hx => by rcases List.mem_cons.1 hx with rfl | h; exact ⟨by omega, by omega⟩; cases h))
        rw [← hWk, (ins_back hS.out HVB.out).1, (ins_back hS.out HVB.out).2, hWk] at KI
        have HS2 := Lib.hid (hS.out.back HVB.out (by omega))
        obtain ⟨V, eV⟩ : ∃ V, V = W ++ [v] := ⟨_, rfl⟩
        have hVl : V.length = k + 1 := by rw [eV]; simp; omega
        rw [← eV] at KI HS2 HO2
        rw [hWk] at RUN
        rw [hWk]
        have HVL := Lib.hid hVl
        first | (unfold OwnL at HO2; skip) | skip
        rw [hVl] at HO2
        clear run O2 fr mx g1 lw hO hX eV hVl hS
        subst hv
        go_wp2_with (at_builtin; refine Hid.out ?_)
        refine Lib.hid (Lib.wpList_append_run _ rfl _ _ _ _ rfl _ _ rfl rfl _ _ (RUN.out _) ?_)
        go_wp2_with fail
        refine (KI.out).mono ?_
        rintro e w3 ⟨an, rfl, p1, hb⟩
        have X3' := ((X2.out.alloc (.cells #[.int .i64 ((k : Int) % 7)] 2)).below hb)
        have O3' := ((HO2.out.below ((Below.refl _ w2).alloc (Nat.le_refl _) (.cells #[.int .i64 ((k : Int) % 7)] 2))).below hb)
        have g1 := X3'.get (.head _)
        have d2 := g1.c
        have d3 := g1.f
        obtain ⟨w4, e4⟩ : ∃ w4, w4 = w3.setCell ⟨w.heap.size, 0, none⟩ (.pointer an) := ⟨_, rfl⟩
        have E4 := Lib.hid e4
        have X4 : Hid (LS w w4 [(w.heap.size, an, V)] []) := by rw [e4]; exact X3'.put (.head _) p1 [] (fun _ h => nomatch h)
        have O4 : Hid (Own w4 w.heap.size 2 1 (k + 1) c2 A2 (i64s (lf V))) := by rw [e4]; exact own_set O3' (X3'.v.vs _ (.head _)).2.1 _
        have g4 := X4.out.get (.head _)
        have d4 := g4.c
        have K8 := Lib.hid (same_any w4 an A2 V c2 _ 0 0 rfl g4.r HS2.out.ok (by unfold SeesL; rw [HVL.out]; have := O4.out.sees; rwa [Nat.mul_one] at this) (Nat.le_refl _))
        rw [HVL.out] at K8
        clear KI X3' O3' g1 p1 hb X2 HO2 d1 e4 g4
        by_cases h31 : (k : Int) % 32 = 31
        · go_wp2_with fail
          rw [← E4.out]
          go_wp2_with fail
          refine (K8.out).mono ?_
          rintro e w5 ⟨rfl, hb⟩
          have X5 := Lib.hid (X4.out.below hb)
          have O5 := Lib.hid (O4.out.below hb)
          clear hb K8 X4 O4 d4 d2 d3
          go_wp2_with fail
          go_roundw
          case rel => exact ⟨k + 1, V, A2, an, c2, by omega, by rw [HVL.out], rfl, by go_num, HVL.out, HS2, hm2, by unfold OwnL; rw [HVL.out]; exact O5, X5⟩
          case measure => simp [intOf]; omega
        · go_wp2_with fail
          rw [← E4.out]
          go_wp2_with fail
          go_roundw
          case rel => exact ⟨k + 1, V, A2, an, c2, by omega, by rw [HVL.out], rfl, by go_num, HVL.out, HS2, hm2, by unfold OwnL; rw [HVL.out]; exact O4, X4⟩
          case measure => simp [intOf]; omega
    · obtain rfl : k = n := by omega
      have g1 := hX.out.get (.head _)
      have d1 := g1.c
      have K8 := Lib.hid (same_any wr ra Aw W cw _ 0 0 rfl g1.r hS.out.ok hO.out.seesL (Nat.le_refl _))
      have X1 := Lib.hid (hX.out.add hO.out.seesL)
      have HW := Lib.hid hO.out.le
      rw [hWk] at K8 HW ⊢
      have HWK := Lib.hid hWk
      clear hX hO g1 hWk
      go_wp2_with fail
      refine (K8.out).mono ?_
      rintro e w1 ⟨rfl, hb⟩
      have X2 := Lib.hid (X1.out.below hb)
      clear hb K8 X1 d1
      go_wp2_with fail
      go_loopw [6, 7, 11] (fun a e i wq => ∃ (j m : Nat) (V : List Int) (Av rv : Option Addr) (cv : Nat), j + m = k ∧ a = .slice Av m cv ∧ e = .int .i64 0 ∧ i = .int .i64 j ∧ V.length = m ∧ Hid (Small V) ∧ m ≤ cv ∧ cv ≤ maxLen ∧ Hid (LS w wq [(w.heap.size, rv, V)] [(Av, V)])) (fun _ _ i _ => k + 1 - (intOf i).toNat)
      case atStart => exact ⟨0, k, W, Aw, ra, cw, Nat.zero_add _, rfl, rfl, rfl, HWK.out, hS, HW.out, hcw, X2⟩
      case round =>
        obtain ⟨j, m, V, Av, rv, cv, hjm, rfl, rfl, rfl, hVm, hS2, hmc, hcv, hY⟩ := hrel
        clear X2
        by_cases hlt2 : j < m
        · have hk0 : (0 : Int) ≤ (j : Int) := by omega
          have g1 := hY.out.get (.head _)
          have d1 := g1.c
          have KR := Lib.hid (rremove_any _ rv V g1.r hS2.out.ok j 1)
          rw [(rem_one (L := V) (k := j) (by omega)).1, (rem_one (L := V) (k := j) (by omega)).2] at KR
          have hN := hS2.out.rem j (by omega)
          have HT := Lib.hid ((hY.out.see (.head _)).take j (by omega))
          have HVM := Lib.hid hVm
          clear g1
          go_wp2_with fail
          refine (KR.out).mono ?_
          rintro e w3 ⟨an, rfl, p1, hb⟩
          have Y3 := hY.out.below hb
          have g1 := Y3.get (.head _)
          have d2 := g1.c
          have d3 := g1.f
          obtain ⟨w4, e4⟩ : ∃ w4, w4 = w3.setCell ⟨w.heap.size, 0, none⟩ (.pointer an) := ⟨_, rfl⟩
          have E4 := Lib.hid e4
          have Y4 : Hid (LS w w4 [(w.heap.size, an, V.take j ++ V.drop (j + 1))] [(Av, V)]) := by rw [e4]; exact Y3.put (.head _) p1 [] (fun _ h => nomatch h)
          have S0 : Hid (Below w4.heap.size w4 w4.drew) := (Below.refl _ w4).drew
          have l1 : (V.take j).length = j := by rw [List.length_take]; omega
          have l2 : (V.drop (j + 1)).length = m - (j + 1) := by rw [List.length_drop, hVm]
          obtain ⟨Ac, cc, w5, run, O, hb5, hcm⟩ := clone_L w4.drew (A := Av) (c := cv) (L := V.take j) (((Y4.out.see (.head _)).take j (by omega)).below S0.out) (Nat.le_refl _) (by omega)
          rw [l1] at run
          have B5 : Hid (Below w4.heap.size w4 w5) := S0.out.trans hb5
          have hsub := (Y4.out.see (.head _)).sub (c := cv) (by rw [hVm]; exact hmc) (j + 1) V.length (by omega) (Nat.le_refl _)
          rw [List.take_of_length_le (by rw [List.length_drop]; omega)] at hsub
          obtain ⟨Ad, cd, w6, run2, O2, hb6, hcm2⟩ := app_L w5 w4.heap.size O B5.out.size (c2 := cv - (j + 1)) (hsub.below B5.out) (by rw [l1, l2]; omega)
          rw [l1, l2] at run2
          have B6 : Hid (Below w4.heap.size w4 w6) := B5.out.trans hb6
          have Y6 : Hid (LS w w6 [(w.heap.size, an, V.take j ++ V.drop (j + 1))] [(Ad, V.take j ++ V.drop (j + 1))]) := ((Y4.out.below B6.out).sub (qs' := []) (fun _ h => h) (fun _ h => nomatch h)).add O2.seesL
          have hcd := O2.le
          have hcd2 := hcm2 hcm
          have hsa := sl_h Av m cv j (by omega)
          have hsb := sl_l Av m cv (j + 1) (by omega)
          rw [show ((j + 1 : Nat) : Int) = (j : Int) + 1 from by omega] at hsb
          have hjw : IntKind.i64.wrap ((j : Int) + 1) = (j : Int) + 1 := IntWalk.i64_in _ (by omega)
          obtain ⟨N, eN⟩ : ∃ N, N = V.take j ++ V.drop (j + 1) := ⟨_, rfl⟩
          rw [← eN] at Y6 hN hcd
          rw [hN.2, hVm] at hcd
          have HN := Lib.hid hN
          rw [show j + (m - (j + 1)) = m - 1 from by omega] at run2
          have R1 := Lib.hid run
          have R2 := Lib.hid run2
          have HSA := Lib.hid hsa
          have HSB := Lib.hid hsb
          have HJW := Lib.hid hjw
          clear e4 hb p1 g1 Y3 KR hY l1 l2 run run2 O O2 hb5 hb6 hsub hsa hsb eN hN hVm HT d1 hjw Y4 hcm hcm2
          go_wp2_with fail
          rw [← E4.out]
          clear d2 d3
          have hsa := HSA.out
          have hsb := HSB.out
          have hjw := HJW.out
          refine wp_region_plan [(false, 1), (false, 2), (false, 3), (false, 5), (false, 6), (false, 7), (false, 8), (true, 0), (true, 4), (true, 9), (false, 10)] (Below w4.heap.size w4) (by kernel_rfl) (by kernel_rfl) (S0.out) _ (by simp only [pickH, List.getElem?_toArray, List.getElem?_cons_succ, List.getElem?_cons_zero]; rfl) ?_
          repeat (refine HWalk.step (fun K hK => ?_); first | (apply held_yes; (focus rfl); (focus (intro w' hw; obtain ⟨hc', hf'⟩ := below_cells hw; go_simp; rfl)); (go_simp; refine hK _ ?_; clear hK K)) | (refine ite_no (by decide) ?_; go_simp; refine hK _ ?_; clear hK K))
          clear hsa hsb hjw
          refine HWalk.mark ?_
          go_wp2_with fail
          refine ⟨((Below.refl _ w4).alloc (Nat.le_refl _) (.cells #[] 2)).drew, ?_⟩
          repeat (refine HWalk.step (fun K hK => ?_); first | (apply held_yes; (focus rfl); (focus (intro w' hw; obtain ⟨hc', hf'⟩ := below_cells hw; go_simp; rfl)); (go_simp; refine hK _ ?_; clear hK K)) | (refine ite_no (by decide) ?_; go_simp; refine hK _ ?_; clear hK K))
          refine HWalk.mark ?_
          go_wp2_with (at_builtin; refine Hid.out ?_)
          refine Lib.hid (Lib.wpList_append_run _ rfl _ _ _ _ rfl _ _ rfl rfl _ _ (R1.out _) ?_)
          go_wp2_with fail
          refine ⟨B5.out, ?_⟩
          repeat (refine HWalk.step (fun K hK => ?_); first | (apply held_yes; (focus rfl); (focus (intro w' hw; obtain ⟨hc', hf'⟩ := below_cells hw; go_simp; rfl)); (go_simp; refine hK _ ?_; clear hK K)) | (refine ite_no (by decide) ?_; go_simp; refine hK _ ?_; clear hK K))
          refine HWalk.mark ?_
          go_wp2_with (at_builtin; refine Hid.out ?_)
          refine Lib.hid (Lib.wpList_append_run _ rfl _ _ _ _ rfl _ _ rfl rfl _ _ (R2.out _) ?_)
          go_wp2_with fail
          refine ⟨B6.out, ?_⟩
          repeat (refine HWalk.step (fun K hK => ?_); first | (apply held_yes; (focus rfl); (focus (intro w' hw; obtain ⟨hc', hf'⟩ := below_cells hw; go_simp; rfl)); (go_simp; refine hK _ ?_; clear hK K)) | (refine ite_no (by decide) ?_; go_simp; refine hK _ ?_; clear hK K))
          have g6 := Y6.out.get (.head _)
          have d6 := g6.c
          have K9 := Lib.hid (same_any w6 an Ad N cd _ 0 0 rfl g6.r HN.out.1.ok (Y6.out.see (.head _)) (Nat.le_refl _))
          rw [HN.out.2, HVM.out] at K9
          clear g6
          by_cases h31 : (j : Int) % 32 = 31
          · refine HWalk.done ?_
            go_wp2_with fail
            refine (K9.out).mono ?_
            rintro e w7 ⟨rfl, hb⟩
            have Y7 := Lib.hid (Y6.out.below hb)
            clear hb K9 Y6 d6
            go_wp2_with fail
            go_roundw
            case rel => exact ⟨j + 1, m - 1, N, Ad, an, cd, by omega, rfl, rfl, by go_num, by rw [HN.out.2, HVM.out], HN.out.1, hcd, hcd2, Y7⟩
            case measure => simp [intOf]; omega
          · refine HWalk.done ?_
            go_wp2_with fail
            go_roundw
            case rel => exact ⟨j + 1, m - 1, N, Ad, an, cd, by omega, rfl, rfl, by go_num, by rw [HN.out.2, HVM.out], HN.out.1, hcd, hcd2, Y6⟩
            case measure => simp [intOf]; omega
        · have hnl : ¬ (j : Int) < (m : Int) := by omega
          have g1 := hY.out.get (.head _)
          have d1 := g1.c
          have K9 := Lib.hid (same_any wr rv Av V cv _ 0 0 rfl g1.r hS2.out.ok (hY.out.see (.head _)) (Nat.le_refl _))
          rw [hVm] at K9
          clear g1
          go_wp2_with fail
          refine (K9.out).mono ?_
          rintro e w7 ⟨rfl, hb⟩
          have Y7 := Lib.hid (hY.out.below hb)
          clear hb K9 hY d1
          go_wp2_with fail
          refine (lives_yes _).mono ?_
          rintro e w8 ⟨rfl, hb⟩
          have Y8 := Lib.hid (Y7.out.below hb)
          clear hb
          go_wp2_with fail
          go_ret
          exact ⟨rfl, Y8.out.v.bl⟩
end Go.Proofs.Ytafgdknfhchnpaa

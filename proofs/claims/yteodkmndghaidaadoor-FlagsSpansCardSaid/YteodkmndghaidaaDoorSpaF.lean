/-
  Contracts of package spans, sixth: Insert, Remove.
-/
import Derived.Test.YteodkmndghaidaaDoorSpaE
namespace Go.Proofs.YteodkmndghaidaaDoor
open Go.RowKit
set_option linter.unusedVariables false
set_option linter.unusedSimpArgs false

def InsPost (w : World) (L : Sp) (a n : Int) (e : Ending) (w' : World) : Prop :=
  (rngS L a n ≠ 0 ∧ SPost w [] (rngS L a n) e w') ∨ (rngS L a n = 0 ∧ (a < endS (-1) L ∧ 1073741824 < endS (-1) L + n) ∧ SPost w [] 4 e w') ∨
    (rngS L a n = 0 ∧ ¬ (a < endS (-1) L ∧ 1073741824 < endS (-1) L + n) ∧ ∃ R, InsTo L a n L.length R ∧ SPost w (dS R) (dE R) e w')
def RemPost (w : World) (L : Sp) (a n : Int) (e : Ending) (w' : World) : Prop :=
  (rngS L a n ≠ 0 ∧ SPost w [] (rngS L a n) e w') ∨ (rngS L a n = 0 ∧ ∃ R, RemTo L a n L.length R ∧ SPost w (dS R) (dE R) e w')
theorem rngS_zero {L : Sp} {a n : Int} (h : rngS L a n = 0) : NF L ∧ L.length ≤ 4096 ∧ 0 ≤ a ∧ a ≤ 1073741824 ∧ 0 ≤ n ∧ n ≤ 1073741824 := by
  unfold rngS at h
  by_cases c : chkS L ≠ 0
  · rw [if_pos c] at h; exact absurd h c
  · rw [if_neg c] at h
    by_cases d : a < 0 ∨ 1073741824 < a ∨ n < 0 ∨ 1073741824 < n
    · rw [if_pos d] at h; exact absurd h (by decide)
    · obtain ⟨h1, h2⟩ := chkS_zero.1 (Decidable.not_not.1 c)
      exact ⟨h1, h2, by omega, by omega, by omega, by omega⟩
theorem end_last {L : Sp} {k : Nat} (h : L.length = k + 1) : (sg L k).2 = endS (-1) L := by
  have e : L = L.take k ++ [sg L k] := by
    have h2 : L.take (k + 1) = L.take k ++ [sg L k] := by rw [sg_get L (by omega), List.take_succ_eq_append_getElem (by omega)]
    rwa [List.take_of_length_le (by omega)] at h2
  have := congrArg (endS (-1)) e
  rw [endS_append] at this
  exact this.symm
theorem end_le_last {L : Sp} (hN : NF L) {k : Nat} (hk : k < L.length) : (sg L k).2 ≤ endS (-1) L := (NFfrom.mem hN _ (sg_mem L hk)).2.2.1


set_option maxRecDepth 100000 in
set_option maxHeartbeats 6400000 in
theorem insert_any (w : World) (B : Nat) (A : Option Addr) (c : Nat) (L : Sp) (a n : Int) (h : SeesP w B A L) (hB : B ≤ w.heap.size) (hf : FitsS L) (hn : L.length ≤ 1000000000000000) (fa : Fits a) (fn : Fits n) :
    Calls Tryd.prog 31 #[.slice A L.length c, .int .i64 a, .int .i64 n] w (InsPost w L a n) := by
  have K1 := Lib.hid (ranged_any w B A c L a n h hB hf hn fa fn)
  have HS := Lib.hid (h.more hB)
  by_cases x0 : rngS L a n = 0
  case neg =>
    have H : Hid (∀ W, Below w.heap.size w W → InsPost w L a n (.returned (.tuple #[.slice none 0 0, .int .i64 (rngS L a n)])) W) := fun W hb => .inl ⟨x0, SPost.none hb _⟩
    have xb : (rngS L a n != 0) = true := by rw [bne_iff_ne]; exact x0
    obtain ⟨Q, eQ⟩ : ∃ Q, Q = InsPost w L a n := ⟨_, rfl⟩
    rw [← eQ] at H ⊢
    obtain ⟨m, em⟩ : ∃ n, n = L.length := ⟨_, rfl⟩
    obtain ⟨x, ex⟩ : ∃ r, r = rngS L a n := ⟨_, rfl⟩
    rw [← em, ← ex] at K1
    rw [← ex] at H xb
    rw [← em]
    clear h hf hn em ex x0 eQ
    go_enter Tryd.func31, Tryd.ntmps31
    go_wp2_with fail
    refine (K1.out).mono ?_
    rintro e w1 ⟨rfl, hb⟩
    have B1 := Lib.hid hb
    clear hb K1
    go_wp2_with fail
    exact H.out _ B1.out
  obtain ⟨nf, hl, ha0, ha1, hn0, hn1⟩ := rngS_zero x0
  by_cases hfar : a < endS (-1) L ∧ 1073741824 < endS (-1) L + n
  · have H : Hid (∀ W, Below w.heap.size w W → InsPost w L a n (.returned (.tuple #[.slice none 0 0, .int .i64 4])) W) := fun W hb => .inr (.inl ⟨x0, hfar, SPost.none hb _⟩)
    rw [x0] at K1
    obtain ⟨k, hk⟩ : ∃ k, L.length = k + 1 := by
      cases e : L.length with
      | zero =>
        have : L = [] := List.length_eq_zero_iff.1 e
        rw [this] at hfar
        have : endS (-1) ([] : Sp) = -1 := rfl
        omega
      | succ k => exact ⟨k, rfl⟩
    have hE := end_last hk
    have hE2 := NFfrom.end_le nf (by omega)
    have HC : Hid (∀ W, Below w.heap.size w W → ∃ b o, A = some ⟨b, o, none⟩ ∧ b < w.heap.size ∧ W.cell? ⟨b, o + k * 2, none⟩ = some (.int .i64 (sg L k).1) ∧ W.cell? ⟨b, o + k * 2 + 1, none⟩ = some (.int .i64 (sg L k).2)) := fun W hW => SeesP.cells (HS.out.below hW) (by omega)
    rw [hE] at HC
    obtain ⟨y, hy⟩ : ∃ y, y = endS (-1) L := ⟨_, rfl⟩
    rw [← hy] at HC hfar hE2
    obtain ⟨f1, f2⟩ := hfar
    obtain ⟨Q, eQ⟩ : ∃ Q, Q = InsPost w L a n := ⟨_, rfl⟩
    rw [← eQ] at H ⊢
    rw [hk] at K1 hl ⊢
    clear h hf hn x0 eQ nf hE hk hy
    go_enter Tryd.func31, Tryd.ntmps31
    go_wp2_with fail
    refine (K1.out).mono ?_
    rintro e w1 ⟨rfl, hb⟩
    obtain ⟨b, o, rfl, _, _, c1⟩ := HC.out w1 hb
    have B1 := Lib.hid hb
    clear hb K1
    go_wp2_with fail
    exact H.out _ B1.out
  · rw [x0] at K1
    have H : Hid (∀ R e w', InsTo L a n L.length R → SPost w (dS R) (dE R) e w' → InsPost w L a n e w') := fun R e w' h1 h2 => .inr (.inr ⟨x0, hfar, R, h1, h2⟩)
    have I0 : Hid (InsTo L a n 0 []) := InsTo.start L a n hn0
    have NL := Lib.hid nf
    have hE2 := NFfrom.end_le nf (by omega)
    have hfar' : endS (-1) L ≤ a ∨ endS (-1) L + n ≤ 1073741824 := by omega
    have HST : Hid (∀ k O, k < L.length → InsTo L a n k O → InsTo L a n (k + 1) (addS (addS O (sg L k).1 (min (sg L k).2 a)) (max (sg L k).1 a + n) ((sg L k).2 + n)) ∧ NF (addS O (sg L k).1 (min (sg L k).2 a))) := fun k O hk h => h.step nf hk ha0 hn0 (fun c => by have := end_le_last nf hk; omega)
    obtain ⟨m, em⟩ : ∃ n, n = L.length := ⟨_, rfl⟩
    have EM := Lib.hid em
    obtain ⟨y, hy⟩ : ∃ y, y = endS (-1) L := ⟨_, rfl⟩
    have HLAST : Hid (∀ k, m = k + 1 → (sg L k).2 = y) := fun k hk => by rw [hy]; exact end_last (by rw [← em]; exact hk)
    rw [← hy] at hfar' hE2
    obtain ⟨Q, eQ⟩ : ∃ Q, Q = InsPost w L a n := ⟨_, rfl⟩
    rw [← eQ] at H ⊢
    rw [← em] at K1 hl ⊢
    clear h hf hn x0 eQ nf em hy hfar
    cases m with
    | zero =>
      go_enter Tryd.func31, Tryd.ntmps31
      go_wp2_with fail
      refine (K1.out).mono ?_
      rintro e w1 ⟨rfl, hb⟩
      have B1 := Lib.hid hb
      clear hb K1
      go_wp2_with fail
      go_loopw [10, 46] (fun o i wr => o = .slice none 0 0 ∧ i = .int .i64 0 ∧ Hid (Below w.heap.size w wr)) (fun _ _ _ => 0)
      case atStart => exact ⟨rfl, rfl, B1⟩
      case round =>
        obtain ⟨rfl, rfl, hD⟩ := hrel
        have KD := Lib.hid (done_any w wr none 0 [] (seesP_nil _ _) (Nat.le_refl _) (by decide) hD.out)
        go_wp2_with fail
        refine (KD.out).mono ?_
        rintro e w5 ⟨A5, rfl, q1, hb⟩
        have HH := Lib.hid (H.out [] _ _ (by rw [← EM.out]; exact I0.out) ⟨A5, rfl, q1, hb⟩)
        clear q1 hb KD
        go_wp2_with fail
        exact HH.out
    | succ q =>
      have hy := HLAST.out q rfl
      go_enter Tryd.func31, Tryd.ntmps31
      go_wp2_with fail
      refine (K1.out).mono ?_
      rintro e w1 ⟨rfl, hb⟩
      obtain ⟨b, o, rfl, _, _, c1⟩ := SeesP.cells (HS.out.below hb) (k := q) (by rw [← EM.out]; omega)
      rw [hy] at c1
      clear hy
      have B1 := Lib.hid hb
      clear hb K1
      rcases hfar' with hq | hq
      · go_wp2_with fail
        clear HLAST
        go_loopw [10, 46] (fun o i wr => ∃ (k : Nat) (O : Sp) (Ao : Option Addr) (co : Nat), k ≤ (q + 1) ∧ o = .slice Ao O.length co ∧ i = .int .i64 k ∧ Hid (OwnP wr w.heap.size Ao co O) ∧ Hid (InsTo L a n k O) ∧ Hid (Below w.heap.size w wr)) (fun _ i _ => (q + 1) - (intOf i).toNat)
        case atStart => exact ⟨0, [], none, 0, Nat.zero_le _, rfl, rfl, Own.nil _ _ _ _ _, I0, B1⟩
        case round =>
          obtain ⟨k, O, Ao, co, hk, rfl, rfl, hO, hI, hD⟩ := hrel
          clear B1 I0
          by_cases hlt : k < (q + 1)
          · obtain ⟨b', o', hA', hb0, e0, e1⟩ := SeesP.cells (HS.out.below hD.out) (k := k) (by rw [← EM.out]; exact hlt)
            cases hA'
            obtain ⟨m1, m2, m3, m4⟩ := NFfrom.mem NL.out _ (sg_mem L (show k < L.length by rw [← EM.out]; exact hlt))
            obtain ⟨st1, st2⟩ := HST.out k O (by rw [← EM.out]; exact hlt) hI.out
            obtain ⟨x, hx⟩ : ∃ x, x = (sg L k).1 := ⟨_, rfl⟩
            obtain ⟨z, hz⟩ : ∃ x, x = (sg L k).2 := ⟨_, rfl⟩
            rw [← hx] at e0 m1 m2 st1 st2
            rw [← hz] at e1 m2 m4 st1 st2
            have hlen := NF.len hI.out.nf
            have hlen2 := NF.len st2
            have ST := Lib.hid st1
            have D1 : Hid (Below w.heap.size w (wr.alloc (.cells #[.int .i64 x, .int .i64 z] 63))) := hD.out.alloc hD.out.size _
            have KA := Lib.hid (add_any (wr.alloc (.cells #[.int .i64 x, .int .i64 z] 63)) w.heap.size Ao co O x (min z a) (hO.out.below ((Below.refl _ wr).alloc (Nat.le_refl _) _)) D1.out.size (by omega) ⟨by omega, by omega⟩ ⟨by omega, by omega⟩ (NF.fits hI.out.nf))
            have NF2 := Lib.hid st2
            obtain ⟨O1, eO1⟩ : ∃ O1, O1 = addS O x (min z a) := ⟨_, rfl⟩
            rw [← eO1] at KA ST NF2 hlen2
            obtain ⟨nO, enO⟩ : ∃ n, n = O.length := ⟨_, rfl⟩
            rw [← enO] at KA ⊢
            have bx0 := (World.rowIs_alloc wr #[.int .i64 x, .int .i64 z] 63 (fun j => if j = 0 then .int .i64 x else .int .i64 z) (fun j hj => by
              have : j = 0 ∨ j = 1 := by simp at hj; omega
              rcases this with rfl | rfl <;> rfl))
            have BX := Lib.hid bx0
            have hO' := hO
            clear hx hz st1 st2 eO1 hO hI hlen m3 enO bx0
            go_wp2_with fail
            have hAb := Lib.hid (fun b hb => (hO'.out.blk b hb).2)
            refine (KA.out).mono ?_
            rintro e w5 ⟨A5, c5, rfl, O5, hb, _, hfr⟩
            have D5 := Lib.hid (D1.out.trans hb)
            have BX5 := Lib.hid (World.rowIs.of_block BX.out (hfr.block _ (World.rowIs.lt BX.out) (fun hbl => by have := hAb.out _ hbl; omega)))
            have u0 := BX5.out.cell (i := 0) (by simp)
            have u1 := BX5.out.cell (i := 1) (by simp)
            have KB := Lib.hid (add_any w5 w.heap.size A5 c5 O1 (max x a + n) (z + n) O5 D5.out.size (by omega) ⟨by omega, by omega⟩ ⟨by omega, by omega⟩ (NF.fits NF2.out))
            obtain ⟨O2, eO2⟩ : ∃ O2, O2 = addS O1 (max x a + n) (z + n) := ⟨_, rfl⟩
            rw [← eO2] at KB ST
            obtain ⟨n1, en1⟩ : ∃ n, n = O1.length := ⟨_, rfl⟩
            rw [← en1] at KB ⊢
            rw [if_pos rfl] at u0
            rw [if_neg (by decide)] at u1
            clear hb hfr O5 KA BX hAb eO2 en1 e0 e1 hO'
            go_wp2_with fail
            refine (KB.out).mono ?_
            rintro e w6 ⟨A6, c6, rfl, O6, hb, _⟩
            have D6 := Lib.hid (D5.out.trans hb)
            have P6 := Lib.hid O6
            clear hb O6 KB u0 u1 BX5
            go_wp2_with fail
            go_roundw
            case rel => exact ⟨k + 1, O2, A6, c6, by omega, rfl, by go_num, P6, ST, D6⟩
            case measure => simp [intOf]; omega
          · obtain rfl : k = (q + 1) := by omega
            have KD := Lib.hid (done_any w wr Ao co O (hO.out.sees) hO.out.le (by have := NF.len hI.out.nf; omega) hD.out)
            go_wp2_with fail
            refine (KD.out).mono ?_
            rintro e w5 ⟨A5, rfl, q1, hb⟩
            have HH := Lib.hid (H.out O _ _ (by rw [← EM.out]; exact hI.out) ⟨A5, rfl, q1, hb⟩)
            clear q1 hb KD
            go_wp2_with fail
            exact HH.out
      · by_cases hq2 : y ≤ a
        · go_wp2_with fail
          clear HLAST
          go_loopw [10, 46] (fun o i wr => ∃ (k : Nat) (O : Sp) (Ao : Option Addr) (co : Nat), k ≤ (q + 1) ∧ o = .slice Ao O.length co ∧ i = .int .i64 k ∧ Hid (OwnP wr w.heap.size Ao co O) ∧ Hid (InsTo L a n k O) ∧ Hid (Below w.heap.size w wr)) (fun _ i _ => (q + 1) - (intOf i).toNat)
          case atStart => exact ⟨0, [], none, 0, Nat.zero_le _, rfl, rfl, Own.nil _ _ _ _ _, I0, B1⟩
          case round =>
            obtain ⟨k, O, Ao, co, hk, rfl, rfl, hO, hI, hD⟩ := hrel
            clear B1 I0
            by_cases hlt : k < (q + 1)
            · obtain ⟨b', o', hA', hb0, e0, e1⟩ := SeesP.cells (HS.out.below hD.out) (k := k) (by rw [← EM.out]; exact hlt)
              cases hA'
              obtain ⟨m1, m2, m3, m4⟩ := NFfrom.mem NL.out _ (sg_mem L (show k < L.length by rw [← EM.out]; exact hlt))
              obtain ⟨st1, st2⟩ := HST.out k O (by rw [← EM.out]; exact hlt) hI.out
              obtain ⟨x, hx⟩ : ∃ x, x = (sg L k).1 := ⟨_, rfl⟩
              obtain ⟨z, hz⟩ : ∃ x, x = (sg L k).2 := ⟨_, rfl⟩
              rw [← hx] at e0 m1 m2 st1 st2
              rw [← hz] at e1 m2 m4 st1 st2
              have hlen := NF.len hI.out.nf
              have hlen2 := NF.len st2
              have ST := Lib.hid st1
              have D1 : Hid (Below w.heap.size w (wr.alloc (.cells #[.int .i64 x, .int .i64 z] 63))) := hD.out.alloc hD.out.size _
              have KA := Lib.hid (add_any (wr.alloc (.cells #[.int .i64 x, .int .i64 z] 63)) w.heap.size Ao co O x (min z a) (hO.out.below ((Below.refl _ wr).alloc (Nat.le_refl _) _)) D1.out.size (by omega) ⟨by omega, by omega⟩ ⟨by omega, by omega⟩ (NF.fits hI.out.nf))
              have NF2 := Lib.hid st2
              obtain ⟨O1, eO1⟩ : ∃ O1, O1 = addS O x (min z a) := ⟨_, rfl⟩
              rw [← eO1] at KA ST NF2 hlen2
              obtain ⟨nO, enO⟩ : ∃ n, n = O.length := ⟨_, rfl⟩
              rw [← enO] at KA ⊢
              have bx0 := (World.rowIs_alloc wr #[.int .i64 x, .int .i64 z] 63 (fun j => if j = 0 then .int .i64 x else .int .i64 z) (fun j hj => by
                have : j = 0 ∨ j = 1 := by simp at hj; omega
                rcases this with rfl | rfl <;> rfl))
              have BX := Lib.hid bx0
              have hO' := hO
              clear hx hz st1 st2 eO1 hO hI hlen m3 enO bx0
              go_wp2_with fail
              have hAb := Lib.hid (fun b hb => (hO'.out.blk b hb).2)
              refine (KA.out).mono ?_
              rintro e w5 ⟨A5, c5, rfl, O5, hb, _, hfr⟩
              have D5 := Lib.hid (D1.out.trans hb)
              have BX5 := Lib.hid (World.rowIs.of_block BX.out (hfr.block _ (World.rowIs.lt BX.out) (fun hbl => by have := hAb.out _ hbl; omega)))
              have u0 := BX5.out.cell (i := 0) (by simp)
              have u1 := BX5.out.cell (i := 1) (by simp)
              have KB := Lib.hid (add_any w5 w.heap.size A5 c5 O1 (max x a + n) (z + n) O5 D5.out.size (by omega) ⟨by omega, by omega⟩ ⟨by omega, by omega⟩ (NF.fits NF2.out))
              obtain ⟨O2, eO2⟩ : ∃ O2, O2 = addS O1 (max x a + n) (z + n) := ⟨_, rfl⟩
              rw [← eO2] at KB ST
              obtain ⟨n1, en1⟩ : ∃ n, n = O1.length := ⟨_, rfl⟩
              rw [← en1] at KB ⊢
              rw [if_pos rfl] at u0
              rw [if_neg (by decide)] at u1
              clear hb hfr O5 KA BX hAb eO2 en1 e0 e1 hO'
              go_wp2_with fail
              refine (KB.out).mono ?_
              rintro e w6 ⟨A6, c6, rfl, O6, hb, _⟩
              have D6 := Lib.hid (D5.out.trans hb)
              have P6 := Lib.hid O6
              clear hb O6 KB u0 u1 BX5
              go_wp2_with fail
              go_roundw
              case rel => exact ⟨k + 1, O2, A6, c6, by omega, rfl, by go_num, P6, ST, D6⟩
              case measure => simp [intOf]; omega
            · obtain rfl : k = (q + 1) := by omega
              have KD := Lib.hid (done_any w wr Ao co O (hO.out.sees) hO.out.le (by have := NF.len hI.out.nf; omega) hD.out)
              go_wp2_with fail
              refine (KD.out).mono ?_
              rintro e w5 ⟨A5, rfl, q1, hb⟩
              have HH := Lib.hid (H.out O _ _ (by rw [← EM.out]; exact hI.out) ⟨A5, rfl, q1, hb⟩)
              clear q1 hb KD
              go_wp2_with fail
              exact HH.out
        · go_wp2_with fail
          clear HLAST
          go_loopw [10, 46] (fun o i wr => ∃ (k : Nat) (O : Sp) (Ao : Option Addr) (co : Nat), k ≤ (q + 1) ∧ o = .slice Ao O.length co ∧ i = .int .i64 k ∧ Hid (OwnP wr w.heap.size Ao co O) ∧ Hid (InsTo L a n k O) ∧ Hid (Below w.heap.size w wr)) (fun _ i _ => (q + 1) - (intOf i).toNat)
          case atStart => exact ⟨0, [], none, 0, Nat.zero_le _, rfl, rfl, Own.nil _ _ _ _ _, I0, B1⟩
          case round =>
            obtain ⟨k, O, Ao, co, hk, rfl, rfl, hO, hI, hD⟩ := hrel
            clear B1 I0
            by_cases hlt : k < (q + 1)
            · obtain ⟨b', o', hA', hb0, e0, e1⟩ := SeesP.cells (HS.out.below hD.out) (k := k) (by rw [← EM.out]; exact hlt)
              cases hA'
              obtain ⟨m1, m2, m3, m4⟩ := NFfrom.mem NL.out _ (sg_mem L (show k < L.length by rw [← EM.out]; exact hlt))
              obtain ⟨st1, st2⟩ := HST.out k O (by rw [← EM.out]; exact hlt) hI.out
              obtain ⟨x, hx⟩ : ∃ x, x = (sg L k).1 := ⟨_, rfl⟩
              obtain ⟨z, hz⟩ : ∃ x, x = (sg L k).2 := ⟨_, rfl⟩
              rw [← hx] at e0 m1 m2 st1 st2
              rw [← hz] at e1 m2 m4 st1 st2
              have hlen := NF.len hI.out.nf
              have hlen2 := NF.len st2
              have ST := Lib.hid st1
              have D1 : Hid (Below w.heap.size w (wr.alloc (.cells #[.int .i64 x, .int .i64 z] 63))) := hD.out.alloc hD.out.size _
              have KA := Lib.hid (add_any (wr.alloc (.cells #[.int .i64 x, .int .i64 z] 63)) w.heap.size Ao co O x (min z a) (hO.out.below ((Below.refl _ wr).alloc (Nat.le_refl _) _)) D1.out.size (by omega) ⟨by omega, by omega⟩ ⟨by omega, by omega⟩ (NF.fits hI.out.nf))
              have NF2 := Lib.hid st2
              obtain ⟨O1, eO1⟩ : ∃ O1, O1 = addS O x (min z a) := ⟨_, rfl⟩
              rw [← eO1] at KA ST NF2 hlen2
              obtain ⟨nO, enO⟩ : ∃ n, n = O.length := ⟨_, rfl⟩
              rw [← enO] at KA ⊢
              have bx0 := (World.rowIs_alloc wr #[.int .i64 x, .int .i64 z] 63 (fun j => if j = 0 then .int .i64 x else .int .i64 z) (fun j hj => by
                have : j = 0 ∨ j = 1 := by simp at hj; omega
                rcases this with rfl | rfl <;> rfl))
              have BX := Lib.hid bx0
              have hO' := hO
              clear hx hz st1 st2 eO1 hO hI hlen m3 enO bx0
              go_wp2_with fail
              have hAb := Lib.hid (fun b hb => (hO'.out.blk b hb).2)
              refine (KA.out).mono ?_
              rintro e w5 ⟨A5, c5, rfl, O5, hb, _, hfr⟩
              have D5 := Lib.hid (D1.out.trans hb)
              have BX5 := Lib.hid (World.rowIs.of_block BX.out (hfr.block _ (World.rowIs.lt BX.out) (fun hbl => by have := hAb.out _ hbl; omega)))
              have u0 := BX5.out.cell (i := 0) (by simp)
              have u1 := BX5.out.cell (i := 1) (by simp)
              have KB := Lib.hid (add_any w5 w.heap.size A5 c5 O1 (max x a + n) (z + n) O5 D5.out.size (by omega) ⟨by omega, by omega⟩ ⟨by omega, by omega⟩ (NF.fits NF2.out))
              obtain ⟨O2, eO2⟩ : ∃ O2, O2 = addS O1 (max x a + n) (z + n) := ⟨_, rfl⟩
              rw [← eO2] at KB ST
              obtain ⟨n1, en1⟩ : ∃ n, n = O1.length := ⟨_, rfl⟩
              rw [← en1] at KB ⊢
              rw [if_pos rfl] at u0
              rw [if_neg (by decide)] at u1
              clear hb hfr O5 KA BX hAb eO2 en1 e0 e1 hO'
              go_wp2_with fail
              refine (KB.out).mono ?_
              rintro e w6 ⟨A6, c6, rfl, O6, hb, _⟩
              have D6 := Lib.hid (D5.out.trans hb)
              have P6 := Lib.hid O6
              clear hb O6 KB u0 u1 BX5
              go_wp2_with fail
              go_roundw
              case rel => exact ⟨k + 1, O2, A6, c6, by omega, rfl, by go_num, P6, ST, D6⟩
              case measure => simp [intOf]; omega
            · obtain rfl : k = (q + 1) := by omega
              have KD := Lib.hid (done_any w wr Ao co O (hO.out.sees) hO.out.le (by have := NF.len hI.out.nf; omega) hD.out)
              go_wp2_with fail
              refine (KD.out).mono ?_
              rintro e w5 ⟨A5, rfl, q1, hb⟩
              have HH := Lib.hid (H.out O _ _ (by rw [← EM.out]; exact hI.out) ⟨A5, rfl, q1, hb⟩)
              clear q1 hb KD
              go_wp2_with fail
              exact HH.out

set_option maxRecDepth 100000 in
set_option maxHeartbeats 6400000 in
theorem remove_any (w : World) (B : Nat) (A : Option Addr) (c : Nat) (L : Sp) (a n : Int) (h : SeesP w B A L) (hB : B ≤ w.heap.size) (hf : FitsS L) (hn : L.length ≤ 1000000000000000) (fa : Fits a) (fn : Fits n) :
    Calls Tryd.prog 32 #[.slice A L.length c, .int .i64 a, .int .i64 n] w (RemPost w L a n) := by
  have K1 := Lib.hid (ranged_any w B A c L a n h hB hf hn fa fn)
  have HS := Lib.hid (h.more hB)
  by_cases x0 : rngS L a n = 0
  case neg =>
    have H : Hid (∀ W, Below w.heap.size w W → RemPost w L a n (.returned (.tuple #[.slice none 0 0, .int .i64 (rngS L a n)])) W) := fun W hb => .inl ⟨x0, SPost.none hb _⟩
    have xb : (rngS L a n != 0) = true := by rw [bne_iff_ne]; exact x0
    obtain ⟨Q, eQ⟩ : ∃ Q, Q = RemPost w L a n := ⟨_, rfl⟩
    rw [← eQ] at H ⊢
    obtain ⟨m, em⟩ : ∃ n, n = L.length := ⟨_, rfl⟩
    obtain ⟨x, ex⟩ : ∃ r, r = rngS L a n := ⟨_, rfl⟩
    rw [← em, ← ex] at K1
    rw [← ex] at H xb
    rw [← em]
    clear h hf hn em ex x0 eQ
    go_enter Tryd.func32, Tryd.ntmps32
    go_wp2_with fail
    refine (K1.out).mono ?_
    rintro e w1 ⟨rfl, hb⟩
    have B1 := Lib.hid hb
    clear hb K1
    go_wp2_with fail
    exact H.out _ B1.out
  obtain ⟨nf, hl, ha0, ha1, hn0, hn1⟩ := rngS_zero x0
  rw [x0] at K1
  have H : Hid (∀ R e w', RemTo L a n L.length R → SPost w (dS R) (dE R) e w' → RemPost w L a n e w') := fun R e w' h1 h2 => .inr ⟨x0, R, h1, h2⟩
  have I0 : Hid (RemTo L a n 0 []) := RemTo.start L a n ha0 hn0
  have NL := Lib.hid nf
  have HST : Hid (∀ k O, k < L.length → RemTo L a n k O → RemTo L a n (k + 1) (addS (addS O (sg L k).1 (min (sg L k).2 a)) (max (sg L k).1 (a + n) - n) ((sg L k).2 - n)) ∧ NF (addS O (sg L k).1 (min (sg L k).2 a))) := fun k O hk h => h.step nf hk ha0 hn0
  obtain ⟨m, em⟩ : ∃ n, n = L.length := ⟨_, rfl⟩
  have EM := Lib.hid em
  obtain ⟨Q, eQ⟩ : ∃ Q, Q = RemPost w L a n := ⟨_, rfl⟩
  rw [← eQ] at H ⊢
  rw [← em] at K1 hl ⊢
  have HLAST := True.intro
  clear h hf hn x0 eQ nf em
  go_enter Tryd.func32, Tryd.ntmps32
  go_wp2_with fail
  refine (K1.out).mono ?_
  rintro e w1 ⟨rfl, hb⟩
  have B1 := Lib.hid hb
  clear hb K1
  go_wp2_with fail
  clear HLAST
  go_loopw [9, 21] (fun o i wr => ∃ (k : Nat) (O : Sp) (Ao : Option Addr) (co : Nat), k ≤ m ∧ o = .slice Ao O.length co ∧ i = .int .i64 k ∧ Hid (OwnP wr w.heap.size Ao co O) ∧ Hid (RemTo L a n k O) ∧ Hid (Below w.heap.size w wr)) (fun _ i _ => m - (intOf i).toNat)
  case atStart => exact ⟨0, [], none, 0, Nat.zero_le _, rfl, rfl, Own.nil _ _ _ _ _, I0, B1⟩
  case round =>
    obtain ⟨k, O, Ao, co, hk, rfl, rfl, hO, hI, hD⟩ := hrel
    clear B1 I0
    by_cases hlt : k < m
    · obtain ⟨b', o', hA', hb0, e0, e1⟩ := SeesP.cells (HS.out.below hD.out) (k := k) (by rw [← EM.out]; exact hlt)
      cases hA'
      obtain ⟨m1, m2, m3, m4⟩ := NFfrom.mem NL.out _ (sg_mem L (show k < L.length by rw [← EM.out]; exact hlt))
      obtain ⟨st1, st2⟩ := HST.out k O (by rw [← EM.out]; exact hlt) hI.out
      obtain ⟨x, hx⟩ : ∃ x, x = (sg L k).1 := ⟨_, rfl⟩
      obtain ⟨z, hz⟩ : ∃ x, x = (sg L k).2 := ⟨_, rfl⟩
      rw [← hx] at e0 m1 m2 st1 st2
      rw [← hz] at e1 m2 m4 st1 st2
      have hlen := NF.len hI.out.nf
      have hlen2 := NF.len st2
      have ST := Lib.hid st1
      have D1 : Hid (Below w.heap.size w (wr.alloc (.cells #[.int .i64 x, .int .i64 z] 63))) := hD.out.alloc hD.out.size _
      have KA := Lib.hid (add_any (wr.alloc (.cells #[.int .i64 x, .int .i64 z] 63)) w.heap.size Ao co O x (min z a) (hO.out.below ((Below.refl _ wr).alloc (Nat.le_refl _) _)) D1.out.size (by omega) ⟨by omega, by omega⟩ ⟨by omega, by omega⟩ (NF.fits hI.out.nf))
      have NF2 := Lib.hid st2
      obtain ⟨O1, eO1⟩ : ∃ O1, O1 = addS O x (min z a) := ⟨_, rfl⟩
      rw [← eO1] at KA ST NF2 hlen2
      obtain ⟨nO, enO⟩ : ∃ n, n = O.length := ⟨_, rfl⟩
      rw [← enO] at KA ⊢
      have bx0 := (World.rowIs_alloc wr #[.int .i64 x, .int .i64 z] 63 (fun j => if j = 0 then .int .i64 x else .int .i64 z) (fun j hj => by
        have : j = 0 ∨ j = 1 := by simp at hj; omega
        rcases this with rfl | rfl <;> rfl))
      have BX := Lib.hid bx0
      have hO' := hO
      clear hx hz st1 st2 eO1 hO hI hlen m3 enO bx0
      go_wp2_with fail
      have hAb := Lib.hid (fun b hb => (hO'.out.blk b hb).2)
      refine (KA.out).mono ?_
      rintro e w5 ⟨A5, c5, rfl, O5, hb, _, hfr⟩
      have D5 := Lib.hid (D1.out.trans hb)
      have BX5 := Lib.hid (World.rowIs.of_block BX.out (hfr.block _ (World.rowIs.lt BX.out) (fun hbl => by have := hAb.out _ hbl; omega)))
      have u0 := BX5.out.cell (i := 0) (by simp)
      have u1 := BX5.out.cell (i := 1) (by simp)
      have KB := Lib.hid (add_any w5 w.heap.size A5 c5 O1 (max x (a + n) - n) (z - n) O5 D5.out.size (by omega) ⟨by omega, by omega⟩ ⟨by omega, by omega⟩ (NF.fits NF2.out))
      obtain ⟨O2, eO2⟩ : ∃ O2, O2 = addS O1 (max x (a + n) - n) (z - n) := ⟨_, rfl⟩
      rw [← eO2] at KB ST
      obtain ⟨n1, en1⟩ : ∃ n, n = O1.length := ⟨_, rfl⟩
      rw [← en1] at KB ⊢
      rw [if_pos rfl] at u0
      rw [if_neg (by decide)] at u1
      clear hb hfr O5 KA BX hAb eO2 en1 e0 e1 hO'
      go_wp2_with fail
      refine (KB.out).mono ?_
      rintro e w6 ⟨A6, c6, rfl, O6, hb, _⟩
      have D6 := Lib.hid (D5.out.trans hb)
      have P6 := Lib.hid O6
      clear hb O6 KB u0 u1 BX5
      go_wp2_with fail
      go_roundw
      case rel => exact ⟨k + 1, O2, A6, c6, by omega, rfl, by go_num, P6, ST, D6⟩
      case measure => simp [intOf]; omega
    · obtain rfl : k = m := by omega
      have KD := Lib.hid (done_any w wr Ao co O (hO.out.sees) hO.out.le (by have := NF.len hI.out.nf; omega) hD.out)
      go_wp2_with fail
      refine (KD.out).mono ?_
      rintro e w5 ⟨A5, rfl, q1, hb⟩
      have HH := Lib.hid (H.out O _ _ (by rw [← EM.out]; exact hI.out) ⟨A5, rfl, q1, hb⟩)
      clear q1 hb KD
      go_wp2_with fail
      exact HH.out
end Go.Proofs.YteodkmndghaidaaDoor

/-
  Contracts of package spans, first: spans in memory; Check, add, done.
-/
import Derived.Test.YteodkmndghaidaaDoorRows
import Derived.Test.YteodkmndghaidaaDoorSpaP
import Derived.Test.YteodkmndghaidaaDoorApp2
import Derived.Test.YteodkmndghaidaaDoorSliceL
import Derived.LoopTactic
import Derived.Outline
import Derived.BigQuiet
import Derived.IntWalk
namespace Go.Proofs.YteodkmndghaidaaDoor
open Go.RowKit
set_option linter.unusedVariables false
set_option linter.unusedSimpArgs false

def sg (L : Sp) (k : Nat) : Int × Int := L.getD k (0, 0)
/-- The cells of a list of spans. -/
def spf (L : Sp) : Nat → Value := fun j => .int .i64 (if j % 2 = 0 then (sg L (j / 2)).1 else (sg L (j / 2)).2)
theorem spf_0 (L : Sp) (k : Nat) : spf L (k * 2) = .int .i64 (sg L k).1 := by
  unfold spf
  rw [if_pos (by omega), show k * 2 / 2 = k from by omega]
theorem spf_1 (L : Sp) (k : Nat) : spf L (k * 2 + 1) = .int .i64 (sg L k).2 := by
  unfold spf
  rw [if_neg (by omega), show (k * 2 + 1) / 2 = k from by omega]
theorem sg_get (L : Sp) {k : Nat} (h : k < L.length) : sg L k = L[k] := by simp [sg, List.getD_eq_getElem?_getD, List.getElem?_eq_getElem h]
theorem sg_mem (L : Sp) {k : Nat} (h : k < L.length) : sg L k ∈ L := by rw [sg_get L h]; exact List.getElem_mem h
theorem sg_app (L M : Sp) (k : Nat) : sg (L ++ M) k = if k < L.length then sg L k else sg M (k - L.length) := by
  unfold sg
  rw [List.getD_eq_getElem?_getD, List.getD_eq_getElem?_getD, List.getD_eq_getElem?_getD]
  by_cases c : k < L.length
  · rw [if_pos c, List.getElem?_append_left c]
  · rw [if_neg c, List.getElem?_append_right (by omega)]
/-- A list of spans that is seen. -/
abbrev SeesP (w : World) (B : Nat) (A : Option Addr) (L : Sp) : Prop := Sees w B A (L.length * 2) (spf L)
abbrev OwnP (w : World) (B : Nat) (A : Option Addr) (c : Nat) (L : Sp) : Prop := Own w B 63 2 L.length c A (spf L)
def FitsS (L : Sp) : Prop := ∀ s ∈ L, Fits s.1 ∧ Fits s.2
theorem NF.fits {L : Sp} (h : NF L) : FitsS L := fun s hs => by
  obtain ⟨h1, h2, h3, h4⟩ := NFfrom.mem h s hs
  exact ⟨⟨by omega, by omega⟩, ⟨by omega, by omega⟩⟩
theorem SeesP.cells {w : World} {B : Nat} {A : Option Addr} {L : Sp} (h : SeesP w B A L) {k : Nat} (hk : k < L.length) :
    ∃ b o, A = some ⟨b, o, none⟩ ∧ b < B ∧ w.cell? ⟨b, o + k * 2, none⟩ = some (.int .i64 (sg L k).1) ∧ w.cell? ⟨b, o + k * 2 + 1, none⟩ = some (.int .i64 (sg L k).2) := by
  obtain ⟨b, o, h1, h2, h3⟩ := h (by omega)
  refine ⟨b, o, h1, h2, ?_, ?_⟩
  · have := h3 (k * 2) (by omega); rwa [spf_0] at this
  · have := h3 (k * 2 + 1) (by omega); rw [spf_1] at this; rw [← this, Nat.add_assoc]

set_option maxRecDepth 100000 in
set_option maxHeartbeats 1600000 in
theorem check_any (w : World) (B : Nat) (A : Option Addr) (c : Nat) (L : Sp) (h : SeesP w B A L) (hB : B ≤ w.heap.size) (hf : FitsS L) (hn : L.length ≤ 1000000000000000) :
    Calls Tryd.prog 47 #[.slice A L.length c] w fun e w' => e = .returned (.int .i64 (chkS L)) ∧ Below w.heap.size w w' := by
  have HS := Lib.hid h
  have HF := Lib.hid hf
  obtain ⟨n, en⟩ : ∃ n, n = L.length := ⟨_, rfl⟩
  have EN := Lib.hid en
  by_cases hbig : 4096 < n
  · have hx : chkS L = 3 := by unfold chkS; rw [if_pos (by omega)]
    rw [← en] at hn ⊢
    rw [hx]
    clear h hf hx en
    go_enter Tryd.func47, Tryd.ntmps47
    go_wp2_with fail
    go_ret
    exact ⟨rfl, Below.refl _ _⟩
  · have hx : chkS L = ckFrom (-1) L := by unfold chkS; rw [if_neg (by omega)]
    rw [hx]
    obtain ⟨res, er⟩ : ∃ r, r = ckFrom (-1) L := ⟨_, rfl⟩
    have ER : Hid (ckFrom (-1) (L.drop 0) = res) := by rw [er]; rfl
    rw [← en] at hn ⊢
    rw [← er]
    clear h hf hx en er
    go_enter Tryd.func47, Tryd.ntmps47
    go_wp2_with fail
    go_loopw [3, 11] (fun a i wr => ∃ (k : Nat) (last : Int), k ≤ n ∧ i = .int .i64 k ∧ a = .int .i64 last ∧ Hid (ckFrom last (L.drop k) = res) ∧ Fits last ∧ Hid (Below w.heap.size w wr)) (fun _ i _ => n - (intOf i).toNat)
    case atStart => exact ⟨0, -1, Nat.zero_le _, rfl, rfl, ER, ⟨by omega, by omega⟩, Below.refl _ _⟩
    case round =>
      obtain ⟨k, last, hk, rfl, rfl, hC, ⟨fl1, fl2⟩, hD⟩ := hrel
      by_cases hlt : k < n
      · obtain ⟨b, o, rfl, hb, c0, c1⟩ := SeesP.cells ((HS.out.more hB).below hD.out) (k := k) (by rw [← EN.out]; exact hlt)
        have hkL : k < L.length := by rw [← EN.out]; exact hlt
        have hm := HF.out _ (sg_mem L hkL)
        have hd : L.drop k = sg L k :: L.drop (k + 1) := by rw [sg_get L hkL]; exact List.drop_eq_getElem_cons hkL
        have hC' := hC.out
        rw [hd] at hC'
        have HC : Hid ((if (sg L k).1 < 0 ∨ (sg L k).2 ≤ (sg L k).1 ∨ 1073741824 < (sg L k).2 then (1 : Int) else if (sg L k).1 ≤ last then 16 else ckFrom (sg L k).2 (L.drop (k + 1))) = res) := hC'
        obtain ⟨x, hx⟩ : ∃ x, x = (sg L k).1 := ⟨_, rfl⟩
        obtain ⟨y, hy⟩ : ∃ y, y = (sg L k).2 := ⟨_, rfl⟩
        rw [← hx] at c0 HC hm
        rw [← hy] at c1 HC hm
        obtain ⟨⟨fx1, fx2⟩, fy1, fy2⟩ := hm
        clear hx hy hd hC hC' hkL
        have D1 : Hid (Below w.heap.size w (wr.alloc (.cells #[.int .i64 x, .int .i64 y] 63))) := hD.out.alloc hD.out.size _
        by_cases t1 : x < 0
        · have e : res = 1 := by rw [← HC.out, if_pos (by omega)]
          clear HC
          subst e
          go_wp2_with fail
          go_ret
          exact ⟨rfl, D1.out⟩
        by_cases t2 : y ≤ x
        · have e : res = 1 := by rw [← HC.out, if_pos (by omega)]
          clear HC
          subst e
          go_wp2_with fail
          go_ret
          exact ⟨rfl, D1.out⟩
        by_cases t3 : 1073741824 < y
        · have e : res = 1 := by rw [← HC.out, if_pos (by omega)]
          clear HC
          subst e
          go_wp2_with fail
          go_ret
          exact ⟨rfl, D1.out⟩
        by_cases t4 : x ≤ last
        · have e : res = 16 := by rw [← HC.out, if_neg (by omega), if_pos t4]
          clear HC
          subst e
          go_wp2_with fail
          go_ret
          exact ⟨rfl, D1.out⟩
        · have HC2 : Hid (ckFrom y (L.drop (k + 1)) = res) := by have := HC.out; rwa [if_neg (by omega), if_neg t4] at this
          clear HC
          go_wp2_with fail
          go_roundw
          case rel => exact ⟨k + 1, y, by omega, by go_num, rfl, HC2, ⟨fy1, fy2⟩, D1⟩
          case measure => simp [intOf]; omega
      · obtain rfl : k = n := by omega
        have e : res = 0 := by
          rw [← hC.out, List.drop_of_length_le (by rw [← EN.out]; omega)]; rfl
        subst e
        go_wp2_with fail
        go_ret
        exact ⟨rfl, hD.out⟩

theorem infoSp : (Tryd.prog.info? 63).map (fun i => (i.zero, i.size, i.bytes)) = some (some (.agg #[.int .i64 0, .int .i64 0]), 2, 16) := by kernel_rfl
/-- append(own, Span). -/
theorem push_P (w : World) (B : Nat) {c : Nat} {A : Option Addr} {L : Sp} (h : OwnP w B A c L) (hB : B ≤ w.heap.size) (f t : Int) (hm : L.length ≤ 900000000) :
    ∃ A' c' w', (∀ ty, (Builtin.append_ #[51, 51] ty #[.slice A L.length c, .slice (some ⟨w.heap.size, 0, none⟩) 1 1]).run Tryd.prog (w.alloc (.cells #[.int .i64 f, .int .i64 t] 63)) = .ok (.slice A' (L.length + 1) c') w') ∧ OwnP w' B A' c' (L ++ [(f, t)]) ∧ Below B w w' ∧ (c ≤ maxLen → c' ≤ maxLen) ∧ Fr (fun b => A.map (·.block) = some b) w w' := by
  have L0 : Below w.heap.size w (w.alloc (.cells #[.int .i64 f, .int .i64 t] 63)) := (Below.refl _ w).alloc (Nat.le_refl _) _
  have hs : Sees (w.alloc (.cells #[.int .i64 f, .int .i64 t] 63)) (w.heap.size + 1) (some ⟨w.heap.size, 0, none⟩) (1 * 2) (spf [(f, t)]) := by
    have := Sees.lit w #[.int .i64 f, .int .i64 t] 63 (spf [(f, t)]) 2 rfl (fun j hj => by
      have : j = 0 ∨ j = 1 := by omega
      rcases this with rfl | rfl <;> rfl)
    simpa using this
  obtain ⟨A', c', w', run, O, fr, a, m⟩ := own_append2' (P := Tryd.prog) (w.alloc (.cells #[.int .i64 f, .int .i64 t] 63)) B Tryd.underlying51 infoSp rfl (by omega) Tryd.underlying51 (h.below L0) (by rw [World.size_alloc]; omega) (c2 := 1) hs (fun _ => rfl) (by omega) (by omega)
  refine ⟨A', c', w', run, ?_, (L0.mono hB).trans (fr.below (by rw [World.size_alloc]; omega) fun b hb => (h.blk b hb).1), m, (Fr.of_below L0).trans fr⟩
  unfold OwnP
  rw [List.length_append, List.length_singleton]
  refine O.congr fun j hj => ?_
  unfold spf
  rw [sg_app]
  by_cases d : j < L.length * 2
  · rw [if_pos d, if_pos (show j / 2 < L.length by omega)]
  · rw [if_neg d, if_neg (show ¬ j / 2 < L.length by omega), show (j - L.length * 2) % 2 = j % 2 from by omega, show (j - L.length * 2) / 2 = j / 2 - L.length from by omega]

def AddPost (w : World) (B c : Nat) (A : Option Addr) (R : Sp) (e : Ending) (w' : World) : Prop := ∃ A' c', e = .returned (.slice A' R.length c') ∧ OwnP w' B A' c' R ∧ Below B w w' ∧ (c ≤ maxLen → c' ≤ maxLen) ∧ Fr (fun b => A.map (·.block) = some b) w w'
set_option maxRecDepth 100000 in
set_option maxHeartbeats 1600000 in
theorem add_any (w : World) (B : Nat) (A : Option Addr) (c : Nat) (L : Sp) (f t : Int) (O : OwnP w B A c L) (hB : B ≤ w.heap.size) (hl : L.length ≤ 900000000) (ff : Fits f) (ft : Fits t) (hf : FitsS L) :
    Calls Tryd.prog 43 #[.slice A L.length c, .int .i64 f, .int .i64 t] w (AddPost w B c A (addS L f t)) := by
  obtain ⟨ff1, ff2⟩ := ff
  obtain ⟨ft1, ft2⟩ := ft
  by_cases h0 : t ≤ f
  · rw [addS_none h0]
    have H : Hid (AddPost w B c A L (.returned (.slice A L.length c)) w) := ⟨A, c, rfl, O, Below.refl _ _, (fun h => h), Fr.refl _ _⟩
    obtain ⟨n, en⟩ : ∃ n, n = L.length := ⟨_, rfl⟩
    rw [← en] at H hl ⊢
    clear O hf en
    go_enter Tryd.func43, Tryd.ntmps43
    go_wp2_with fail
    go_ret
    exact H.out
  · have hft : f < t := by omega
    rcases List.eq_nil_or_concat L with rfl | ⟨P, s, rfl⟩
    · rw [addS_nil hft]
      obtain ⟨A', c', w', run, O2, hb, hm, hfr⟩ := push_P w B O hB f t (by simp)
      have H : Hid (AddPost w B c A [(f, t)] (.returned (.slice A' 1 c')) w') := ⟨A', c', rfl, O2, hb, hm, hfr⟩
      have R := Lib.hid run
      clear O hf run O2 hb hm hl hfr
      show Calls Tryd.prog _ #[.slice A 0 c, _, _] _ _
      go_enter Tryd.func43, Tryd.ntmps43
      go_wp2_with (at_builtin; refine Hid.out ?_)
      refine Lib.hid (Lib.wpList_append_run _ rfl _ _ _ _ rfl _ _ rfl rfl _ _ (R.out _) ?_)
      go_wp2_with fail
      go_ret
      exact H.out
    · rw [List.concat_eq_append] at *
      rw [addS_snoc hft]
      have hlen : (P ++ [s]).length = P.length + 1 := by simp
      obtain ⟨g, hA, hg1, hg2, hcells, hfz⟩ := O.at_ (by omega)
      have hle := O.le
      have c1 := hcells (P.length * 2 + 1) (by omega)
      rw [spf_1, show sg (P ++ [s]) P.length = s from by rw [sg_app, if_neg (by omega), Nat.sub_self]; rfl] at c1
      have z1 := hfz (P.length * 2 + 1)
      obtain ⟨fs1, fs2⟩ := (hf s (by simp)).2
      subst hA
      by_cases cm : f ≤ s.2
      · rw [if_pos cm]
        have O2 := O.set (P.length * 2 + 1) (.int .i64 (max s.2 t))
        have H : Hid (AddPost w B c (some ⟨g, 0, none⟩) (P ++ [(s.1, max s.2 t)]) (.returned (.slice (some ⟨g, 0, none⟩) (P.length + 1) c)) (w.setCell ⟨g, P.length * 2 + 1, none⟩ (.int .i64 (max s.2 t)))) := by
          refine ⟨some ⟨g, 0, none⟩, c, by simp, ?_, (Below.refl B w).setCell (p := ⟨g, P.length * 2 + 1, none⟩) hg1 _, (fun h => h), Fr.setCell (Fr.refl _ w) (p := ⟨g, P.length * 2 + 1, none⟩) (by rfl) _⟩
          unfold OwnP
          rw [show (P ++ [(s.1, max s.2 t)]).length = P.length + 1 from by simp]
          rw [hlen] at O2
          refine O2.congr fun j hj => ?_
          show (if j = P.length * 2 + 1 then _ else spf (P ++ [s]) j) = spf (P ++ [(s.1, max s.2 t)]) j
          by_cases d : j = P.length * 2 + 1
          · rw [if_pos d, d, spf_1, sg_app, if_neg (by omega), Nat.sub_self]; rfl
          · rw [if_neg d]
            unfold spf
            rw [sg_app, sg_app]
            by_cases d2 : j / 2 < P.length
            · rw [if_pos d2, if_pos d2]
            · rw [if_neg d2, if_neg d2, show j / 2 - P.length = 0 from by omega, if_pos (show j % 2 = 0 by omega), if_pos (show j % 2 = 0 by omega)]; rfl
        obtain ⟨m, em⟩ : ∃ m, m = P.length := ⟨_, rfl⟩
        obtain ⟨y, ey⟩ : ∃ y, y = s.2 := ⟨_, rfl⟩
        rw [← em, ← ey] at c1 H
        rw [← ey] at cm fs1 fs2
        rw [← em] at z1
        rw [hlen, ← em] at hl hle ⊢
        clear O hf hcells hfz O2 hlen
        rw [← ey]
        clear em ey
        go_enter Tryd.func43, Tryd.ntmps43
        go_wp2_with fail
        go_ret
        exact H.out
      · rw [if_neg cm]
        obtain ⟨A', c', w', run, O2, hb, hm, hfr⟩ := push_P w B O hB f t hl
        rw [hlen] at run
        have H : Hid (AddPost w B c (some ⟨g, 0, none⟩) (P ++ [s] ++ [(f, t)]) (.returned (.slice A' (P.length + 1 + 1) c')) w') := ⟨A', c', by simp, O2, hb, hm, hfr⟩
        have R := Lib.hid run
        obtain ⟨m, em⟩ : ∃ m, m = P.length := ⟨_, rfl⟩
        obtain ⟨y, ey⟩ : ∃ y, y = s.2 := ⟨_, rfl⟩
        rw [← em] at c1 H z1 R
        rw [← ey] at c1 cm fs1 fs2
        rw [hlen, ← em] at hl hle ⊢
        clear O hf hcells hfz O2 hlen em ey run hb hm hfr
        go_enter Tryd.func43, Tryd.ntmps43
        go_wp2_with (at_builtin; refine Hid.out ?_)
        refine Lib.hid (Lib.wpList_append_run _ rfl _ _ _ _ rfl _ _ rfl rfl _ _ (R.out _) ?_)
        go_wp2_with fail
        go_ret
        exact H.out
end Go.Proofs.YteodkmndghaidaaDoor

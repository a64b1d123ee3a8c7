/-
  Flags: Remove, Insert, Move.
-/
import Derived.Test.YteodkmndghaidaaDoorFlaF
import Derived.Test.YteodkmndghaidaaDoorFlaR2
namespace Go.Proofs.YteodkmndghaidaaDoor
open Go.RowKit
set_option linter.unusedVariables false
set_option linter.unusedSimpArgs false

theorem become_at (w1 : World) (p : Nat) (l : List Bool) (F1 : Fl w1 p l) (L : Lsts) (cs : Array Value) (hz : cs.size = L.length) (hc : ∀ j, j < L.length → cs[j]? = some (lsv L j)) (hL : ∀ x ∈ L, SeesO (fun b => b = p) w1 x.1 x.2.2.length (bvs x.2.2)) (hN : (cat L).length ≤ 4096) (hm : L.length ≤ 100) :
    Calls Tryd.prog 40 #[.pointer (some ⟨p, 0, none⟩), .slice (some ⟨w1.heap.size, 0, none⟩) L.length L.length] (w1.alloc (.cells cs 22)).drew fun e w' => e = .returned (.tuple #[]) ∧ Fl w' p (cat L) ∧ Fr (fun b => b = p) w1 w' := by
  have hf : Fr (fun b => b = p) w1 (w1.alloc (.cells cs 22)).drew := ((Fr.refl _ w1).alloc _).drawn ⟨1, rfl⟩
  have hb : Below w1.heap.size w1 (w1.alloc (.cells cs 22)).drew := ((Below.refl w1.heap.size w1).alloc (Nat.le_refl _) _).drew
  have hr := World.rowIs_alloc w1 cs 22 (lsv L) (fun j hj => by rw [hc j (by omega)])
  rw [hz] at hr
  refine (become_any _ p l (F1.below hb) L w1.heap.size hr (by have := F1.lt; omega) (fun x hx => (hL x hx).fr hf) hN hm).mono ?_
  rintro e w' ⟨rfl, h1, h2⟩
  exact ⟨rfl, h1, hf.trans h2⟩
theorem row_seesO {w : World} {p g n : Nat} {l : List Bool} (h : w.rowIs g 4 n (bvs l)) (hn : n = l.length) (hgp : g ≠ p) : SeesO (fun b => b = p) w (some ⟨g, 0, none⟩) l.length (bvs l) := by
  intro _
  subst hn
  exact ⟨g, 0, rfl, h.lt, hgp, fun j hj => by rw [Nat.zero_add]; exact h.cell hj⟩
theorem SeesO.first {S : Nat → Prop} {w : World} {A : Option Addr} {l : List Bool} (h : SeesO S w A l.length (bvs l)) (k : Nat) (hk : k ≤ l.length) : SeesO S w A (l.take k).length (bvs (l.take k)) := by
  intro hn
  rw [List.length_take, Nat.min_eq_left hk] at hn
  obtain ⟨b, o, h1, h2, h3, h4⟩ := h (by omega)
  refine ⟨b, o, h1, h2, h3, fun j hj => ?_⟩
  rw [List.length_take, Nat.min_eq_left hk] at hj
  rw [h4 j (by omega), bvs_at, bvs_at, bt_take hj]
theorem SeesO.part {S : Nat → Prop} {w : World} {b o c lo hi : Nat} {l : List Bool} (h : SeesO S w (some ⟨b, o, none⟩) l.length (bvs l)) (hnc : l.length ≤ c) (h1 : lo ≤ hi) (h2 : hi ≤ l.length) : SeesO S w (subA (some ⟨b, o, none⟩) c lo 1) ((l.drop lo).take (hi - lo)).length (bvs ((l.drop lo).take (hi - lo))) := by
  intro hn
  rw [List.length_take, List.length_drop, Nat.min_eq_left (by omega)] at hn
  obtain ⟨b', o', e, h3, h4, h5⟩ := h (by omega)
  injection e with e; injection e with e1 e2
  subst e1; subst e2
  refine ⟨b, o + lo, ?_, h3, h4, fun j hj => ?_⟩
  · unfold subA
    rw [if_neg (by omega)]
    show some (Addr.add _ _) = _
    rw [add_none, Nat.mul_one]
  · rw [List.length_take, List.length_drop, Nat.min_eq_left (by omega)] at hj
    rw [Nat.add_assoc, h5 _ (by omega), bvs_at, bvs_at, bt_take hj, bt_drop]
theorem SeesO.rest {S : Nat → Prop} {w : World} {b o c lo : Nat} {l : List Bool} (h : SeesO S w (some ⟨b, o, none⟩) l.length (bvs l)) (hnc : l.length ≤ c) (h1 : lo ≤ l.length) : SeesO S w (subA (some ⟨b, o, none⟩) c lo 1) (l.drop lo).length (bvs (l.drop lo)) := by
  have := SeesO.part h hnc h1 (Nat.le_refl _)
  rwa [List.take_of_length_le (by rw [List.length_drop]; exact Nat.le_refl _)] at this
theorem Fl.chkErr {w : World} {p : Nat} {l : List Bool} (h : Fl w p l) (i k : Int) : flErr l.length i k = fRemErr l i k := by
  unfold flErr fRemErr; rfl
theorem frem_bad (w : World) (p : Nat) (l : List Bool) (h : Fl w p l) (i n : Int) (fi : Fits i) (fn : Fits n) (hE : fRemErr l i n = 4) :
    Calls Tryd.prog 24 #[.pointer (some ⟨p, 0, none⟩), .int .i64 i, .int .i64 n] w fun e w' => e = .returned (.int .i64 4) ∧ w = w' := by
  have KC := Lib.hid (fcheck_any w p l h i n fi fn)
  rw [h.chkErr, hE] at KC
  clear h hE
  go_enter Tryd.func24, Tryd.ntmps24
  go_wp2_with fail
  refine (KC.out).mono ?_
  rintro e w' ⟨rfl, rfl⟩
  go_wp2_with fail
  go_ret
  exact ⟨rfl, rfl⟩
set_option maxRecDepth 100000 in
set_option maxHeartbeats 3200000 in
theorem frem_ok (w : World) (p : Nat) (l : List Bool) (h : Fl w p l) (k m : Nat) (hkm : k + m ≤ l.length) :
    Calls Tryd.prog 24 #[.pointer (some ⟨p, 0, none⟩), .int .i64 k, .int .i64 m] w fun e w' => e = .returned (.int .i64 0) ∧ Fl w' p (fRem l k m) ∧ Fr (fun b => b = p) w w' := by
  have hn := h.len
  have KC := Lib.hid (fcheck_any w p l h k m ⟨by omega, by omega⟩ ⟨by omega, by omega⟩)
  rw [flErr_0 (by omega)] at KC
  have KL := Lib.hid (flist_any w p l h)
  have HF := Lib.hid h
  obtain ⟨n, en⟩ : ∃ n, n = l.length := ⟨_, rfl⟩
  rw [← en] at hn hkm KL
  have EN := Lib.hid en
  clear h en
  go_enter Tryd.func24, Tryd.ntmps24
  go_wp2_with fail
  refine (KC.out).mono ?_
  rintro e w' ⟨rfl, rfl⟩
  go_wp2_with fail
  refine (KL.out).mono ?_
  rintro e w1 ⟨g, rfl, h1, h2, h3⟩
  have F1 := Lib.hid (HF.out.below h3)
  have R1 := Lib.hid h1
  have B1 := Lib.hid h3
  have hgp : g ≠ p := by have := HF.out.lt; omega
  have SA := slF_h (some ⟨g, 0, none⟩) n n k (by omega)
  have SB := slF_l (some ⟨g, 0, none⟩) n n (k + m) hkm
  rw [Int.natCast_add] at SB
  have hi6 : IntKind.i64.wrap ((k : Int) + (m : Int)) = (k : Int) + (m : Int) := IntWalk.i64_in _ (by omega)
  have S0 : Hid (Fr (fun b => b = p) w1 w1.drew) := (Fr.refl _ _).drawn ⟨1, rfl⟩
  clear KL KC h1 h2 h3
  have KB := become_at w1 p l F1.out [(some ⟨g, 0, none⟩, n, l.take k), (subA (some ⟨g, 0, none⟩) n (k + m) 1, n - (k + m), l.drop (k + m))] #[.slice (some ⟨g, 0, none⟩) k n, .slice (subA (some ⟨g, 0, none⟩) n (k + m) 1) (n - (k + m)) (n - (k + m))] rfl (fun j hj => by
      have : j = 0 ∨ j = 1 := by simp at hj; omega
      rcases this with rfl | rfl
      · show some (Value.slice (some ⟨g, 0, none⟩) k n) = some (.slice (some ⟨g, 0, none⟩) (l.take k).length n)
        rw [List.length_take, Nat.min_eq_left (by rw [← EN.out]; omega)]
      · show some (Value.slice _ (n - (k + m)) _) = some (.slice _ (l.drop (k + m)).length _)
        rw [List.length_drop, EN.out]; rfl) (fun x hx => by
      have hs := row_seesO R1.out EN.out hgp
      simp only [List.mem_cons, List.not_mem_nil, or_false] at hx
      rcases hx with rfl | rfl
      · exact hs.first k (by rw [← EN.out]; omega)
      · exact hs.rest (by rw [← EN.out]; exact Nat.le_refl _) (by rw [← EN.out]; exact hkm)) (by
      show (l.take k ++ (l.drop (k + m) ++ [])).length ≤ 4096
      rw [List.append_nil, List.length_append, List.length_take, List.length_drop, ← EN.out]; omega) (by show 2 ≤ 100; omega)
  rw [show cat [(some (⟨g, 0, none⟩ : Addr), n, l.take k), (subA (some ⟨g, 0, none⟩) n (k + m) 1, n - (k + m), l.drop (k + m))] = fRem l k m from by unfold cat fRem; simp] at KB
  have KB := Lib.hid KB
  have FB : Hid (Fr (fun b => b = p) w w1) := Fr.of_below B1.out
  clear hgp
  go_wp2_with fail
  refine wp_region_plan [(false, 0), (false, 1), (false, 2), (false, 3), (false, 4), (false, 5), (false, 6), (false, 7), (false, 8), (true, 9), (true, 10)] (Fr (fun b => b = p) w1) (by kernel_rfl) (by kernel_rfl) (S0.out) _ (by simp only [pickH, List.getElem?_toArray, List.getElem?_cons_succ, List.getElem?_cons_zero]; rfl) ?_
  repeat (refine HWalk.step (fun K hK => ?_); first | (apply held_yes; (focus rfl); (focus (intro w' hw; have hc' := fr_cells hw; go_simp; rfl)); (go_simp; refine hK _ ?_; clear hK K)) | (refine ite_no (by decide) ?_; go_simp; refine hK _ ?_; clear hK K))
  clear SA SB hi6
  refine HWalk.mark ?_
  go_wp2_with fail
  refine ⟨(((Fr.refl _ w1).alloc _).drawn ⟨1, rfl⟩), ?_⟩
  repeat (refine HWalk.step (fun K hK => ?_); first | (apply held_yes; (focus rfl); (focus (intro w' hw; have hc' := fr_cells hw; go_simp; rfl)); (go_simp; refine hK _ ?_; clear hK K)) | (refine ite_no (by decide) ?_; go_simp; refine hK _ ?_; clear hK K))
  refine HWalk.mark ?_
  go_wp2_with fail
  refine (KB.out).mono ?_
  rintro e w2 ⟨rfl, k1, k2⟩
  have F2 := Lib.hid k1
  have R2 := Lib.hid k2
  clear k1 k2
  go_wp2_with fail
  refine ⟨R2.out, ?_⟩
  repeat (refine HWalk.step (fun K hK => ?_); first | (apply held_yes; (focus rfl); (focus (intro w' hw; have hc' := fr_cells hw; go_simp; rfl)); (go_simp; refine hK _ ?_; clear hK K)) | (refine ite_no (by decide) ?_; go_simp; refine hK _ ?_; clear hK K))
  refine HWalk.done ?_
  go_wp2_with fail
  go_ret
  exact ⟨rfl, F2.out, FB.out.trans R2.out⟩
end Go.Proofs.YteodkmndghaidaaDoor

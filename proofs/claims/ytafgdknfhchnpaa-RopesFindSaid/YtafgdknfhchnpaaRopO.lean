/-
  Contracts of package ropes, fifteenth: List's closure.
-/
import Derived.Test.YtafgdknfhchnpaaRopN
import Derived.Test.YtafgdknfhchnpaaApp
import Derived.Lib.JoinLaws
import Derived.Laws.EntriesVeiled
import Derived.Great.Walk
import Derived.Deep.RegionLaw
namespace Go.Proofs.Ytafgdknfhchnpaa
open Go.RowKit
set_option linter.unusedVariables false
set_option linter.unusedSimpArgs false

theorem infoI64' : (Try.prog.info? 2).map (fun i => (i.zero, i.size, i.bytes)) = some (some (.int .i64 0), 1, 8) := by kernel_rfl
theorem make_room64 (n : Nat) (hn : n ≤ 1000000) (W : World) :
    (Instr.makeSlice 22 (.int .i64 0) (.int .i64 n)).run Try.prog W = .ok (.slice (some ⟨W.heap.size, 0, none⟩) 0 n) (W.alloc (.cells (madeCells #[.int .i64 0] n) 2)) :=
  run_make_room 22 2 (.int .i64 0) 8 Try.underlying22 infoI64' rfl .i64 .i64 n (by omega) (by omega) W
/-- Blocks of two types. -/
theorem rows_ne {w : World} {b b' : Nat} {t t' : TypeId} {n n' : Nat} {f f' : Nat → Value} (h : w.rowIs b t n f) (h' : w.rowIs b' t' n' f') (ht : t ≠ t') : b ≠ b' := by
  rintro rfl
  obtain ⟨c1, h1, _⟩ := h
  obtain ⟨c2, h2, _⟩ := h'
  rw [h1] at h2
  injection h2 with h2
  injection h2 with _ h2 _
  exact ht h2
/-- append(own, v) where there is room. -/
theorem push_room (w : World) {g N n : Nat} {F : Nat → Value} (h : w.rowIs g 2 N F) (hn : n < N) (v : Int) (ty : TypeId) :
    (Builtin.append_ #[22, 22] ty #[.slice (some ⟨g, 0, none⟩) n N, .slice (some ⟨w.heap.size, 0, none⟩) 1 1]).run Try.prog (w.alloc (.cells #[.int .i64 v] 2)) =
      .ok (.slice (some ⟨g, 0, none⟩) (n + 1) N) ((w.alloc (.cells #[.int .i64 v] 2)).setCell ⟨g, n, none⟩ (.int .i64 v)) := by
  obtain ⟨i, hi, hzz⟩ := Option.map_eq_some_iff.1 infoI64'
  simp only [Prod.mk.injEq] at hzz
  obtain ⟨hz, hs, hb⟩ := hzz
  have hr : (w.alloc (.cells #[.int .i64 v] 2)).rowIs g 2 N F := World.rowIs.alloc h _
  have hv : Sees (w.alloc (.cells #[.int .i64 v] 2)) (w.heap.size + 1) (some ⟨w.heap.size, 0, none⟩) (1 * 1) (fun _ => .int .i64 v) := by
    have := Sees.lit w #[.int .i64 v] 2 (fun _ => .int .i64 v) 1 rfl (fun j hj => by have h0 : j = 0 := Nat.lt_one_iff.1 hj; subst h0; rfl)
    simpa using this
  have hsrc := src_of (P := Try.prog) (w.alloc (.cells #[.int .i64 v] 2)) (sz := 1) Try.underlying22 (some ⟨w.heap.size, 0, none⟩) 1 1 (w.heap.size + 1) _ hv (fun _ => rfl) (by omega)
  have hsrc : Src Try.prog i.size 22 (.slice (some ⟨w.heap.size, 0, none⟩) 1 1) 1 ((List.range (1 * 1)).map fun _ => Value.int .i64 v) (w.alloc (.cells #[.int .i64 v] 2)) := by rw [hs]; exact hsrc
  have := run_append_room_src (P := Try.prog) (w.alloc (.cells #[.int .i64 v] 2)) 22 22 ty 2 i Try.underlying22 hi g 0 n N _ 1 _ hsrc (by omega) (fun j hj => ?_) (fun j hj => hr.frozen _)
  · rw [this, hs]
    simp [World.setCells]
  · rw [hs]
    have hj0 : j = 0 := by simpa using hj
    subst hj0
    rw [hr.cell (i := 0 + n * 1 + 0) (by omega)]; rfl

/-- append by its run, as a step of a region that draws. -/
theorem step_push {P : Program} {ops : Array Oper} {o : Oper} {a : Act} {w : World} {K : Act → World → Prop} {Q : Exit → Act → World → Prop} {E : Prop}
    (hg : o.guard = none) (s x : Operand) (t : TypeId) (hop : o.op = Op.call { callee := Callee.builtin Builtin.append, args := #[s, x], argTypes := #[t, t] })
    {vs vx v : Value} {w' : World} (hs : a.eval s = vs) (hx : a.eval x = vx) (hrun : ∀ ty, (Builtin.append_ #[t, t] ty #[vs, vx]).run P w = .ok v w') (hK : K (a.put o.dst v) w') :
    if Region.wanted o (yielded ops a.tmps) = true then Oper.wp P o a w K Q else E := by
  have hw : Region.wanted o (yielded ops a.tmps) = true := by simp [Region.wanted, hg]
  rw [if_pos hw]
  unfold Oper.wp
  simp [execOp, hop, resolve, invoke, builtin, hs, hx, hrun, Result.andThen]
  exact hK

/-- What List's closure works on: itself, what it has taken, the row behind. -/
structure Clo (w : World) (p q g N : Nat) (Q : List Int) : Prop where
  f : Var w p 85 (.func (.func 54) #[] #[.pointer (some ⟨p, 0, none⟩), .pointer (some ⟨q, 0, none⟩)])
  o : Var w q 22 (.slice (some ⟨g, 0, none⟩) Q.length N)
  r : ∃ F, w.rowIs g 2 N F ∧ ∀ j, j < Q.length → F j = .int .i64 (lf Q j)
theorem Clo.of_same {w w' : World} {p q g N : Nat} {Q : List Int} (h : Clo w p q g N Q) (k : ∀ b, b < w.heap.size → w'.heap[b]? = w.heap[b]?) : Clo w' p q g N Q := by
  obtain ⟨F, hr, hF⟩ := h.r
  exact ⟨h.f.of_block (k _ h.f.lt), h.o.of_block (k _ h.o.lt), F, hr.of_block (k _ hr.lt), hF⟩
theorem Tr.fr {w w' : World} {t : T} {a : Option Addr} {p q g N : Nat} {Q : List Int} (h : Tr w a t) (c : Clo w p q g N Q) (k : Fr (fun b => b = q ∨ b = g) w w') : Tr w' a t :=
  h.stay fun b f hr => k.block b hr.lt (by
    obtain ⟨F, hg, _⟩ := c.r
    rintro (e | e)
    · exact rows_ne hr c.o (by decide) e
    · exact rows_ne hr hg (by decide) e)
theorem fr_cells2 {q g : Nat} {w w' : World} (h : Fr (fun b => b = q ∨ b = g) w w') : ∀ b o, b < w.heap.size → ¬ b = q → ¬ b = g → w'.cell? ⟨b, o, none⟩ = w.cell? ⟨b, o, none⟩ := fun b o h1 h2 h3 => World.cell?_of_block (w := w) (h.block b h1 (by rintro (e | e); exact h2 e; exact h3 e))
/-- The world behind 'out = append(out, v)'. -/
def pushW (w : World) (q g N n : Nat) (v : Int) : World := ((w.alloc (.cells #[.int .i64 v] 2)).setCell ⟨g, n, none⟩ (.int .i64 v)).setCell ⟨q, 0, none⟩ (.slice (some ⟨g, 0, none⟩) (n + 1) N)
theorem Clo.push {w : World} {p q g N : Nat} {Q : List Int} (h : Clo w p q g N Q) (hn : Q.length < N) (v : Int) : Clo (pushW w q g N Q.length v) p q g N (Q ++ [v]) ∧ Fr (fun b => b = q ∨ b = g) w (pushW w q g N Q.length v) := by
  obtain ⟨F, hr, hF⟩ := h.r
  have n1 : p ≠ g := rows_ne h.f hr (by decide)
  have n2 : p ≠ q := rows_ne h.f h.o (by decide)
  have n3 : q ≠ g := rows_ne h.o hr (by decide)
  have hl : (Q ++ [v]).length = Q.length + 1 := by simp
  refine ⟨⟨?_, ?_, ?_⟩, ?_⟩
  · exact World.rowIs.setOther (World.rowIs.setOther (World.rowIs.alloc h.f _) n1 _) n2 _
  · rw [hl]
    exact Var.set (World.rowIs.setOther (World.rowIs.alloc h.o _) n3 _) _
  · refine ⟨fun j => if j = Q.length then .int .i64 v else F j, World.rowIs.setOther ((World.rowIs.alloc hr _).set Q.length (.int .i64 v)) (Ne.symm n3) _, fun j hj => ?_⟩
    rw [hl] at hj
    by_cases c : j = Q.length
    · subst c
      show (if Q.length = Q.length then _ else _) = _
      rw [if_pos rfl]
      simp [lf, List.getD_eq_getElem?_getD]
    · show (if j = Q.length then _ else _) = _
      rw [if_neg c, hF j (by omega)]
      simp only [lf, List.getD_eq_getElem?_getD]
      rw [List.getElem?_append_left (by omega)]
  · refine Fr.setCell (Fr.setCell (Fr.alloc (Fr.refl _ w) _) (p := ⟨g, Q.length, none⟩) (.inr rfl) _) (p := ⟨q, 0, none⟩) (.inl rfl) _

set_option maxRecDepth 100000 in
set_option maxHeartbeats 1600000 in
theorem walk_tr (p q g N : Nat) (hN : N ≤ 8192) (t : T) : ∀ (w : World) (a : Option Addr) (Q : List Int), Tr w a t → Clo w p q g N Q → Q.length + t.l.length ≤ N →
    Calls Try.prog 54 #[.pointer a, .pointer (some ⟨p, 0, none⟩), .pointer (some ⟨q, 0, none⟩)] w fun e w' => e = .returned (.tuple #[]) ∧ Clo w' p q g N (Q ++ t.l) ∧ Fr (fun b => b = q ∨ b = g) w w' := by
  induction t with
  | nil =>
    intro w a Q h c hn
    obtain rfl : a = none := h
    have H := Lib.hid c
    clear c
    go_enter Try.func54, Try.ntmps54
    go_wp2_with fail
    go_end0
    exact ⟨rfl, by rw [T.l_nil, List.append_nil]; exact H.out, Fr.refl _ _⟩
  | node l s r ihl ihr =>
    intro w a Q h c hn
    have el : (T.node l s r).l.length = l.l.length + (r.l.length + 1) := by rw [T.l_node]; simp
    rw [el] at hn
    obtain ⟨b, al, ar, rfl, hr, h1, h2⟩ := h
    have S0 : Hid (Below w.heap.size w w.drew) := (Below.refl _ _).drew
    have T0 : Hid (Fr (fun b => b = q ∨ b = g) w w.drew) := (Fr.refl _ _).drawn ⟨1, rfl⟩
    have KL := Lib.hid (ihl w.drew al Q (h1.below S0.out) (c.of_same fun b hb => S0.out.block b hb) (by omega))
    have HR := Lib.hid h2
    have HC := Lib.hid c
    have HN := Lib.hid hr
    obtain ⟨F0, hg, _⟩ := c.r
    have x1 := rows_ne c.f c.o (by decide)
    have x2 := rows_ne c.f hg (by decide)
    have x3 := rows_ne hr c.o (by decide)
    have x4 := rows_ne hr hg (by decide)
    have cf := c.f.c
    have hlf := World.rowIs.lt c.f
    obtain ⟨c0, c1, c2, c3, c4, c5⟩ := ncells_of hr
    have hlt := World.rowIs.lt hr
    clear c h1 h2 hr c1 c2 c3 c4 c5 hg
    go_enter Try.func54, Try.ntmps54
    go_wp2_with fail
    refine wp_region_plan [(false, 0), (false, 1), (false, 2), (false, 3), (false, 4), (true, 5)] (Fr (fun b => b = q ∨ b = g) w) (by kernel_rfl) (by kernel_rfl) (T0.out) _ (by simp only [pickH, List.getElem?_toArray, List.getElem?_cons_succ, List.getElem?_cons_zero]; rfl) ?_
    repeat (refine HWalk.step (fun K hK => ?_); first | (apply held_yes; (focus rfl); (focus (intro w' hw; have hc' := fr_cells2 hw; go_simp; rfl)); (go_simp; refine hK _ ?_; clear hK K)) | (refine ite_no (by decide) ?_; go_simp; refine hK _ ?_; clear hK K))
    refine HWalk.mark ?_
    go_wp2_with fail
    refine (KL.out).mono ?_
    rintro e w1 ⟨rfl, h1, h2⟩
    have T1 := Lib.hid (T0.out.trans h2)
    have C1 := Lib.hid h1
    clear KL h1 h2
    go_wp2_with fail
    refine ⟨T1.out, ?_⟩
    repeat (refine HWalk.step (fun K hK => ?_); first | (apply held_yes; (focus rfl); (focus (intro w' hw; have hc' := fr_cells2 hw; go_simp; rfl)); (go_simp; refine hK _ ?_; clear hK K)) | (refine ite_no (by decide) ?_; go_simp; refine hK _ ?_; clear hK K))
    refine HWalk.done ?_
    go_wp2_with fail
    have D0 : Hid (Below w1.heap.size w1 w1.drew) := (Below.refl _ _).drew
    have C2 : Hid (Clo w1.drew p q g N (Q ++ l.l)) := C1.out.of_same fun b hb => D0.out.block b hb
    have hQ : (Q ++ l.l).length = Q.length + l.l.length := by simp
    obtain ⟨m, em⟩ : ∃ m, m = (Q ++ l.l).length := ⟨_, rfl⟩
    have EM := Lib.hid em
    have d1 := C2.out.o.c
    have f1 := C2.out.o.f
    have d1' := C1.out.o.c
    have f1' := C1.out.o.f
    rw [← em] at d1 d1' hQ
    obtain ⟨F1, hF1, _⟩ := C2.out.r
    have T2 : Hid (Fr (fun b => b = q ∨ b = g) w w1.drew) := T1.out.drawn ⟨1, rfl⟩
    have HN1 : w1.drew.rowIs b _ _ _ := HN.out.of_block (T2.out.block b hlt (by rintro (e | e); exact x3 e; exact x4 e))
    obtain ⟨_, _, d2, _, _, _⟩ := ncells_of HN1
    have RUN : Hid (∀ ty, (Builtin.append_ #[22, 22] ty #[.slice (some ⟨g, 0, none⟩) m N, .slice (some ⟨w1.heap.size, 0, none⟩) 1 1]).run Try.prog (w1.drew.alloc (.cells #[.int .i64 s] 2)) =
      .ok (.slice (some ⟨g, 0, none⟩) (m + 1) N) ((w1.drew.alloc (.cells #[.int .i64 s] 2)).setCell ⟨g, m, none⟩ (.int .i64 s))) := fun ty => push_room w1.drew hF1 (show m < N by omega) s ty
    have x5 : q ≠ g := rows_ne C2.out.o hF1 (by decide)
    have x6 : g ≠ q := x5.symm
    have hltq : q < w1.heap.size := World.rowIs.lt C2.out.o
    obtain ⟨P1, P2⟩ := C1.out.push (by omega) s
    rw [← em] at P1 P2
    have P2' := T1.out.trans P2
    have er : Q ++ l.l ++ [s] ++ r.l = Q ++ (T.node l s r).l := by rw [T.l_node]; simp
    have hl3 : (Q ++ l.l ++ [s]).length + r.l.length ≤ N := by simp; omega
    have KW : ∃ W, W = (pushW w1 q g N m s).drew ∧ Clo W p q g N (Q ++ l.l ++ [s]) ∧ Fr (fun b => b = q ∨ b = g) w W := ⟨_, rfl, P1.of_same fun _ _ => rfl, P2'.drawn ⟨1, rfl⟩⟩
    obtain ⟨W, eW, CW, TW⟩ := KW
    have EW := Lib.hid eW
    have cw := CW.f.c
    have hlw := World.rowIs.lt CW.f
    have HNW : W.rowIs b _ _ _ := HN.out.of_block (TW.block b hlt (by rintro (e | e); exact x3 e; exact x4 e))
    obtain ⟨_, cb, _, _, _, _⟩ := ncells_of HNW
    have hlbw := World.rowIs.lt HNW
    have V0 : Hid (Fr (fun b => b = q ∨ b = g) W W.drew) := (Fr.refl _ _).drawn ⟨1, rfl⟩
    have TW2 : Hid (Fr (fun b => b = q ∨ b = g) w W.drew) := TW.drawn ⟨1, rfl⟩
    have KR := Lib.hid (ihr W.drew ar (Q ++ l.l ++ [s]) (HR.out.fr HC.out TW2.out) (CW.of_same fun _ _ => rfl) hl3)
    rw [er] at KR
    clear cf c0 HN1 hF1 hlf em hQ P1 P2 P2' HNW eW CW TW ihl ihr hl3 er el
    go_region_law (refine step_push rfl (.tmp 12) (.tmp 17) 22 rfl (by simp [Act.eval, Act.put]) (by simp [Act.eval, Act.put]) RUN.out ?_)
    all_goals change Exit.then _ _ Exit.normal _ (pushW w1 q g N m s).drew
    all_goals rw [← EW.out]
    all_goals clear d1 f1 d1' f1' d2 x5 x6 hltq RUN
    all_goals go_wp2_with fail
    all_goals
      refine wp_region_plan [(false, 0), (false, 1), (false, 2), (false, 3), (false, 4), (true, 5)] (Fr (fun b => b = q ∨ b = g) W) (by kernel_rfl) (by kernel_rfl) (V0.out) _ (by simp only [pickH, List.getElem?_toArray, List.getElem?_cons_succ, List.getElem?_cons_zero]; rfl) ?_
      repeat (refine HWalk.step (fun K hK => ?_); first | (apply held_yes; (focus rfl); (focus (intro w' hw; have hc' := fr_cells2 hw; go_simp; rfl)); (go_simp; refine hK _ ?_; clear hK K)) | (refine ite_no (by decide) ?_; go_simp; refine hK _ ?_; clear hK K))
      refine HWalk.mark ?_
      go_wp2_with fail
      refine (KR.out).mono ?_
      rintro e w2 ⟨rfl, h1, h2⟩
      have V1 := Lib.hid (V0.out.trans h2)
      have H := Lib.hid (And.intro h1 (TW2.out.trans h2))
      clear KR h1 h2
      go_wp2_with fail
      refine ⟨V1.out, ?_⟩
      repeat (refine HWalk.step (fun K hK => ?_); first | (apply held_yes; (focus rfl); (focus (intro w' hw; have hc' := fr_cells2 hw; go_simp; rfl)); (go_simp; refine hK _ ?_; clear hK K)) | (refine ite_no (by decide) ?_; go_simp; refine hK _ ?_; clear hK K))
      refine HWalk.done ?_
      go_wp2_with fail
      go_end0
      exact ⟨rfl, H.out⟩

end Go.Proofs.Ytafgdknfhchnpaa

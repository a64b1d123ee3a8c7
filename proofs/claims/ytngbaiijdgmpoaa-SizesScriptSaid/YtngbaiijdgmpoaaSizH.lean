/-
  Contracts of package sizes: Move.
-/
import Derived.Test.YtngbaiijdgmpoaaSizG
namespace Go.Proofs.Ytngbaiijdgmpoaa
open Go.RowKit Go.Shelf
set_option linter.unusedVariables false
set_option linter.unusedSimpArgs false

attribute [local go_sem] Oper.semAt_some

theorem part_any (w : World) (A : Option Addr) (n : Nat) (x y z : Int) :
    Calls Try.prog 44 #[.slice A n n, .int .i64 x, .int .i64 y, .int .i64 z] w fun e w' =>
      e = .returned (.func (.func 65) #[] #[.pointer (some ⟨w.heap.size, 0, none⟩), .pointer (some ⟨w.heap.size + 1, 0, none⟩), .pointer (some ⟨w.heap.size + 1 + 1 + 1, 0, none⟩), .pointer (some ⟨w.heap.size + 1 + 1, 0, none⟩)]) ∧
      w' = (((w.alloc (.cells #[.slice A n n] 32)).alloc (.cells #[.int .i64 x] 3)).alloc (.cells #[.int .i64 y] 3)).alloc (.cells #[.int .i64 z] 3) := by
  go_enter Try.func44, Try.ntmps44
  go_wp2_with fail
  go_ret
  exact ⟨rfl, rfl⟩
set_option maxRecDepth 100000 in
set_option maxHeartbeats 1600000 in
theorem imove_bad (w : World) (a A : Option Addr) (S : Sp) (R : Rws) (h : Ix w a A S R) (i n t : Int) (ft : Fits t) (hc : movErr (szs R) i n t = 4) :
    Calls Try.prog 23 #[ixv a A S.length, .int .i64 i, .int .i64 n, .int .i64 t] w (IPost w [] 4) := by
  have V := Lib.hid (vI_x h)
  have g1 := V.out.get (.tail _ (.head _))
  have KS := Lib.hid (rmove_any _ a (szs R) g1.ix.rp h.ok i n t ft)
  have e2 : movTo (szs R) i n t = [] := by unfold movTo; rw [hc]; rfl
  rw [hc, e2] at KS
  obtain ⟨x1, x2, _, _, _, l1⟩ := g1
  obtain ⟨w0, e0⟩ : ∃ w0, w0 = vI w a A S.length := ⟨_, rfl⟩
  rw [← e0] at V KS x1 x2 l1
  clear h hc e2
  go_enter Try.func23, Try.ntmps23
  go_wp2_with fail
  change Calls Try.prog _ _ (vI w a A S.length) _
  rw [← e0]
  refine (KS.out).mono ?_
  rintro e w2 ⟨r, rfl, hr, hb⟩
  have V2 := Lib.hid (V.out.below hb)
  obtain ⟨d1', d2', k1', k2', l2'⟩ := V2.out.get0 (.head _)
  have V3 := Lib.hid ((V2.out.zero (.head _)).alloc (.cells #[.pointer r] 29))
  obtain ⟨y1, y2, _, _, _⟩ := V3.out.get0 (.head _)
  clear hb hr x1 x2 l1
  go_wp2_with fail
  exact bodyPost_ret (v := .tuple #[ixv none none 0, .int .i64 4]) (by simp [results, Try.results23, go_sem, y1, y2]) rfl (V3.out.bad 4)
theorem mem_movR {R : Rws} {k m t : Nat} {x : Int} (h : x ∈ szs (movR R k m t)) : x ∈ szs R := by
  have hr : ∀ y, y ∈ szs (remR R k m) → y ∈ szs R := fun y hy => by
    rw [szs_remR] at hy
    unfold remL at hy
    rcases List.mem_append.1 hy with hy | hy
    · exact List.mem_of_mem_take hy
    · exact List.mem_of_mem_drop (List.mem_of_mem_drop hy)
  unfold movR at h
  rw [szs_app, szs_app, szs_take, szs_take, szs_drop, szs_drop] at h
  rcases List.mem_append.1 h with h | h
  · rcases List.mem_append.1 h with h | h
    · exact hr x (List.mem_of_mem_take h)
    · exact List.mem_of_mem_drop (List.mem_of_mem_take h)
  · exact hr x (List.mem_of_mem_drop h)
theorem len_movR (R : Rws) {k m t : Nat} (h : k + m ≤ R.length) (ht : t ≤ R.length - m) : (movR R k m t).length = R.length := by
  have hl := len_remR R h
  unfold movR
  rw [List.length_append, List.length_append, List.length_take, List.length_take, List.length_drop, List.length_drop, hl]
  omega
/-- A block that holds neither a node nor numbers. -/
def Alien (w : World) (q : Nat) : Prop := (∀ f, ¬ w.rowIs q 92 6 f) ∧ ∀ o v, w.cell? ⟨q, o, none⟩ = some v → ∃ A n c, v = .slice A n c
theorem Alien.boxed {w : World} {q : Nat} {A : Option Addr} {n c : Nat} (h : Boxed w q 32 (.slice A n c)) : Alien w q := by
  have h' : w.heap[q]? = some (.cells #[.slice A n c] 32 (0, 0)) := h
  refine ⟨fun f hr => ?_, fun o v hv => ?_⟩
  · obtain ⟨cs, h1, _⟩ := hr
    rw [h'] at h1
    injection h1 with h1
    injection h1 with _ h1 _
    exact absurd h1 (by decide)
  · unfold World.cell? at hv
    rw [show w.heap[(Addr.mk q o none).block]? = _ from h'] at hv
    have hv : (#[Value.slice A n c] : Array Value)[o]? = some v := hv
    obtain ⟨ho, e⟩ := Array.getElem?_eq_some_iff.1 hv
    have : o = 0 := by simp at ho; omega
    subst this
    exact ⟨A, n, c, e.symm⟩
theorem Alien.other {w : World} {q : Nat} {o : Obj} (h : w.heap[q]? = some o) (hc : o.isCells = false) : Alien w q := by
  refine ⟨fun f hr => ?_, fun i v hv => ?_⟩
  · obtain ⟨cs, h1, _⟩ := hr
    rw [h] at h1
    injection h1 with h1
    rw [h1] at hc
    exact absurd hc (by simp [Obj.isCells])
  · exfalso
    unfold World.cell? at hv
    rw [show w.heap[(Addr.mk q i none).block]? = _ from h] at hv
    cases o <;> simp_all [Obj.isCells]
theorem Rp.fr {w w' : World} {a : Option Addr} {L : List Int} (h : Rp w a L) {q : Nat} (hf : Fr (fun b => b = q) w w') (hq : Alien w q) : Rp w' a L := by
  obtain ⟨t, h1, h2, h3⟩ := h
  exact ⟨t, h1.stay fun b f hr => hf.block b hr.lt (fun e => by subst e; exact hq.1 f hr), h2, h3⟩
theorem Sees.fr {w w' : World} {B n : Nat} {A : Option Addr} {f : Nat → Value} (h : Sees w B A n f) (hi : ∀ j, (∃ k x, f j = .int k x) ∨ ∃ b, f j = .bool b) {q : Nat} (hf : Fr (fun b => b = q) w w') (hq : Alien w q) (hB : B ≤ w.heap.size) : Sees w' B A n f := by
  intro hn
  obtain ⟨b, o, h1, h2, h3⟩ := h hn
  have hne : ¬ b = q := fun e => by
    subst e
    obtain ⟨A', n', c', he⟩ := hq.2 _ _ (h3 0 hn)
    rcases hi 0 with ⟨k, x, e2⟩ | ⟨x, e2⟩ <;> (rw [e2] at he; cases he)
  exact ⟨b, o, h1, h2, fun j hj => (World.cell?_of_block (w := w) (a := ⟨b, o + j, none⟩) (hf.block b (by omega) hne)).trans (h3 j hj)⟩
theorem Ix.fr {w w' : World} {a A : Option Addr} {S : Sp} {R : Rws} (h : Ix w a A S R) {q : Nat} (hf : Fr (fun b => b = q) w w') (hq : Alien w q) : Ix w' a A S R :=
  ⟨h.rp.fr hf hq, (h.sp.fr (spf_int S) hf hq (Nat.le_refl _)).more hf.size, h.ks, h.ok, h.le, h.ps⟩
theorem LX.fr {w0 w w' : World} {ps : List XE} {qs : List (Option Addr × Rws)} (h : LX w0 w ps qs) {q : Nat} (hf : Fr (fun b => b = q) w w') (hq : Alien w q) (hb : w0.heap.size ≤ q) (hne : ∀ x ∈ ps, x.1 ≠ q) : LX w0 w' ps qs :=
  ⟨fun x hx => ⟨(h.vs x hx).1, World.rowIs.of_block (h.vs x hx).2.1 (hf.block x.1 (World.rowIs.lt (h.vs x hx).2.1) (hne x hx)), (h.vs x hx).2.2.fr hf hq⟩,
   fun x hx => ((h.s x hx).fr (rwf_ib _) hf hq (Nat.le_refl _)).more hf.size,
   ⟨hf.os.trans h.bl.os, hf.tape.trans h.bl.tape, hf.output.trans h.bl.output, Nat.le_trans h.bl.size hf.size, fun k hk => (hf.block k (Nat.lt_of_lt_of_le hk h.bl.size) (by omega)).trans (h.bl.block k hk)⟩⟩
theorem Kx.fr {B q : Nat} {w w' : World} (h : Kx B q w w') (hB : B = w.heap.size) : Fr (fun b => b = q) w w' := ⟨h.os, h.tape, h.output, h.size, fun k hk hn => h.block k (by omega) hn⟩
theorem Sees.grown {X Y : World} {B n : Nat} {A : Option Addr} {f : Nat → Value} (h : Sees X B A n f) {row : Option Nat} (hg : X.grownBy Y row) (hr : ∀ r, row = some r → ∃ o : Obj, X.heap[r]? = some o ∧ o.isCells = false) (hB : B ≤ X.heap.size) : Sees Y B A n f := by
  intro hn
  obtain ⟨b, o, h1, h2, h3⟩ := h hn
  have hne : some b ≠ row := fun e => by
    obtain ⟨ob, h4, h5⟩ := hr b e.symm
    have h6 := h3 0 hn
    unfold World.cell? at h6
    rw [show X.heap[(Addr.mk b (o + 0) none).block]? = _ from h4] at h6
    cases ob <;> simp_all [Obj.isCells]
  exact ⟨b, o, h1, h2, fun j hj => (World.cell?_of_block (w := X) (a := ⟨b, o + j, none⟩) (hg.block b (by omega) hne)).trans (h3 j hj)⟩
theorem keepsFrom_below {B : Nat} {W W' : World} (h : Below W.heap.size W W') : KeepsFrom B W W' := ⟨h.size, fun k o _ hk _ => (h.block k (Array.getElem?_eq_some_iff.1 hk).1).trans hk⟩
/-- What the loop keeps: the box holds the spans of those that are known, with the parts that have come. -/
def MvI (wB : World) (q : Nat) (p : Nat → Bool) {N : Nat} (pre : List (Rg N)) (W : World) : Prop :=
  (∃ A' S', Boxed W q 32 (.slice A' S'.length S'.length) ∧ SeesP W W.heap.size A' S' ∧ KnS S' (pM p (pre.map (·.1)))) ∧ Kx wB.heap.size q wB W
theorem MvI.own (wB : World) (q : Nat) (p : Nat → Bool) (N : Nat) : OwnFrom wB.heap.size (fun (pre : List (Rg N)) W => MvI wB q p pre W) := by
  rintro pre X Y row ⟨⟨A', S', h1, h2, h3⟩, h4⟩ hg hr
  refine ⟨⟨A', S', h1.kept hg (fun e => ?_), (h2.grown hg (fun r e => (hr r e).2) (Nat.le_refl _)).more hg.size, h3⟩, h4.trans (Kx.grown hg h4.size (fun r e => .inl (hr r e).1))⟩
  obtain ⟨_, o, h5, h6⟩ := hr q e.symm
  rw [show X.heap[q]? = _ from h1] at h5
  cases h5
  cases h6
/-- The loop's variable. -/
def SpBox (W : World) (b : Nat) (x y : Int) : Prop := W.heap[b]? = some (.cells #[.int .i64 x, .int .i64 y] 75 (0, 0))
theorem SpBox.cells {W : World} {b : Nat} {x y : Int} (h : SpBox W b x y) : W.cell? ⟨b, 0, none⟩ = some (.int .i64 x) ∧ W.cell? ⟨b, 1, none⟩ = some (.int .i64 y) := by
  constructor <;> simp [World.cell?, show W.heap[b]? = _ from h]
theorem Kx.set (B q : Nat) (w : World) (v : Value) : Kx B q w (w.setCell ⟨q, 0, none⟩ v) := ⟨rfl, rfl, rfl, by simp [World.setCell], fun k _ hn => Below.heap_setCell _ _ _ k hn⟩
theorem MvI.set {wB W w2 : World} {q N : Nat} {p : Nat → Bool} {pre : List (Rg N)} {x : Rg N} {A2 : Option Addr} {S2 : Sp} (hb : ∃ v, Boxed W q 32 v ∧ ∃ A n c, v = .slice A n c) (hk : Kx wB.heap.size q wB W) (h1 : SeesP w2 w2.heap.size A2 S2) (h2 : KnS S2 (markF (pM p (pre.map (·.1))) x.1.1 x.1.2 true)) (h3 : Below W.heap.size W w2) :
    KeepsFrom wB.heap.size W (w2.setCell ⟨q, 0, none⟩ (.slice A2 S2.length S2.length)) ∧ Kx wB.heap.size q W (w2.setCell ⟨q, 0, none⟩ (.slice A2 S2.length S2.length)) ∧ MvI wB q p (pre ++ [x]) (w2.setCell ⟨q, 0, none⟩ (.slice A2 S2.length S2.length)) := by
  obtain ⟨v, hv, A, n, c, rfl⟩ := hb
  have hv2 : Boxed w2 q 32 (.slice A n c) := (h3.block q hv.lt).trans hv
  have k2 : Kx wB.heap.size q W (w2.setCell ⟨q, 0, none⟩ (.slice A2 S2.length S2.length)) := (Kx.of_below (h3.mono hk.size)).trans (Kx.set _ _ _ _)
  refine ⟨(keepsFrom_below h3).trans ((KeepsOthers.setCell _ _ _).from _), k2, ⟨A2, S2, hv2.set _, (Sees.set_other h1 hv2.cell (fun j hj e => ?_) _).more (by simp [World.setCell]), ?_⟩, hk.trans k2⟩
  · rcases spf_int S2 j with ⟨k, y, h⟩ | ⟨y, h⟩ <;> (rw [h] at e; cases e)
  · rw [List.map_append]
    show KnS S2 (pM p (pre.map (·.1) ++ [x.1]))
    rw [pM_snoc]
    exact h2
set_option maxRecDepth 100000 in
set_option maxHeartbeats 6400000 in
theorem imove_ok (w : World) (a A : Option Addr) (S : Sp) (R : Rws) (h : Ix w a A S R) (k m t : Nat) (hc : k + m ≤ R.length) (ht : t ≤ R.length - m) :
    Calls Try.prog 23 #[ixv a A S.length, .int .i64 k, .int .i64 m, .int .i64 t] w (IPost w (movR R k m t) 0) := by
  have V := Lib.hid (vI_x h)
  have g1 := V.out.get (.tail _ (.head _))
  have hle := h.le
  have KS := Lib.hid (rmove_any _ a (szs R) g1.ix.rp h.ok k m t ⟨by omega, by omega⟩)
  have hc0 : movErr (szs R) k m t = 0 := by unfold movErr; rw [szs_len, if_neg (by omega)]
  have e2 : movTo (szs R) k m t = szs (movR R k m t) := by unfold movTo; rw [hc0, szs_movR]; rfl
  rw [hc0, e2] at KS
  have OK : Hid (LOk (szs (movR R k m t))) := by rw [szs_movR]; exact movL_ok h.ok k m t
  have PS : Hid (∀ x ∈ szs (movR R k m t), 1 ≤ x ∧ x ≤ 2305843009213693952) := fun x hx => h.ps x (mem_movR hx)
  have LE : Hid ((movR R k m t).length ≤ 1024) := by show _ ≤ _; rw [len_movR R hc ht]; omega
  have KN : Hid (∀ T, KnS T (pM (insF (remF (kn R) k m) t m) (partsN k m t S)) → KnS T (kn (movR R k m t))) := fun T hT => hT.congr (fun j => by rw [pM_any, parts_any h.ks, kn_movR R hc ht])
  have KR := Lib.hid (fun W (hW : Below (vI w a A S.length).heap.size (vI w a A S.length) W) => srem_small W A _ S (kn R) R.length k m (g1.ix.sp.below hW) hW.size h.ks h.lt (by omega) (by omega) (by omega))
  have LR := Lib.hid (remF_lt2 (a := k) (n := m) h.lt (by omega))
  have HX := Lib.hid h
  obtain ⟨x1, x2, _, _, _, l1⟩ := g1
  obtain ⟨R', eR⟩ : ∃ R', R' = movR R k m t := ⟨_, rfl⟩
  rw [← eR] at OK PS LE KN KS ⊢
  obtain ⟨w0, e0⟩ : ∃ w0, w0 = vI w a A S.length := ⟨_, rfl⟩
  rw [← e0] at V KS KR x1 x2 l1
  clear h hc0 e2 eR
  refine (callsIn_wide (n := 8)).1 (callsIn_of_wp_marks Try.func23 rfl trivial ?_ rfl)
  simp only [Try.ntmps23, List.size_toArray, List.length_cons, List.length_nil, Nat.reduceAdd, Nat.reduceSub, Array.replicate_succ, Array.replicate_zero, List.push_toArray, List.append_toArray, List.nil_append, List.cons_append]
  refine wpIn_wide.2 ?_
  go_wp2_with fail
  change Calls Try.prog _ _ (vI w a A S.length) _
  rw [← e0]
  refine (KS.out).mono ?_
  rintro e w3 ⟨r, rfl, hr, hb⟩
  have HB3 := Lib.hid hb
  have V3 := Lib.hid (V.out.below hb)
  have VR3 := Lib.hid (Boxed.new w3 29 (.pointer r))
  have V4 := Lib.hid (V3.out.alloc (.cells #[.pointer r] 29))
  have HR4 := Lib.hid (hr.below ((Below.refl _ w3).alloc (Nat.le_refl _) (.cells #[.pointer r] 29)))
  have HB4 := Lib.hid (HB3.out.alloc HB3.out.size (.cells #[.pointer r] 29))
  clear hb hr x1 x2 l1
  obtain ⟨x1, x2, _, _, _, l1⟩ := V3.out.get (.tail _ (.head _))
  go_wp2_with fail
  refine (KR.out _ HB4.out).mono ?_
  rintro e w5 ⟨A5, S5, rfl, p1, p2, p3⟩
  have V5 := Lib.hid (V4.out.below p3)
  have hB5 : Below w3.heap.size w3 w5 := ((Below.refl _ w3).alloc (Nat.le_refl _) _).trans (p3.mono (by rw [World.size_alloc]; omega))
  have VR5 : Hid (Boxed w5 w3.heap.size 29 (.pointer r)) := (p3.block _ (by rw [World.size_alloc]; omega)).trans VR3.out
  have HR5 := Lib.hid (HR4.out.below p3)
  have KI := Lib.hid (sins_small (w5.alloc (.cells #[.slice A5 S5.length S5.length] 32)) A5 w5.heap.size S5 _ (R.length - m) t m (p1.below ((Below.refl _ w5).alloc (Nat.le_refl _) _)) (by rw [World.size_alloc]; omega) p2 LR.out (by omega) (by omega))
  have LS5 : Hid (w3.heap.size < w5.heap.size) := by have := p3.size; rw [World.size_alloc] at this; exact this
  clear p1 p2 p3 x1 x2 l1 hB5
  go_wp2_with fail
  refine (KI.out).mono ?_
  rintro e w6 ⟨A6, S6, rfl, p1, p2, p3⟩
  have V6 := Lib.hid ((V5.out.alloc (.cells #[.slice A5 S5.length S5.length] 32)).below p3)
  have VR6 : Hid (Boxed w6 w3.heap.size 29 (.pointer r)) := (p3.block _ (by rw [World.size_alloc]; have := LS5.out; omega)).trans ((Below.heap_alloc _ _ _ LS5.out).trans VR5.out)
  have HR6 := Lib.hid ((HR5.out.below ((Below.refl _ w5).alloc (Nat.le_refl _) (.cells #[.slice A5 S5.length S5.length] 32))).below p3)
  have VL6 : Hid (Boxed w6 w5.heap.size 32 (.slice A5 S5.length S5.length)) := (p3.block _ (by rw [World.size_alloc]; omega)).trans (Boxed.new w5 _ _)
  have lb6 := p3.size
  rw [World.size_alloc] at lb6
  have ls5 := LS5.out
  have l30 := (V3.out.get (.head _)).lt
  have cl := VL6.out.cell
  have fl := VL6.out.frozen
  have fr7 : Fr (fun b => b = w5.heap.size) w6 (w6.setCell ⟨w5.heap.size, 0, none⟩ (.slice A6 S6.length S6.length)) := Fr.setCell (S := fun b => b = w5.heap.size) (Fr.refl _ w6) (p := ⟨w5.heap.size, 0, none⟩) rfl _
  have V7 := Lib.hid (V6.out.fr fr7 (Alien.boxed VL6.out) (by have := V3.out.bl.size; omega) (fun x hx => by
    simp only [List.mem_cons, List.not_mem_nil, or_false] at hx
    rcases hx with rfl | rfl
    · show w.heap.size + 1 ≠ _; omega
    · show w.heap.size ≠ _; omega))
  have VR7 : Hid (Boxed (w6.setCell ⟨w5.heap.size, 0, none⟩ (.slice A6 S6.length S6.length)) w3.heap.size 29 (.pointer r)) := VR6.out.other (by omega) _
  have VL7 := Lib.hid (VL6.out.set (.slice A6 S6.length S6.length))
  have HR7 := Lib.hid (HR6.out.fr fr7 (Alien.boxed VL6.out))
  have SP7 : Hid (SeesP (w6.setCell ⟨w5.heap.size, 0, none⟩ (.slice A6 S6.length S6.length)) w6.heap.size A6 S6) := p1.fr (spf_int S6) fr7 (Alien.boxed VL6.out) (Nat.le_refl _)
  have KS7 := Lib.hid p2
  have sz7 : (w6.setCell ⟨w5.heap.size, 0, none⟩ (.slice A6 S6.length S6.length)).heap.size = w6.heap.size := by simp [World.setCell]
  obtain ⟨x1, x2, _, _, _, l1⟩ := V6.out.get (.tail _ (.head _))
  have lw5 : ¬ w.heap.size = w5.heap.size := by omega
  clear fr7 p1 p2 p3 KI KR KS VR3 V4 HR4 HB4 V5 VR5 HR5
  go_wp2_with fail
  generalize w6.setCell ⟨w5.heap.size, 0, none⟩ (.slice A6 S6.length S6.length) = w7 at V7 VR7 VL7 HR7 SP7 sz7 ⊢
  have SZ7 := Lib.hid sz7
  clear x1 x2 l1 cl fl lw5 sz7
  refine (part_any w7 A S.length _ _ _).mono ?_
  rintro e w8 ⟨rfl, rfl⟩
  have b8 : Below w7.heap.size w7 ((((w7.alloc (.cells #[.slice A S.length S.length] 32)).alloc (.cells #[.int .i64 k] 3)).alloc (.cells #[.int .i64 ((k : Int) + (m : Int))] 3)).alloc (.cells #[.int .i64 ((t : Int) - (k : Int))] 3)) := ((((Below.refl _ w7).alloc (Nat.le_refl _) _).alloc (by simp) _).alloc (by simp; omega) _).alloc (by simp; omega) _
  have q1 := Boxed.cell ((((Boxed.new w7 32 (.slice A S.length S.length)).alloc (.cells #[.int .i64 k] 3)).alloc (.cells #[.int .i64 ((k : Int) + (m : Int))] 3)).alloc (.cells #[.int .i64 ((t : Int) - (k : Int))] 3))
  have q2 := Boxed.cell (((Boxed.new (w7.alloc (.cells #[.slice A S.length S.length] 32)) 3 (.int .i64 k)).alloc (.cells #[.int .i64 ((k : Int) + (m : Int))] 3)).alloc (.cells #[.int .i64 ((t : Int) - (k : Int))] 3))
  have q3 := Boxed.cell ((Boxed.new ((w7.alloc (.cells #[.slice A S.length S.length] 32)).alloc (.cells #[.int .i64 k] 3)) 3 (.int .i64 ((k : Int) + (m : Int)))).alloc (.cells #[.int .i64 ((t : Int) - (k : Int))] 3))
  have q4 := Boxed.cell (Boxed.new (((w7.alloc (.cells #[.slice A S.length S.length] 32)).alloc (.cells #[.int .i64 k] 3)).alloc (.cells #[.int .i64 ((k : Int) + (m : Int))] 3)) 3 (.int .i64 ((t : Int) - (k : Int))))
  have sz8 : ((((w7.alloc (.cells #[.slice A S.length S.length] 32)).alloc (.cells #[.int .i64 k] 3)).alloc (.cells #[.int .i64 ((k : Int) + (m : Int))] 3)).alloc (.cells #[.int .i64 ((t : Int) - (k : Int))] 3)).heap.size = w7.heap.size + 4 := by simp
  simp only [World.size_alloc] at q2 q3 q4
  go_wp2_with fail
  generalize (((w7.alloc (.cells #[.slice A S.length S.length] 32)).alloc (.cells #[.int .i64 k] 3)).alloc (.cells #[.int .i64 ((k : Int) + (m : Int))] 3)).alloc (.cells #[.int .i64 ((t : Int) - (k : Int))] 3) = wB at q1 q2 q3 q4 sz8 b8 ⊢
  have LP : Hid (∀ j, insF (remF (kn R) k m) t m j = true → j < R.length) := fun j hj => by have := insF_lt (a := t) (n := m) LR.out j hj; omega
  have sz7 := SZ7.out
  have hbB : w6.heap.size ≤ wB.heap.size := by omega
  have SKB : Hid (SK wB.heap.size w5.heap.size wB A S) := fun h0 => by
    obtain ⟨b, o, j1, j2, j3⟩ := (V7.out.get (.tail _ (.head _))).ix.sp (by omega)
    refine ⟨b, o, j1, by omega, fun e => ?_, fun j hj => (b8.cell (p := ⟨b, o + j, none⟩) j2).trans (j3 j hj)⟩
    have h3 := j3 0 (by omega)
    rw [e] at h3
    obtain ⟨A', n', c', he⟩ := (Alien.boxed VL7.out).2 _ _ h3
    rcases spf_int S 0 with ⟨y, x, e2⟩ | ⟨x, e2⟩ <;> (rw [e2] at he; cases he)
  refine (wpIn_wide (n := 8)).1 ?_
  refine wpIn_rangeFunc_ownH (F := Fence.wide) (n := 8) rfl (by omega) (gf := 65) (lb := #[.pointer (some ⟨w7.heap.size, 0, none⟩), .pointer (some ⟨w7.heap.size + 1, 0, none⟩), .pointer (some ⟨w7.heap.size + 1 + 1 + 1, 0, none⟩), .pointer (some ⟨w7.heap.size + 1 + 1, 0, none⟩)]) (by simp [go_sem]; done) trivial (enters_of Try.func65 (by kernel_rfl) rfl)
    (encs := encR (N := R.length)) (Kp := Kx wB.heap.size w5.heap.size) (S := fun ys => ys.map (·.1) = partsN k m t S) (Sp := fun _ => True) (N := S.length) (w0 := wB)
    (fun l J Jx W hW hJ _ hY h0 => part1_in 7 (by omega) l w7.heap.size (w7.heap.size + 1) (w7.heap.size + 1 + 1 + 1) (w7.heap.size + 1 + 1) wB.heap.size w5.heap.size R.length k m t A S HX.out.ks.nf HX.out.slen hc (by omega) (by omega) (by omega) (by omega) (by omega) (by omega) (by omega) (by omega) (by omega) (by omega) J Jx hY W hW.size hJ
      ((hW.cell (p := ⟨w7.heap.size, 0, none⟩) (by show w7.heap.size < _; omega)).trans q1) ((hW.cell (p := ⟨w7.heap.size + 1, 0, none⟩) (by show w7.heap.size + 1 < _; omega)).trans q2) ((hW.cell (p := ⟨w7.heap.size + 1 + 1 + 1, 0, none⟩) (by show w7.heap.size + 1 + 1 + 1 < _; omega)).trans q4) ((hW.cell (p := ⟨w7.heap.size + 1 + 1, 0, none⟩) (by show w7.heap.size + 1 + 1 < _; omega)).trans q3)
      ((SKB.out).keep (Kx.of_below hW)) h0)
    (fun h k => h.trans k) (fun W l o o' hl h h1 h2 => Kx.of_below (belowK_b (w := wB) (Nat.le_refl _) W l o o' hl h h1 h2)) (Below.refl _ _) (fun _ => rfl)
    (fun pre W => MvI wB w5.heap.size (insF (remF (kn R) k m) t m) pre W) (fun _ _ _ => False) (MvI.own _ _ _ _) (fun _ _ _ _ _ hs _ _ => hs)
    ⟨⟨A6, S6, (b8.block _ (by omega)).trans VL7.out, (SP7.out.below (b8.mono (by omega))).more hbB, KS7.out⟩, Kx.refl _ _ _⟩
    (fun x a' W => ∃ Bx, SpBox W Bx x.1.1 x.1.2 ∧ a' = { tmps := #[ixv a A S.length, .int .i64 k, .int .i64 m, .int .i64 t, .pointer (some ⟨w.heap.size, 0, none⟩), undef, undef, undef, .pointer (some ⟨w.heap.size + 1, 0, none⟩), .int .i64 0, .pointer (some ⟨w3.heap.size, 0, none⟩), .int .i64 0, .pointer (some ⟨w5.heap.size, 0, none⟩), .int .i64 0, .pointer (some ⟨Bx, 0, none⟩),
      .tuple #[.agg #[.pointer r], .int .i64 0], .pointer (some ⟨w.heap.size, 0, none⟩), .pointer (some ⟨w.heap.size, 0, none⟩), .agg #[.pointer a], .int .i64 k, .int .i64 m, .int .i64 t, .tuple #[.agg #[.pointer r], .int .i64 0], .agg #[.pointer r], .int .i64 0, .int .i64 0, .bool false, undef, undef,
      .tuple #[.slice A5 S5.length S5.length, .int .i64 0], .pointer (some ⟨w.heap.size, 1, none⟩), .slice A S.length S.length, .int .i64 k, .int .i64 m, .tuple #[.slice A5 S5.length S5.length, .int .i64 0], .slice A5 S5.length S5.length, .int .i64 0,
      .tuple #[.slice A6 S6.length S6.length, .int .i64 0], .slice A5 S5.length S5.length, .int .i64 t, .int .i64 m, .tuple #[.slice A6 S6.length S6.length, .int .i64 0], .slice A6 S6.length S6.length, .int .i64 0,
      .pointer (some ⟨w.heap.size, 1, none⟩), .slice A S.length S.length, .int .i64 k, .int .i64 k, .int .i64 m, .int .i64 ((k : Int) + (m : Int)), .int .i64 t, .int .i64 k, .int .i64 ((t : Int) - (k : Int)),
      .func (.func 65) #[] #[.pointer (some ⟨w7.heap.size, 0, none⟩), .pointer (some ⟨w7.heap.size + 1, 0, none⟩), .pointer (some ⟨w7.heap.size + 1 + 1 + 1, 0, none⟩), .pointer (some ⟨w7.heap.size + 1 + 1, 0, none⟩)], .agg #[.int .i64 x.1.1, .int .i64 x.1.2], undef, undef, undef, undef, undef, undef, undef, undef, undef, undef, undef, undef], defers := [] })
    (fun x a' _ X Y row hs hg hr => by
      obtain ⟨Bx, h2, h3⟩ := hs
      refine ⟨Bx, (hg.block Bx (Array.getElem?_eq_some_iff.1 h2).1 (fun e => ?_)).trans h2, h3⟩
      obtain ⟨_, o, h5, h6⟩ := hr Bx e.symm
      rw [show X.heap[Bx]? = _ from h2] at h5
      cases h5
      cases h6)
    ?assign ?body ?done ?stop
  case assign =>
    rintro l pre x W K ⟨⟨A', S', i1, i2, i3⟩, i4⟩ hK
    clear sz7
    simp only [encR]
    gi_wp2
    refine hK _ _ (keepsFrom_below ((Below.refl _ W).alloc (Nat.le_refl _) _)) (Kx.of_below (((Below.refl _ W).alloc (Nat.le_refl _) _).mono i4.size)) ⟨⟨A', S', i1.alloc _, (i2.below ((Below.refl _ W).alloc (Nat.le_refl _) _)).more (by rw [World.size_alloc]; omega), i3⟩, i4.trans (Kx.of_below (((Below.refl _ W).alloc (Nat.le_refl _) _).mono i4.size))⟩ ⟨W.heap.size, World.alloc_heap_new W _, ?_⟩
    rfl
  case body =>
    rintro l pre x a' W hl ⟨r', hr'⟩ ⟨⟨A', S', i1, i2, i3⟩, i4⟩ ⟨Bx, hbx, rfl⟩ hlt
    have KM := Lib.hid (marked_any W A' _ S' _ R.length x.1.1 x.1.2 true i2 (Nat.le_refl _) i3 (pM_lt LP.out (fun y hy => by
      obtain ⟨z, _, rfl⟩ := List.mem_map.1 hy
      exact z.2.2)) (by omega) x.2.1 x.2.2)
    have cL := i1.cell
    have fL := i1.frozen
    obtain ⟨s0, s1⟩ := hbx.cells
    have I1 := Lib.hid i1
    have I4 := Lib.hid i4
    clear i1 i2 i3 i4 hbx hr' sz7
    gi_wp2_with fail
    refine ⟨trivial, (CallsIn.inRound l (callsIn_wide.2 KM.out)).mono ?_⟩
    rintro e w2 ⟨A2, S2, rfl, g1, g2, g3⟩
    have M := Lib.hid (MvI.set ⟨_, I1.out, _, _, _, rfl⟩ I4.out g1 g2 g3)
    have B2 : Hid (Boxed w2 w5.heap.size 32 (.slice A' S'.length S'.length)) := (g3.block _ I1.out.lt).trans I1.out
    have cL2 := B2.out.cell
    have fL2 := B2.out.frozen
    clear g1 g2 g3 cL fL s0 s1 KM
    gi_wp2_with fail
    exact M.out
  case done =>
    rintro D zs W hD hS ⟨⟨A', S', i1, i2, i3⟩, i4⟩ hK
    have FW := i4.fr rfl
    have AL := Alien.boxed ((b8.block _ (by omega)).trans VL7.out : Boxed wB _ _ _)
    have VW := Lib.hid ((V7.out.below b8).fr FW AL (by have := V3.out.bl.size; omega) (fun x hx => by
      simp only [List.mem_cons, List.not_mem_nil, or_false] at hx
      rcases hx with rfl | rfl
      · show w.heap.size + 1 ≠ _; omega
      · show w.heap.size ≠ _; omega))
    have HRW := Lib.hid ((HR7.out.below b8).fr FW AL)
    have VRW : Hid (Boxed W w3.heap.size 29 (.pointer r)) := (FW.block _ (by omega) (by omega)).trans ((b8.block _ (by omega)).trans VR7.out)
    rw [hS] at i3
    have KP := Lib.hid (with_ok W r A' S' R' ⟨HRW.out, i2, KN.out _ i3, OK.out, LE.out, PS.out⟩)
    have cR := VRW.out.cell
    have cL := i1.cell
    have lD := (Array.getElem?_eq_some_iff.1 hK).1
    have HK := Lib.hid hK
    clear sz7 i1 i2 i3 i4 hK hS AL FW q1 q2 q3 q4 b8
    go_wp2_with fail
    refine (KP.out).mono ?_
    rintro e w9 ⟨a9, A9, S9, rfl, g1, g2⟩
    have V9 := Lib.hid (VW.out.below g2)
    obtain ⟨y1, y2, y3, y4, l4⟩ := V9.out.get0 (.head _)
    have V10 := Lib.hid (V9.out.put1 (.head _) g1)
    have K9 := (g2.block D lD).trans HK.out
    have K10 : Hid (((w9.setCell ⟨w.heap.size + 1, 0, none⟩ (.pointer a9)).setCell ⟨w.heap.size + 1, 1, none⟩ (.slice A9 S9.length S9.length)).heap[D]? = some (.deferred (some []))) :=
      (Below.heap_setCell _ _ _ D (by show D ≠ w.heap.size + 1; omega)).trans ((Below.heap_setCell _ _ _ D (by show D ≠ w.heap.size + 1; omega)).trans K9)
    clear g1 g2 K9 cR cL KP
    go_wp2_with fail
    generalize (w9.setCell ⟨w.heap.size + 1, 0, none⟩ (.pointer a9)).setCell ⟨w.heap.size + 1, 1, none⟩ (.slice A9 S9.length S9.length) = w10 at V10 K10 ⊢
    have V11 := Lib.hid (V10.out.fr (w' := w10.putObj D (.deferred none)) ⟨rfl, rfl, rfl, by simp [World.putObj], fun k _ hn => World.putObj_heap_other (fun e => hn e)⟩ (Alien.other K10.out rfl) (by have := VW.out.bl.size; omega) (fun x hx => by
      simp only [List.mem_cons, List.not_mem_nil, or_false] at hx
      rcases hx with rfl
      show w.heap.size + 1 ≠ _; omega))
    obtain ⟨z1, z2, _, _, _, _⟩ := V11.out.get (.head _)
    refine ⟨by simp, .inl ⟨_, _, rfl, run_takeDeferred K10.out, ?_⟩⟩
    refine ⟨.tuple #[ixv a9 A9 S9.length, .int .i64 0], ?_, a9, A9, S9, rfl, (V11.out.get (.head _)).ix, V11.out.bl⟩
    simp [results, Try.results23, go_sem, z1, z2]
  case stop =>
    rintro D c pre W _ _ h _
    exact h.elim
end Go.Proofs.Ytngbaiijdgmpoaa

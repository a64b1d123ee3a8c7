/-
  Indices in variables; (Index).Set.
-/
import Derived.Test.YtngbaiijdgmpoaaSizB
import Derived.Test.YtngbaiijdgmpoaaHeld
namespace Go.Proofs.Ytngbaiijdgmpoaa
open Go.RowKit
set_option linter.unusedVariables false
set_option linter.unusedSimpArgs false

def xrow (a A : Option Addr) (n : Nat) : Nat → Value := fun j => if j = 0 then .pointer a else .slice A n n
abbrev XVar (w : World) (q : Nat) (a A : Option Addr) (n : Nat) : Prop := w.rowIs q 34 2 (xrow a A n)
theorem XVar.mk (w : World) (a A : Option Addr) (n : Nat) : XVar (ixw w a A n) w.heap.size a A n := World.rowIs_alloc w #[.pointer a, .slice A n n] 34 _ (fun j hj => by
    have : j = 0 ∨ j = 1 := by simp at hj; omega
    rcases this with rfl | rfl <;> rfl)
theorem XVar.set {w : World} {q : Nat} {a A : Option Addr} {n : Nat} (h : XVar w q a A n) (a' A' : Option Addr) (n' : Nat) : XVar ((w.setCell ⟨q, 0, none⟩ (.pointer a')).setCell ⟨q, 1, none⟩ (.slice A' n' n')) q a' A' n' :=
  (World.rowIs.set (World.rowIs.set h 0 _) 1 _).congr fun j hj => by
    have h0 : j = 0 ∨ j = 1 := by omega
    rcases h0 with rfl | rfl <;> rfl
theorem Sees.set_other {w : World} {B n : Nat} {A : Option Addr} {f : Nat → Value} (h : Sees w B A n f) {p : Addr} {u : Value} (hp : w.cell? p = some u) (hu : ∀ j, j < n → f j ≠ u) (v : Value) : Sees (w.setCell p v) B A n f := by
  intro hn
  obtain ⟨b, o, h1, h2, h3⟩ := h hn
  refine ⟨b, o, h1, h2, fun j hj => ?_⟩
  rw [World.cell?_setCell_other _ _ _ _ (fun e => ?_)]
  · exact h3 j hj
  · have := h3 j hj
    rw [← e, hp] at this
    exact hu j hj (Option.some.inj this).symm
theorem Sees.set_var {w : World} {B n : Nat} {A : Option Addr} {f : Nat → Value} (h : Sees w B A n f) {q : Nat} {a C : Option Addr} {m : Nat} (hq : XVar w q a C m) (hu : ∀ j, j < n → (∃ k x, f j = .int k x) ∨ ∃ b, f j = .bool b) (a' A' : Option Addr) (n' : Nat) :
    Sees ((w.setCell ⟨q, 0, none⟩ (.pointer a')).setCell ⟨q, 1, none⟩ (.slice A' n' n')) B A n f := by
  have e1 := World.rowIs.cell hq (i := 0) (by omega)
  have e2 := World.rowIs.cell (World.rowIs.set hq 0 (.pointer a')) (i := 1) (by omega)
  refine (h.set_other e1 (fun j hj e => ?_) _).set_other e2 (fun j hj e => ?_) _
  · rcases hu j hj with ⟨k, x, h⟩ | ⟨b, h⟩ <;> (rw [h] at e; cases e)
  · rcases hu j hj with ⟨k, x, h⟩ | ⟨b, h⟩ <;> (rw [h] at e; cases e)
theorem spf_int (L : Sp) (j : Nat) : (∃ k x, spf L j = .int k x) ∨ ∃ b, spf L j = .bool b := .inl ⟨_, _, rfl⟩
theorem Ix.set_var {w : World} {a A : Option Addr} {S : Sp} {R : Rws} (h : Ix w a A S R) {q : Nat} {b C : Option Addr} {m : Nat} (hq : XVar w q b C m) (a' A' : Option Addr) (n' : Nat) :
    Ix ((w.setCell ⟨q, 0, none⟩ (.pointer a')).setCell ⟨q, 1, none⟩ (.slice A' n' n')) a A S R :=
  ⟨(h.rp.set hq (by decide) rfl _).set (World.rowIs.set hq 0 (.pointer a')) (by decide) rfl _, (h.sp.set_var hq (fun j _ => spf_int S j) a' A' n').more (by simp [World.setCell]), h.ks, h.ok, h.le, h.ps⟩

/-- An entry: a variable of type Index. -/
abbrev XE := Nat × Option Addr × Option Addr × Sp × Rws
/-- The cells of rows as the reference has them. -/
def rg (R : Rws) (k : Nat) : Int × Bool := R.getD k (0, false)
def rwf (R : Rws) : Nat → Value := fun j => if j % 2 = 0 then .int .i64 (rg R (j / 2)).1 else .bool (rg R (j / 2)).2
theorem rwf_0 (L : Rws) (k : Nat) : rwf L (k * 2) = .int .i64 (rg L k).1 := by
  unfold rwf
  rw [if_pos (by omega), show k * 2 / 2 = k from by omega]
theorem rwf_1 (L : Rws) (k : Nat) : rwf L (k * 2 + 1) = .bool (rg L k).2 := by
  unfold rwf
  rw [if_neg (by omega), show (k * 2 + 1) / 2 = k from by omega]
theorem rwf_ib (L : Rws) (j : Nat) : (∃ k x, rwf L j = .int k x) ∨ ∃ b, rwf L j = .bool b := by
  unfold rwf
  split
  · exact .inl ⟨_, _, rfl⟩
  · exact .inr ⟨_, rfl⟩
abbrev SeesR (w : World) (B : Nat) (A : Option Addr) (R : Rws) : Prop := Sees w B A (R.length * 2) (rwf R)
/-- The variables of type Index, and the slices of rows, that a function holds; the world since it was called. -/
structure LX (w0 w : World) (ps : List XE) (qs : List (Option Addr × Rws)) : Prop where
  vs : ∀ x ∈ ps, w0.heap.size ≤ x.1 ∧ XVar w x.1 x.2.1 x.2.2.1 x.2.2.2.1.length ∧ Ix w x.2.1 x.2.2.1 x.2.2.2.1 x.2.2.2.2
  s : ∀ q ∈ qs, SeesR w w.heap.size q.1 q.2
  bl : Below w0.heap.size w0 w
theorem LX.start {w0 w : World} (hb : Below w0.heap.size w0 w) : LX w0 w [] [] := ⟨fun x hx => (nomatch hx), fun x hx => (nomatch hx), hb⟩
theorem LX.below {w0 w w' : World} {ps : List XE} {qs : List (Option Addr × Rws)} (h : LX w0 w ps qs) (hb : Below w.heap.size w w') : LX w0 w' ps qs :=
  ⟨fun x hx => ⟨(h.vs x hx).1, World.rowIs.of_block (h.vs x hx).2.1 (hb.block x.1 (World.rowIs.lt (h.vs x hx).2.1)), (h.vs x hx).2.2.below hb⟩, fun q hq => ((h.s q hq).below hb).more hb.size, h.bl.trans (hb.mono h.bl.size)⟩
theorem LX.alloc {w0 w : World} {ps : List XE} {qs : List (Option Addr × Rws)} (h : LX w0 w ps qs) (o : Obj) : LX w0 (w.alloc o) ps qs := h.below ((Below.refl _ w).alloc (Nat.le_refl _) o)
theorem LX.drawn {w0 w w' : World} {ps : List XE} {qs : List (Option Addr × Rws)} (h : LX w0 w ps qs) (hd : Drawn w w') : LX w0 w' ps qs := h.below (hd.below _)
theorem LX.cons {w0 w : World} {ps : List XE} {qs : List (Option Addr × Rws)} (h : LX w0 w ps qs) {a A : Option Addr} {S : Sp} {R : Rws} (hx : Ix w a A S R) : LX w0 (ixw w a A S.length) ((w.heap.size, a, A, S, R) :: ps) qs := by
  have h' := h.alloc (.cells #[.pointer a, .slice A S.length S.length] 34)
  refine ⟨fun x hx' => ?_, h'.s, h'.bl⟩
  rcases List.mem_cons.1 hx' with rfl | hx'
  · exact ⟨h.bl.size, XVar.mk _ _ _ _, hx.below (ixw_b _ _ _ _)⟩
  · exact h'.vs x hx'
structure LX1 (w : World) (q : Nat) (a A : Option Addr) (S : Sp) (R : Rws) : Prop where
  c0 : w.cell? ⟨q, 0, none⟩ = some (.pointer a)
  c1 : w.cell? ⟨q, 1, none⟩ = some (.slice A S.length S.length)
  f0 : w.frozen? ⟨q, 0, none⟩ = false
  f1 : w.frozen? ⟨q, 1, none⟩ = false
  ix : Ix w a A S R
  lt : q < w.heap.size
theorem LX.get {w0 w : World} {ps : List XE} {qs : List (Option Addr × Rws)} (h : LX w0 w ps qs) {q : Nat} {a A : Option Addr} {S : Sp} {R : Rws} (hx : (q, a, A, S, R) ∈ ps) : LX1 w q a A S R := by
  obtain ⟨h1, h2, h3⟩ := h.vs _ hx
  exact ⟨World.rowIs.cell h2 (i := 0) (by omega), World.rowIs.cell h2 (i := 1) (by omega), World.rowIs.frozen h2 0, World.rowIs.frozen h2 1, h3, World.rowIs.lt h2⟩
theorem LX.see {w0 w : World} {ps : List XE} {qs : List (Option Addr × Rws)} (h : LX w0 w ps qs) {A : Option Addr} {R : Rws} (hx : (A, R) ∈ qs) : SeesR w w.heap.size A R := h.s _ hx
theorem LX.add {w0 w : World} {ps : List XE} {qs : List (Option Addr × Rws)} (h : LX w0 w ps qs) {A : Option Addr} {R : Rws} (hs : SeesR w w.heap.size A R) : LX w0 w ps ((A, R) :: qs) :=
  ⟨h.vs, fun q hq => by
    rcases List.mem_cons.1 hq with rfl | hq
    · exact hs
    · exact h.s q hq, h.bl⟩
theorem LX.sub {w0 w : World} {ps ps' : List XE} {qs qs' : List (Option Addr × Rws)} (h : LX w0 w ps qs) (hp : ∀ x ∈ ps', x ∈ ps) (hq : ∀ x ∈ qs', x ∈ qs) : LX w0 w ps' qs' :=
  ⟨fun x hx => h.vs x (hp x hx), fun x hx => h.s x (hq x hx), h.bl⟩
/-- A store into one of the variables; the others named. -/
theorem LX.put {w0 w : World} {ps : List XE} {qs : List (Option Addr × Rws)} (h : LX w0 w ps qs) {q : Nat} {a A : Option Addr} {S : Sp} {R : Rws} (hx : (q, a, A, S, R) ∈ ps) {a' A' : Option Addr} {S' : Sp} {R' : Rws} (hr : Ix w a' A' S' R')
    (ps' : List XE) (hq : ∀ x ∈ ps', x ∈ ps ∧ x.1 ≠ q) : LX w0 ((w.setCell ⟨q, 0, none⟩ (.pointer a')).setCell ⟨q, 1, none⟩ (.slice A' S'.length S'.length)) ((q, a', A', S', R') :: ps') qs := by
  obtain ⟨h1, h2, h3⟩ := h.vs _ hx
  refine ⟨fun x hx' => ?_, fun x hx' => ((h.s x hx').set_var h2 (fun j _ => rwf_ib _ j) _ _ _).more (by simp [World.setCell]), (h.bl.setCell (p := ⟨q, 0, none⟩) h1 _).setCell (p := ⟨q, 1, none⟩) h1 _⟩
  rcases List.mem_cons.1 hx' with rfl | hx'
  · exact ⟨h1, XVar.set h2 _ _ _, hr.set_var h2 _ _ _⟩
  · obtain ⟨g1, g2⟩ := hq x hx'
    obtain ⟨k1, k2, k3⟩ := h.vs x g1
    exact ⟨k1, World.rowIs.setOther (World.rowIs.setOther k2 g2 _) g2 _, k3.set_var h2 _ _ _⟩
/-- .. the same, and no other is kept. -/
theorem LX.put1 {w0 w : World} {ps : List XE} {qs : List (Option Addr × Rws)} (h : LX w0 w ps qs) {q : Nat} {a A : Option Addr} {S : Sp} {R : Rws} (hx : (q, a, A, S, R) ∈ ps) {a' A' : Option Addr} {S' : Sp} {R' : Rws} (hr : Ix w a' A' S' R') :
    LX w0 ((w.setCell ⟨q, 0, none⟩ (.pointer a')).setCell ⟨q, 1, none⟩ (.slice A' S'.length S'.length)) [(q, a', A', S', R')] qs := h.put hx hr [] (fun x hx => (nomatch hx))
theorem LX.zero {w0 w : World} {ps : List XE} {qs : List (Option Addr × Rws)} (h : LX w0 w ps qs) {q : Nat} {a A : Option Addr} {S : Sp} {R : Rws} (hx : (q, a, A, S, R) ∈ ps) :
    LX w0 ((w.setCell ⟨q, 0, none⟩ (.pointer none)).setCell ⟨q, 1, none⟩ (.slice none 0 0)) [(q, none, none, [], [])] qs := h.put1 hx (Ix.new _)
theorem LX.get0 {w0 w : World} {ps : List XE} {qs : List (Option Addr × Rws)} (h : LX w0 w ps qs) {q : Nat} (hx : (q, none, none, [], []) ∈ ps) : w.cell? ⟨q, 0, none⟩ = some (.pointer none) ∧ w.cell? ⟨q, 1, none⟩ = some (.slice none 0 0) ∧ w.frozen? ⟨q, 0, none⟩ = false ∧ w.frozen? ⟨q, 1, none⟩ = false ∧ q < w.heap.size := by
  obtain ⟨h1, h2, h3, h4, _, h5⟩ := h.get hx
  exact ⟨h1, h2, h3, h4, h5⟩
/-- The end: no index and an error. -/
theorem LX.bad {w0 w : World} {q : Nat} {qs : List (Option Addr × Rws)} (h : LX w0 w [(q, none, none, [], [])] qs) (x : Int) : IPost w0 [] x (.returned (.tuple #[ixv none none 0, .int .i64 x])) w := ⟨none, none, [], rfl, (h.get (.head _)).ix, h.bl⟩

/-- The world in which a method has put its index and its result. -/
abbrev vI (w : World) (a A : Option Addr) (n : Nat) : World := ixw (ixw w a A n) none none 0
theorem vI_x {w : World} {a A : Option Addr} {S : Sp} {R : Rws} (h : Ix w a A S R) : LX w (vI w a A S.length) [(w.heap.size + 1, none, none, [], []), (w.heap.size, a, A, S, R)] [] := by
  have := ((LX.start (Below.refl _ w)).cons h).cons (Ix.new _)
  rwa [World.size_alloc] at this

def isetErr (R : Rws) (i v : Int) : Int := if i < 0 ∨ (R.length : Int) ≤ i then 4 else if v < 1 ∨ 2305843009213693952 < v then 12 else if 4611686018427387904 - ((szs R).sum - lf (szs R) i.toNat) < v then 13 else 0
def isetTo (R : Rws) (i v : Int) (b : Bool) : Rws := if isetErr R i v = 0 then setR R i.toNat v b else []
theorem mem_take_drop {L : List Int} {k : Nat} {v x : Int} (h : x ∈ rsetL L k v) : x = v ∨ x ∈ L := by
  unfold rsetL at h
  rcases List.mem_append.1 h with h | h
  · exact .inr (List.mem_of_mem_take h)
  · rcases List.mem_cons.1 h with h | h
    · exact .inl h
    · exact .inr (List.mem_of_mem_drop h)
/-- What an index has in its result variable. -/
theorem res_ix {w : World} {q : Nat} {a A : Option Addr} {S : Sp} {R : Rws} (g : LX1 w q a A S R) : w.cell? ⟨q, 0, none⟩ = some (.pointer a) ∧ w.cell? ⟨q, 1, none⟩ = some (.slice A S.length S.length) := ⟨g.c0, g.c1⟩

set_option maxRecDepth 100000 in
set_option maxHeartbeats 1600000 in
theorem iset_bad (w : World) (a A : Option Addr) (S : Sp) (R : Rws) (h : Ix w a A S R) (i v : Int) (b : Bool) (fi : Fits i) (fv : Fits v) (c : i < 0 ∨ (R.length : Int) ≤ i) :
    Calls Try.prog 22 #[ixv a A S.length, .int .i64 i, .int .i64 v, .bool b] w (IPost w [] 4) := by
  have V := Lib.hid (vI_x h)
  have g1 := V.out.get (.tail _ (.head _))
  have g2 := V.out.get (.head _)
  have KL := Lib.hid (fun W (hW : Below (vI w a A S.length).heap.size (vI w a A S.length) W) => ilen_any W a A S.length R (g1.ix.rp.below hW))
  have KS := Lib.hid (fun W (hW : Below (vI w a A S.length).heap.size (vI w a A S.length) W) => rset_any W a (szs R) (g1.ix.rp.below hW) h.ok i v fi fv)
  have e1 : rsetErr (szs R) i v = 4 := by unfold rsetErr; rw [szs_len, if_pos c]
  have e2 : rsetTo (szs R) i v = [] := by unfold rsetTo; rw [e1]; rfl
  rw [e1, e2] at KS
  obtain ⟨c1, c2, f1, f2, _, l1⟩ := g1
  obtain ⟨d1, d2, k1, k2, _, l2⟩ := g2
  obtain ⟨w0, e0⟩ : ∃ w0, w0 = vI w a A S.length := ⟨_, rfl⟩
  rw [← e0] at V KL KS c1 c2 f1 f2 l1 d1 d2 k1 k2 l2
  clear h e1 e2
  by_cases c0 : i < 0
  · go_enter Try.func22, Try.ntmps22
    go_wp2_with fail
    change Calls Try.prog _ _ (vI w a A S.length) _
    rw [← e0]
    have HB : Hid (Below w0.heap.size w0 w0) := Below.refl _ _
    -- 4 the error
    refine (KS.out _ (HB.out)).mono ?_
    rintro e w2 ⟨r, rfl, hr, hb⟩
    have V2 := Lib.hid (V.out.below ((HB.out).trans (hb.mono (HB.out).size)))
    obtain ⟨d1', d2', k1', k2', l2'⟩ := V2.out.get0 (.head _)
    have V3 := Lib.hid ((V2.out.zero (.head _)).alloc (.cells #[.pointer r] 29))
    obtain ⟨y1, y2, _, _, _⟩ := V3.out.get0 (.head _)
    clear hb hr
    go_wp2_with fail
    exact bodyPost_ret (v := .tuple #[ixv none none 0, .int .i64 4]) (by simp [results, Try.results22, go_sem, y1, y2]) rfl (V3.out.bad 4)
  · have c0' : (R.length : Int) ≤ i := by omega
    go_enter Try.func22, Try.ntmps22
    go_wp2_with fail
    change Calls Try.prog _ _ (vI w a A S.length) _
    rw [← e0]
    refine (KL.out _ (Below.refl _ _)).mono ?_
    rintro e w1 ⟨rfl, hb⟩
    have V1 := Lib.hid (V.out.below hb)
    have HB := Lib.hid hb
    obtain ⟨x1, x2, _, _, _, m1⟩ := V1.out.get (.tail _ (.head _))
    clear hb
    go_wp2_with fail
    -- 4 the error
    refine (KS.out _ (HB.out)).mono ?_
    rintro e w2 ⟨r, rfl, hr, hb⟩
    have V2 := Lib.hid (V.out.below ((HB.out).trans (hb.mono (HB.out).size)))
    obtain ⟨d1', d2', k1', k2', l2'⟩ := V2.out.get0 (.head _)
    have V3 := Lib.hid ((V2.out.zero (.head _)).alloc (.cells #[.pointer r] 29))
    obtain ⟨y1, y2, _, _, _⟩ := V3.out.get0 (.head _)
    clear hb hr
    go_wp2_with fail
    exact bodyPost_ret (v := .tuple #[ixv none none 0, .int .i64 4]) (by simp [results, Try.results22, go_sem, y1, y2]) rfl (V3.out.bad 4)
set_option maxRecDepth 100000 in
set_option maxHeartbeats 1600000 in
theorem iset_wrong (w : World) (a A : Option Addr) (S : Sp) (R : Rws) (h : Ix w a A S R) (i v : Int) (b : Bool) (fi : Fits i) (fv : Fits v) (c1 : 0 ≤ i) (c2 : i < R.length) (c3 : v < 1 ∨ 2305843009213693952 < v) :
    Calls Try.prog 22 #[ixv a A S.length, .int .i64 i, .int .i64 v, .bool b] w (IPost w [] 12) := by
  have V := Lib.hid (vI_x h)
  have g1 := V.out.get (.tail _ (.head _))
  have KL := Lib.hid (fun W (hW : Below (vI w a A S.length).heap.size (vI w a A S.length) W) => ilen_any W a A S.length R (g1.ix.rp.below hW))
  have KW := Lib.hid (fun W => wrong_any W v fv)
  rw [decide_eq_true c3] at KW
  obtain ⟨x1, x2, _, _, _, l1⟩ := g1
  obtain ⟨w0, e0⟩ : ∃ w0, w0 = vI w a A S.length := ⟨_, rfl⟩
  rw [← e0] at V KL x1 x2 l1
  clear h c3
  go_enter Try.func22, Try.ntmps22
  go_wp2_with fail
  change Calls Try.prog _ _ (vI w a A S.length) _
  rw [← e0]
  refine (KL.out _ (Below.refl _ _)).mono ?_
  rintro e w1 ⟨rfl, hb⟩
  have V1 := Lib.hid (V.out.below hb)
  clear hb
  go_wp2_with fail
  refine (KW.out w1).mono ?_
  rintro e w2 ⟨rfl, rfl⟩
  obtain ⟨d1', d2', k1', k2', l2'⟩ := V1.out.get0 (.head _)
  have V3 := Lib.hid (V1.out.zero (.head _))
  obtain ⟨y1, y2, _, _, _⟩ := V3.out.get0 (.head _)
  go_wp2_with fail
  exact bodyPost_ret (v := .tuple #[ixv none none 0, .int .i64 12]) (by simp [results, Try.results22, go_sem, y1, y2]) rfl (V3.out.bad 12)
set_option maxRecDepth 100000 in
set_option maxHeartbeats 1600000 in
theorem iset_over (w : World) (a A : Option Addr) (S : Sp) (R : Rws) (h : Ix w a A S R) (i v : Int) (b : Bool) (fi : Fits i) (fv : Fits v) (c1 : 0 ≤ i) (c2 : i < R.length) (c3 : ¬ (v < 1 ∨ 2305843009213693952 < v)) (c4 : 4611686018427387904 - ((szs R).sum - lf (szs R) i.toNat) < v) :
    Calls Try.prog 22 #[ixv a A S.length, .int .i64 i, .int .i64 v, .bool b] w (IPost w [] 13) := by
  have V := Lib.hid (vI_x h)
  have g1 := V.out.get (.tail _ (.head _))
  have KL := Lib.hid (fun W (hW : Below (vI w a A S.length).heap.size (vI w a A S.length) W) => ilen_any W a A S.length R (g1.ix.rp.below hW))
  have KW := Lib.hid (fun W => wrong_any W v fv)
  have KS := Lib.hid (fun W (hW : Below (vI w a A S.length).heap.size (vI w a A S.length) W) => rset_any W a (szs R) (g1.ix.rp.below hW) h.ok i v fi fv)
  have e1 : rsetErr (szs R) i v = 13 := by unfold rsetErr; rw [szs_len, if_neg (by omega), if_neg (by omega), if_pos c4]
  have e2 : rsetTo (szs R) i v = [] := by unfold rsetTo; rw [e1]; rfl
  rw [e1, e2] at KS
  rw [decide_eq_false c3] at KW
  obtain ⟨x1, x2, _, _, _, l1⟩ := g1
  obtain ⟨w0, e0⟩ : ∃ w0, w0 = vI w a A S.length := ⟨_, rfl⟩
  rw [← e0] at V KL KS x1 x2 l1
  clear h c3 c4 e1 e2
  go_enter Try.func22, Try.ntmps22
  go_wp2_with fail
  change Calls Try.prog _ _ (vI w a A S.length) _
  rw [← e0]
  refine (KL.out _ (Below.refl _ _)).mono ?_
  rintro e w1 ⟨rfl, hb⟩
  have V1 := Lib.hid (V.out.below hb)
  obtain ⟨x1', x2', _, _, _, l1'⟩ := V1.out.get (.tail _ (.head _))
  have HB := Lib.hid hb
  clear hb
  go_wp2_with fail
  refine (KW.out w1).mono ?_
  rintro e w2 ⟨rfl, rfl⟩
  go_wp2_with fail
  -- 13 the error
  refine (KS.out _ (HB.out)).mono ?_
  rintro e w2 ⟨r, rfl, hr, hb⟩
  have V2 := Lib.hid (V.out.below ((HB.out).trans (hb.mono (HB.out).size)))
  obtain ⟨d1', d2', k1', k2', l2'⟩ := V2.out.get0 (.head _)
  have V3 := Lib.hid ((V2.out.zero (.head _)).alloc (.cells #[.pointer r] 29))
  obtain ⟨y1, y2, _, _, _⟩ := V3.out.get0 (.head _)
  clear hb hr
  go_wp2_with fail
  exact bodyPost_ret (v := .tuple #[ixv none none 0, .int .i64 13]) (by simp [results, Try.results22, go_sem, y1, y2]) rfl (V3.out.bad 13)
set_option maxRecDepth 100000 in
set_option maxHeartbeats 3200000 in
theorem iset_ok (w : World) (a A : Option Addr) (S : Sp) (R : Rws) (h : Ix w a A S R) (k : Nat) (v : Int) (b : Bool) (fv : Fits v) (c2 : k < R.length) (c3 : ¬ (v < 1 ∨ 2305843009213693952 < v)) (c4 : ¬ 4611686018427387904 - ((szs R).sum - lf (szs R) k) < v) :
    Calls Try.prog 22 #[ixv a A S.length, .int .i64 k, .int .i64 v, .bool b] w (IPost w (setR R k v b) 0) := by
  have V := Lib.hid (vI_x h)
  have g1 := V.out.get (.tail _ (.head _))
  have hle := h.le
  have fi : Fits (k : Int) := ⟨by omega, by omega⟩
  have KL := Lib.hid (fun W (hW : Below (vI w a A S.length).heap.size (vI w a A S.length) W) => ilen_any W a A S.length R (g1.ix.rp.below hW))
  have KW := Lib.hid (fun W => wrong_any W v fv)
  have KS := Lib.hid (fun W (hW : Below (vI w a A S.length).heap.size (vI w a A S.length) W) => rset_any W a (szs R) (g1.ix.rp.below hW) h.ok k v fi fv)
  have e1 : rsetErr (szs R) k v = 0 := by unfold rsetErr; rw [szs_len, if_neg (by omega), if_neg (by omega), Int.toNat_natCast, if_neg c4]
  have e2 : rsetTo (szs R) k v = szs (setR R k v b) := by unfold rsetTo; rw [e1, szs_setR]; rfl
  rw [e1, e2] at KS
  rw [decide_eq_false c3] at KW
  have eL : (setR R k v b).length = R.length := by unfold setR; rw [List.length_append, List.length_cons, List.length_take, List.length_drop]; omega
  have OK : Hid (LOk (szs (setR R k v b))) := by rw [szs_setR]; exact rset_ok h.ok (by rw [szs_len]; exact c2) (by omega) (by omega)
  have PS : Hid (∀ x ∈ szs (setR R k v b), 1 ≤ x ∧ x ≤ 2305843009213693952) := fun x hx => by
    rw [szs_setR] at hx
    rcases mem_take_drop hx with rfl | hx
    · omega
    · exact h.ps x hx
  have LE : Hid ((setR R k v b).length ≤ 1024) := by show _ ≤ _; omega
  have KN : Hid (∀ T, KnS T (markF (kn R) k (k + 1) b) → KnS T (kn (setR R k v b))) := fun T hT => hT.congr (fun j => (kn_setR R c2 v b j).symm)
  have KM := Lib.hid (fun W (hW : Below (vI w a A S.length).heap.size (vI w a A S.length) W) => marked_any W A _ S (kn R) R.length k (k + 1) b (g1.ix.sp.below hW) hW.size h.ks h.lt (by omega) (by omega) (by omega))
  obtain ⟨x1, x2, _, _, _, l1⟩ := g1
  obtain ⟨R', eR⟩ : ∃ R', R' = setR R k v b := ⟨_, rfl⟩
  rw [← eR] at OK PS LE KN KS ⊢
  obtain ⟨w0, e0⟩ : ∃ w0, w0 = vI w a A S.length := ⟨_, rfl⟩
  rw [← e0] at V KL KS KM x1 x2 l1
  clear h c3 c4 e1 e2 eL eR
  go_enter Try.func22, Try.ntmps22
  go_wp2_with fail
  change Calls Try.prog _ _ (vI w a A S.length) _
  rw [← e0]
  refine (KL.out _ (Below.refl _ _)).mono ?_
  rintro e w1 ⟨rfl, hb⟩
  have V1 := Lib.hid (V.out.below hb)
  obtain ⟨x1', x2', _, _, _, l1'⟩ := V1.out.get (.tail _ (.head _))
  have HB := Lib.hid hb
  clear hb
  go_wp2_with fail
  refine (KW.out w1).mono ?_
  rintro e w2 ⟨rfl, rfl⟩
  go_wp2_with fail
  refine (KS.out _ HB.out).mono ?_
  rintro e w3 ⟨r, rfl, hr, hb⟩
  have HB3 := Lib.hid (HB.out.trans (hb.mono HB.out.size))
  have HR := Lib.hid hr
  have V3 := Lib.hid (V.out.below HB3.out)
  obtain ⟨x1, x2, _, _, _, l1⟩ := V3.out.get (.tail _ (.head _))
  obtain ⟨y1, y2, y3, y4, l2⟩ := V3.out.get0 (.head _)
  clear hb hr x1' x2' l1'
  go_wp2_with fail
  -- w3: the world in which the rope r has come (HR, V3, HB3); now it has its variable
  have V4 := Lib.hid (V3.out.alloc (.cells #[.pointer r] 29))
  have VR := Lib.hid (Var.mk w3 29 (.pointer r))
  have HR4 := Lib.hid (HR.out.below ((Below.refl _ w3).alloc (Nat.le_refl _) (.cells #[.pointer r] 29)))
  have HB4 := Lib.hid (HB3.out.alloc HB3.out.size (.cells #[.pointer r] 29))
  obtain ⟨w4, e4⟩ : ∃ w4, w4 = w3.alloc (.cells #[.pointer r] 29) := ⟨_, rfl⟩
  rw [← e4] at V4 VR HR4 HB4
  have E4 := Lib.hid e4
  clear e4 x1 x2 y1 y2 y3 y4
  change Code.wp _ _ _ _ (w3.alloc _)
  rw [← E4.out]
  obtain ⟨x1, x2, _, _, _, l3⟩ := V4.out.get (.tail _ (.head _))
  obtain ⟨y1, y2, y3, y4, l4⟩ := V4.out.get0 (.head _)
  have v1 := VR.out.c
  have l5 := World.rowIs.lt VR.out
  have n1 : ¬ w3.heap.size = w.heap.size + 1 := by omega
  have n2 : ¬ w.heap.size = w.heap.size + 1 := by omega
  have S0 : Hid (Fr (fun b => b = w.heap.size + 1) w4 w4.drew) := (Fr.refl _ _).drawn ⟨1, rfl⟩
  refine wp_region_plan [(false, 0), (false, 1), (false, 2), (false, 3), (false, 4), (false, 5), (false, 6), (true, 7), (true, 8), (false, 9), (false, 10), (true, 11), (false, 12)] (Fr (fun b => b = w.heap.size + 1) w4) (by kernel_rfl) (by kernel_rfl) (S0.out) _ (by simp only [pickH, List.getElem?_toArray, List.getElem?_cons_succ, List.getElem?_cons_zero]; rfl) ?_
  repeat (refine HWalk.step (fun K hK => ?_); first | (apply held_yes; (focus rfl); (focus (intro w' hw; have hc' := fr_cells hw; go_simp; rfl)); (go_simp; refine hK _ ?_; clear hK K)) | (refine ite_no (by decide) ?_; go_simp; refine hK _ ?_; clear hK K))
  clear x1 x2 y1 y2 y3 y4 v1 l3 l4 l5
  refine HWalk.mark ?_
  go_wp2_with fail
  refine (KM.out w4.drew HB4.out.drew).mono ?_
  rintro e w5 ⟨A5, S5, rfl, p1, p2, p3⟩
  have B5 : Hid (Below w4.heap.size w4 w5) := ((Below.refl _ w4).drew).trans p3
  have KP := Lib.hid (with_ok w5 r A5 S5 R' ⟨HR4.out.below B5.out, p1, KN.out _ p2, OK.out, LE.out, PS.out⟩)
  have S1 := Lib.hid (Fr.of_below (S := fun b => b = w.heap.size + 1) B5.out)
  clear p1 p2 p3
  go_wp2_with fail
  refine ⟨S1.out, ?_⟩
  repeat (refine HWalk.step (fun K hK => ?_); first | (apply held_yes; (focus rfl); (focus (intro w' hw; have hc' := fr_cells hw; go_simp; rfl)); (go_simp; refine hK _ ?_; clear hK K)) | (refine ite_no (by decide) ?_; go_simp; refine hK _ ?_; clear hK K))
  refine HWalk.mark ?_
  go_wp2_with fail
  refine (KP.out).mono ?_
  rintro e w6 ⟨a6, A6, S6, rfl, q1, q2⟩
  have B6 : Hid (Below w4.heap.size w4 w6) := B5.out.trans (q2.mono B5.out.size)
  have V6 := Lib.hid (V4.out.below B6.out)
  obtain ⟨y1, y2, y3, y4, l4⟩ := V6.out.get0 (.head _)
  have V7 := Lib.hid (V6.out.put1 (.head _) q1)
  obtain ⟨z1, z2, _, _, _, _⟩ := V7.out.get (.head _)
  have S2 := Lib.hid (Fr.of_below (S := fun b => b = w.heap.size + 1) B6.out)
  have S3 := Lib.hid ((S2.out.setCell (p := ⟨w.heap.size + 1, 0, none⟩) rfl (.pointer a6)).setCell (p := ⟨w.heap.size + 1, 1, none⟩) rfl (.slice A6 S6.length S6.length))
  clear q1 q2 KP
  go_wp2_with fail
  refine ⟨S2.out, ?_⟩
  repeat (refine HWalk.step (fun K hK => ?_); first | (apply held_yes; (focus rfl); (focus (intro w' hw; have hc' := fr_cells hw; go_simp; rfl)); (go_simp; refine hK _ ?_; clear hK K)) | (refine ite_no (by decide) ?_; go_simp; refine hK _ ?_; clear hK K))
  refine HWalk.mark ?_
  go_wp2_with fail
  refine ⟨S3.out, ?_⟩
  repeat (refine HWalk.step (fun K hK => ?_); first | (apply held_yes; (focus rfl); (focus (intro w' hw; have hc' := fr_cells hw; go_simp; rfl)); (go_simp; refine hK _ ?_; clear hK K)) | (refine ite_no (by decide) ?_; go_simp; refine hK _ ?_; clear hK K))
  refine HWalk.done ?_
  go_wp2_with fail
  go_wp2_with fail
  exact bodyPost_ret (v := .tuple #[ixv a6 A6 S6.length, .int .i64 0]) (by simp [results, Try.results22, go_sem, z1, z2]) rfl ⟨a6, A6, S6, rfl, (V7.out.get (.head _)).ix, V7.out.bl⟩
end Go.Proofs.Ytngbaiijdgmpoaa

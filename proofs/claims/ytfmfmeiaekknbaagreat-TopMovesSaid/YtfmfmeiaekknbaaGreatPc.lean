/-
  Contracts and plain laws that the walks of the top need, merged by a program out of one text a subject.
-/
import Derived.Test.YtfmfmeiaekknbaaGreatRows
import Derived.Test.YtfmfmeiaekknbaaGreatPa
import Derived.Test.YtfmfmeiaekknbaaGreatPb
import Derived.LoopTactic
import Derived.Outline
import Derived.BigQuiet
import Derived.BigRegion
import Derived.WalkMore
import Derived.Lib.JoinLaws
import Derived.Scope
import Derived.Lib.MinMax
import Derived.Maps.OwnSet
import Derived.WalkArith
import Derived.RangeFuncBox
import Derived.RangeFuncWrites
import Derived.RangeFuncLeaves
import Derived.RangeFuncNested
import Derived.Shelf.Abstract
import Derived.WalkKit
import Derived.OwnWalkIn
import Derived.TacticsInMore
import Derived.LoopNIn
import Derived.LoopIn
import Derived.Laws.EntriesVeiled
import Derived.Lib.Overlaps
import Derived.Lib.SliceRun
import Derived.Laws.Externs
import Derived.Laws.LoneSync
import Derived.Deep.QuietTactic
import Derived.StillTailTactics
import Derived.Deep.RegionHeld3
section
/-
  Package rises: the lengths (by sort.Search over the patience row).
-/
namespace Go.Proofs.YtfmfmeiaekknbaaGreat
open Go.RowKit
set_option linter.unusedVariables false
set_option linter.unusedSimpArgs false

/-- What the closure of lengths looks at: the row of starts, the list, the position. -/
structure LC (w : World) (bs bl pi gs K c : Nat) (S : Nat → Int) (A : Option Addr) (nl cl : Nat) (l : Nat → Int) (i : Nat) : Prop where
  b1 : w.cell? ⟨bs, 0, none⟩ = some (.slice (some ⟨gs, 0, none⟩) K c)
  b2 : w.cell? ⟨bl, 0, none⟩ = some (.slice A nl cl)
  b3 : w.cell? ⟨pi, 0, none⟩ = some (.int .i64 i)
  s : ∀ k, k < K → w.cell? ⟨gs, k, none⟩ = some (.int .i64 (S k))
  l : ∃ b o, A = some ⟨b, o, none⟩ ∧ w.cell? ⟨b, o + i, none⟩ = some (.int .i64 (l i))
  hi : i < nl
theorem LC.drawn {w w' : World} {bs bl pi gs K c : Nat} {S : Nat → Int} {A : Option Addr} {nl cl : Nat} {l : Nat → Int} {i : Nat} (h : LC w bs bl pi gs K c S A nl cl l i) (hd : Drawn w w') : LC w' bs bl pi gs K c S A nl cl l i := by obtain ⟨q, rfl⟩ := hd; exact ⟨h.b1, h.b2, h.b3, h.s, h.l, h.hi⟩
set_option maxRecDepth 100000 in
set_option maxHeartbeats 1600000 in
theorem lclos_any (w : World) (bs bl pi gs K c : Nat) (S : Nat → Int) (A : Option Addr) (nl cl : Nat) (l : Nat → Int) (i : Nat) (h : LC w bs bl pi gs K c S A nl cl l i) (k : Nat) (hk : k < K) (hK : K ≤ 4096) (hn : nl ≤ 4096) :
    Calls Tryz.prog 168 #[.int .i64 k, .pointer (some ⟨bs, 0, none⟩), .pointer (some ⟨bl, 0, none⟩), .pointer (some ⟨pi, 0, none⟩)] w fun e w' => e = .returned (.bool (decide (S k ≤ l i))) ∧ Drawn w w' := by
  obtain ⟨b1, b2, b3, s, ⟨b, o, rfl, c2⟩, hi⟩ := h
  have c1 := s k hk
  have hki : (k : Int) < (K : Int) := by omega
  have hii : (i : Int) < (nl : Int) := by omega
  clear s
  generalize S k = x at *
  generalize l i = y at *
  go_enter Tryz.func168, Tryz.ntmps168
  go_wp2_with fail
  go_quiet (fail)
  go_wp2_with fail
  go_ret
  exact ⟨rfl, _, rfl⟩
set_option maxRecDepth 100000 in
set_option maxHeartbeats 1600000 in
theorem search_any (w : World) (bs bl pi gs K c : Nat) (S : Nat → Int) (A : Option Addr) (nl cl : Nat) (l : Nat → Int) (i : Nat) (h : LC w bs bl pi gs K c S A nl cl l i) (hK : K ≤ 4096) (hn : nl ≤ 4096) (hm : ∀ a b, a ≤ b → b < K → S b ≤ S a) :
    Calls Tryz.prog 167 #[.int .i64 K, .func (.func 168) #[] #[.pointer (some ⟨bs, 0, none⟩), .pointer (some ⟨bl, 0, none⟩), .pointer (some ⟨pi, 0, none⟩)]] w fun e w' => ∃ k : Nat, e = .returned (.int .i64 k) ∧ (k ≤ K ∧ (∀ j, j < k → l i < S j) ∧ (k < K → S k ≤ l i)) ∧ Drawn w w' := by
  have H := Lib.hid h
  have HM := Lib.hid hm
  clear h hm
  go_enter Tryz.func167, Tryz.ntmps167
  go_wp2_with fail
  go_loopw [5, 6, 7] (fun a b _ wr => ∃ x y : Nat, a = .int .i64 x ∧ b = .int .i64 y ∧ x ≤ y ∧ y ≤ K ∧ Hid (∀ j, j < x → l i < S j) ∧ Hid (y < K → S y ≤ l i) ∧ Hid (Drawn w wr)) (fun a b _ _ => (intOf b).toNat - (intOf a).toNat)
  case atStart => exact ⟨0, K, rfl, rfl, Nat.zero_le _, Nat.le_refl _, fun j hj => by omega, fun h => by omega, Drawn.refl _⟩
  case round =>
    obtain ⟨x, y, rfl, rfl, hxy, hyK, h1, h2, hD⟩ := hrel
    by_cases hlt : x < y
    · have hlti : (x : Int) < (y : Int) := by omega
      obtain ⟨m, em⟩ : ∃ m, m = (x + y) / 2 := ⟨_, rfl⟩
      have hdiv : ((x : Int) + (y : Int)).fdiv (2 ^ min (Int.toNat 1) IntKind.u64.bits) = (m : Int) := by
        rw [show (2 : Int) ^ min (Int.toNat 1) IntKind.u64.bits = 2 from rfl, Int.fdiv_eq_ediv_of_nonneg _ (by omega)]; omega
      have hdiv2 : ((x : Int) + (y : Int)) / 2 = (m : Int) := by omega
      have KL := Lib.hid (lclos_any wr bs bl pi gs K c S A nl cl l i (H.out.drawn hD.out) m (by omega) hK hn)
      have EM := Lib.hid em
      have hmK : m < 4096 := by omega
      clear em
      go_wp2_with fail
      refine (KL.out).mono ?_
      rintro e wq ⟨rfl, hd⟩
      have D2 := Lib.hid (hD.out.trans hd)
      clear KL hdiv hdiv2 hd hD
      by_cases hs : S m ≤ l i
      · have N1 : Hid (m < K → S m ≤ l i) := fun _ => hs
        have hst := decide_eq_true hs
        generalize hv : decide (S m ≤ l i) = v at hst ⊢
        subst hst
        clear h2 hs
        go_wp2_with fail
        go_roundw
        case rel => exact ⟨x, m, rfl, rfl, by have := EM.out; omega, by have := EM.out; omega, h1, N1, D2⟩
        case measure => have := EM.out; simp [intOf]; omega
      · have N1 : Hid (∀ j, j < m + 1 → l i < S j) := fun j hj => by have := HM.out j m (by omega) (by have := EM.out; omega); omega
        have hst := decide_eq_false hs
        generalize hv : decide (S m ≤ l i) = v at hst ⊢
        subst hst
        clear h1 hs
        go_wp2_with fail
        go_roundw
        case rel => exact ⟨m + 1, y, by go_num, rfl, by have := EM.out; omega, hyK, N1, h2, D2⟩
        case measure => have := EM.out; simp [intOf]; omega
    · obtain rfl : x = y := by omega
      go_wp2_with fail
      go_ret
      exact ⟨x, rfl, ⟨hyK, h1.out, h2.out⟩, hD.out⟩

theorem infoIntR : (Tryz.prog.info? 3).map (fun i => (i.zero, i.size, i.bytes)) = some (some (.int .i64 0), 1, 8) := by kernel_rfl
theorem make_ints (n : Nat) (hn : n ≤ 100000) (W : World) : (Instr.makeSlice 54 (.int .i64 n) (.int .i64 n)).run Tryz.prog W = .ok (.slice (some ⟨W.heap.size, 0, none⟩) n n) (W.alloc (.cells (madeCells #[.int .i64 0] n) 3)) :=
  run_make_row' 54 3 (.int .i64 0) 8 Tryz.underlying54 infoIntR rfl .i64 .i64 n (by omega) (by omega) W
theorem make_introom (n : Nat) (hn : n ≤ 100000) (W : World) : (Instr.makeSlice 54 (.int .i64 0) (.int .i64 n)).run Tryz.prog W = .ok (.slice (some ⟨W.heap.size, 0, none⟩) 0 n) (W.alloc (.cells (madeCells #[.int .i64 0] n) 3)) :=
  run_make_room 54 3 (.int .i64 0) 8 Tryz.underlying54 infoIntR rfl .i64 .i64 n (by omega) (by omega) W

theorem slice_hm (A : Option Addr) (n c k : Nat) (h1 : k ≤ c) (wx : World) :
    (Instr.sliceAt 54 (.slice A n c) none (some (.int .i64 k)) (some (.int .i64 c))).run Tryz.prog wx = .ok (.slice A k c) wx := by
  have hb : ∀ wx, (Instr.sliceBounds true n c none (some (.int .i64 k)) (some (.int .i64 c))).run Tryz.prog wx = .ok (0, k, c) wx := fun wx => by
    simp [Instr.sliceBounds, run_sliceBound, h1]
  have := slice_of_bounds (P := Tryz.prog) (sz := 1) Tryz.underlying54 (by kernel_rfl) A n c none (some (.int .i64 k)) (some (.int .i64 c)) hb wx
  rw [subA_zero] at this
  exact this

/-- The memory of lengths: the list's box, the lengths, the patience row, its box, the position's box. -/
structure LS (w wr : World) (A : Option Addr) (n c : Nat) (l : Nat → Int) (d K : Nat) (f : Nat → Nat) (S : Nat → Int) (pi : Nat) : Prop where
  bl : wr.rowIs w.heap.size 54 1 (fun _ => .slice A n c)
  go : wr.rowIs (w.heap.size + 1) 3 n (i64s fun j => if j < d then 0 else f j)
  gs : wr.rowIs (w.heap.size + 1 + 1) 3 n (i64s S)
  bs : wr.rowIs (w.heap.size + 1 + 1 + 1) 54 1 (fun _ => .slice (some ⟨w.heap.size + 1 + 1, 0, none⟩) K n)
  ip : wr.rowIs pi 3 1 (fun _ => .int .i64 ((d : Int) - 1))
  pb : w.heap.size + 1 + 1 + 1 < pi
  pat : Pat l n d f S K
  be : Below w.heap.size w wr
theorem LS.drawn {w wr wr' : World} {A : Option Addr} {n c : Nat} {l : Nat → Int} {d K : Nat} {f : Nat → Nat} {S : Nat → Int} {pi : Nat} (h : LS w wr A n c l d K f S pi) (hd : Drawn wr wr') : LS w wr' A n c l d K f S pi := by
  obtain ⟨q, rfl⟩ := hd
  exact ⟨h.bl, h.go, h.gs, h.bs, h.ip, h.pb, h.pat, Go.below_drewN h.be q⟩
theorem LS.lc {w wr : World} {A : Option Addr} {n c : Nat} {l : Nat → Int} {e K : Nat} {f : Nat → Nat} {S : Nat → Int} {pi : Nat} (h : LS w wr A n c l (e + 1) K f S pi) (hl : Sees w w.heap.size A n (i64s l)) (he : e < n) :
    LC wr (w.heap.size + 1 + 1 + 1) w.heap.size pi (w.heap.size + 1 + 1) K n S A n c l e := by
  have hk := h.pat.kn
  have h3 := h.ip.cell (i := 0) (by omega)
  rw [show ((e + 1 : Nat) : Int) - 1 = e by omega] at h3
  obtain ⟨b, o, e1, _, e2⟩ := (hl.below h.be).at_ he
  exact ⟨h.bs.cell (i := 0) (by omega), h.bl.cell (i := 0) (by omega), h3, fun k hk' => h.gs.cell (i := k) (by omega), ⟨b, o, e1, e2⟩, he⟩
theorem row1_set {w : World} {g : Nat} {t : TypeId} {v : Value} (h : w.rowIs g t 1 (fun _ => v)) (u : Value) : (w.setCell ⟨g, 0, none⟩ u).rowIs g t 1 (fun _ => u) :=
  (h.set 0 u).congr fun j hj => by
    have : j = 0 := by omega
    subst this; rfl
theorem row_past {w : World} {g b i : Nat} {t : TypeId} {n : Nat} {F : Nat → Value} (h : w.rowIs g t n F) (hb : g ≠ b) (u : Value) : (w.setCell ⟨b, i, none⟩ u).rowIs g t n F := h.of_block (Below.heap_setCell _ _ _ _ hb)
theorem row_alloc {w : World} {g : Nat} {t : TypeId} {n : Nat} {F : Nat → Value} (h : w.rowIs g t n F) (o : Obj) : (w.alloc o).rowIs g t n F := h.of_block (Below.heap_alloc _ _ _ h.lt)
/-- The patience row grows. -/
theorem LS.grow {w wr : World} {A : Option Addr} {n c : Nat} {l : Nat → Int} {d K K' : Nat} {f : Nat → Nat} {S : Nat → Int} {pi : Nat} (h : LS w wr A n c l d K f S pi) :
    ((wr.setCell ⟨w.heap.size + 1 + 1 + 1, 0, none⟩ (.slice (some ⟨w.heap.size + 1 + 1, 0, none⟩) K' n)).rowIs w.heap.size 54 1 (fun _ => .slice A n c)) ∧
    ((wr.setCell ⟨w.heap.size + 1 + 1 + 1, 0, none⟩ (.slice (some ⟨w.heap.size + 1 + 1, 0, none⟩) K' n)).rowIs (w.heap.size + 1) 3 n (i64s fun j => if j < d then 0 else f j)) ∧
    ((wr.setCell ⟨w.heap.size + 1 + 1 + 1, 0, none⟩ (.slice (some ⟨w.heap.size + 1 + 1, 0, none⟩) K' n)).rowIs (w.heap.size + 1 + 1) 3 n (i64s S)) ∧
    ((wr.setCell ⟨w.heap.size + 1 + 1 + 1, 0, none⟩ (.slice (some ⟨w.heap.size + 1 + 1, 0, none⟩) K' n)).rowIs (w.heap.size + 1 + 1 + 1) 54 1 (fun _ => .slice (some ⟨w.heap.size + 1 + 1, 0, none⟩) K' n)) ∧
    ((wr.setCell ⟨w.heap.size + 1 + 1 + 1, 0, none⟩ (.slice (some ⟨w.heap.size + 1 + 1, 0, none⟩) K' n)).rowIs pi 3 1 (fun _ => .int .i64 ((d : Int) - 1))) ∧
    Below w.heap.size w (wr.setCell ⟨w.heap.size + 1 + 1 + 1, 0, none⟩ (.slice (some ⟨w.heap.size + 1 + 1, 0, none⟩) K' n)) :=
  ⟨row_past h.bl (by omega) _, row_past h.go (by omega) _, row_past h.gs (by omega) _, row1_set h.bs _, row_past h.ip (by have := h.pb; omega) _, h.be.setCell (p := ⟨w.heap.size + 1 + 1 + 1, 0, none⟩) (by show w.heap.size ≤ w.heap.size + 1 + 1 + 1; omega) _⟩

def lenOf (w : World) (v : Value) : Nat := match v with
  | .pointer (some p) => match w.cell? p with
    | some (.int _ x) => (x + 1).toNat
    | _ => 0
  | _ => 0
theorem lenOf_at {w : World} {p : Nat} {x : Int} (h : w.cell? ⟨p, 0, none⟩ = some (.int .i64 x)) : lenOf w (.pointer (some ⟨p, 0, none⟩)) = (x + 1).toNat := by simp only [lenOf, h]
set_option maxRecDepth 100000 in
set_option maxHeartbeats 6400000 in
theorem lengths_any (w : World) (A : Option Addr) (n c : Nat) (l : Nat → Int) (h : Sees w w.heap.size A n (i64s l)) (hn : n ≤ 4096) :
    Calls Tryz.prog 156 #[.slice A n c] w fun e w' => ∃ g f, e = .returned (.slice (some ⟨g, 0, none⟩) n n) ∧ IsFr l n 0 f ∧ w'.rowIs g 3 n (i64s fun j => f j) ∧ w.heap.size ≤ g ∧ Below w.heap.size w w' := by
  have H := Lib.hid h
  have m1 := make_ints n (by omega)
  have m2 := make_introom n (by omega)
  have ST : Hid (LS w (((((w.alloc (.cells #[.slice A n c] 54)).alloc (.cells (madeCells #[.int .i64 0] n) 3)).alloc (.cells (madeCells #[.int .i64 0] n) 3)).alloc (.cells #[.slice (some ⟨w.heap.size + 1 + 1, 0, none⟩) 0 n] 54)).alloc (.cells #[.int .i64 ((n : Int) - 1)] 3)) A n c l n 0 (fun _ => 0) (fun _ => 0) (w.heap.size + 1 + 1 + 1 + 1)) := by
    have one : ∀ (W : World) (v : Value) (t : TypeId), (W.alloc (.cells #[v] t)).rowIs W.heap.size t 1 (fun _ => v) := fun W v t => World.rowIs_alloc W #[v] t _ (fun j hj => by
      have : j = 0 := by simp at hj; omega
      subst this; rfl)
    have z : ∀ W : World, (W.alloc (.cells (madeCells #[.int .i64 0] n) 3)).rowIs W.heap.size 3 n (fun _ => .int .i64 0) := fun W => World.rowIs_made W (.int .i64 0) n 3
    have r1 := one w (.slice A n c) 54
    have r2 := (z (w.alloc (.cells #[.slice A n c] 54)))
    have r3 := (z ((w.alloc (.cells #[.slice A n c] 54)).alloc (.cells (madeCells #[.int .i64 0] n) 3)))
    have r4 := one (((w.alloc (.cells #[.slice A n c] 54)).alloc (.cells (madeCells #[.int .i64 0] n) 3)).alloc (.cells (madeCells #[.int .i64 0] n) 3)) (.slice (some ⟨w.heap.size + 1 + 1, 0, none⟩) 0 n) 54
    have r5 := one ((((w.alloc (.cells #[.slice A n c] 54)).alloc (.cells (madeCells #[.int .i64 0] n) 3)).alloc (.cells (madeCells #[.int .i64 0] n) 3)).alloc (.cells #[.slice (some ⟨w.heap.size + 1 + 1, 0, none⟩) 0 n] 54)) (.int .i64 ((n : Int) - 1)) 3
    simp only [World.size_alloc] at r2 r3 r4 r5
    refine ⟨row_alloc (row_alloc (row_alloc (row_alloc r1 _) _) _) _, (row_alloc (row_alloc (row_alloc r2 _) _) _).congr fun j hj => ?_, row_alloc (row_alloc r3 _) _, row_alloc r4 _, r5, by omega, Pat.start l n _ _, ?_⟩
    · show Value.int .i64 0 = .int .i64 (if j < n then 0 else ((0 : Nat) : Int)); rw [if_pos hj]
    · exact (((((Below.refl _ w).alloc (Nat.le_refl _) _).alloc (by simp) _).alloc (by simp; omega) _).alloc (by simp; omega) _).alloc (by simp; omega) _
  clear h
  go_enter Tryz.func156, Tryz.ntmps156
  go_wp2_with fail
  clear m1 m2
  go_loopw [5, 6] (fun p k wr => ∃ (d K : Nat) (f : Nat → Nat) (S : Nat → Int) (pi : Nat), p = .pointer (some ⟨pi, 0, none⟩) ∧ Hid (LS w wr A n c l d K f S pi)) (fun p _ wr => lenOf wr p)
  case atStart => exact ⟨n, 0, _, _, _, rfl, ST⟩
  case round =>
    obtain ⟨d, K, f, S, pi, rfl, hS⟩ := hrel
    clear ST
    have hkn := hS.out.pat.kn
    by_cases hd0 : d = 0
    · subst hd0
      have c5 : wr.cell? ⟨pi, 0, none⟩ = some (.int .i64 (-1)) := hS.out.ip.cell (i := 0) (by omega)
      go_wp2_with fail
      go_ret
      refine ⟨_, f, rfl, hS.out.pat.fr, hS.out.go.congr fun j hj => ?_, by omega, hS.out.be⟩
      show Value.int .i64 (if j < 0 then 0 else ((f j : Nat) : Int)) = _
      rw [if_neg (by omega)]; rfl
    · obtain ⟨e, rfl⟩ : ∃ e, d = e + 1 := ⟨d - 1, by omega⟩
      have he : e < n := by omega
      have c5 : wr.cell? ⟨pi, 0, none⟩ = some (.int .i64 e) := by
        have := hS.out.ip.cell (i := 0) (by omega)
        rwa [show ((e + 1 : Nat) : Int) - 1 = e by omega] at this
      have hge : (0 : Int) ≤ (e : Int) := by omega
      have c6 := hS.out.bs.cell (i := 0) (by omega)
      have KS := Lib.hid (search_any wr (w.heap.size + 1 + 1 + 1) w.heap.size pi (w.heap.size + 1 + 1) K n S A n c l e (hS.out.lc H.out he) (by omega) hn (fun a b => hS.out.pat.mono))
      go_wp2_with fail
      refine (KS.out).mono ?_
      rintro e' wq ⟨k, rfl, ⟨hk1, hk2, hk3⟩, hd⟩
      have S1 := Lib.hid (hS.out.drawn hd)
      have HK2 := Lib.hid hk2
      have HK3 := Lib.hid hk3
      clear KS c5 c6 hd hk2 hk3
      have c6 := S1.out.bs.cell (i := 0) (by omega)
      have c7 := S1.out.bs.frozen 0
      by_cases hkK : k = K
      · subst hkK
        have hsl := slice_hm (some ⟨w.heap.size + 1 + 1, 0, none⟩) k n (k + 1) (by omega)
        rw [Int.natCast_add] at hsl
        obtain ⟨bl1, go1, gs1, bs1, ip1, be1⟩ := S1.out.grow (K' := k + 1)
        go_wp2_with fail
        clear c6 c7 hsl
        have e1 := bl1.cell (i := 0) (by omega)
        have e2 := bs1.cell (i := 0) (by omega)
        have e3 := ip1.cell (i := 0) (by omega)
        have e4 := gs1.cell (i := k) (by omega)
        have e5 := fun i => gs1.frozen i
        have e6 := go1.cell (i := e) (by omega)
        have e7 := fun i => go1.frozen i
        rw [show ((e + 1 : Nat) : Int) - 1 = e by omega] at e3
        obtain ⟨b, o, rfl, hbB, e8⟩ := (H.out.below be1).at_ he
        rw [i64s_at] at e8 e4 e6
        have n1 := bl1.lt
        have n2 := bs1.lt
        have n3 := ip1.lt
        have n4 := gs1.lt
        have n5 := go1.lt
        have hee : (e : Int) < (n : Int) := by omega
        have hpb := S1.out.pb
        have x1 : ¬ w.heap.size = w.heap.size + 1 + 1 := by omega
        have x2 : ¬ w.heap.size + 1 + 1 + 1 = w.heap.size + 1 + 1 := by omega
        have x3 : ¬ pi = w.heap.size + 1 + 1 := by omega
        have x4 : ¬ b = w.heap.size + 1 + 1 := by omega
        have x6 : k < k + 1 := by omega
        have x7 : (k : Int) < ((k + 1 : Nat) : Int) := by omega
        have x8 : (k : Int) < (k : Int) + 1 := by omega
        have x5 : b < (wq.setCell ⟨w.heap.size + 1 + 1 + 1, 0, none⟩ (.slice (some ⟨w.heap.size + 1 + 1, 0, none⟩) (k + 1) n)).heap.size := by have := be1.size; omega
        generalize hW : (wq.setCell ⟨w.heap.size + 1 + 1 + 1, 0, none⟩ (.slice (some ⟨w.heap.size + 1 + 1, 0, none⟩) (k + 1) n)) = W1 at *
        have S0 : Hid (Fr (fun x => x = w.heap.size + 1 + 1) W1 W1.drew) := (Fr.refl _ _).drawn ⟨1, rfl⟩
        refine wp_region_plan [(false, 0), (false, 1), (false, 2), (false, 3), (false, 4), (false, 5), (false, 6), (true, 7)] (Fr (fun x => x = w.heap.size + 1 + 1) W1) (by kernel_rfl) (by kernel_rfl) (S0.out) _ (by simp only [pickH, List.getElem?_toArray, List.getElem?_cons_succ, List.getElem?_cons_zero]; rfl) ?_
        repeat (refine HWalk.step (fun K hK => ?_); first | (apply held_yes; (focus rfl); (focus (intro w' hw; have hc' := fr_cells hw; go_simp; rfl)); (go_simp; refine hK _ ?_; clear hK K)) | (refine ite_no (by decide) ?_; go_simp; refine hK _ ?_; clear hK K))
        refine HWalk.mark ?_
        go_wp2_with fail
        refine ⟨((Fr.setCell (S := fun x => x = w.heap.size + 1 + 1) (Fr.refl _ W1) (p := ⟨w.heap.size + 1 + 1, k, none⟩) rfl _).drawn ⟨1, rfl⟩), ?_⟩
        repeat (refine HWalk.step (fun K hK => ?_); first | (apply held_yes; (focus rfl); (focus (intro w' hw; have hc' := fr_cells hw; go_simp; rfl)); (go_simp; refine hK _ ?_; clear hK K)) | (refine ite_no (by decide) ?_; go_simp; refine hK _ ?_; clear hK K))
        refine HWalk.done ?_
        have bl2 : ((W1.setCell ⟨w.heap.size + 1 + 1, k, none⟩ (.int .i64 (l e))).drew).rowIs w.heap.size 54 1 (fun _ => .slice (some ⟨b, o, none⟩) n c) := row_past bl1 (by omega) _
        have go2 : ((W1.setCell ⟨w.heap.size + 1 + 1, k, none⟩ (.int .i64 (l e))).drew).rowIs (w.heap.size + 1) 3 n (i64s fun j => if j < e + 1 then 0 else f j) := row_past go1 (by omega) _
        have gs2 : ((W1.setCell ⟨w.heap.size + 1 + 1, k, none⟩ (.int .i64 (l e))).drew).rowIs (w.heap.size + 1 + 1) 3 n (i64s fun j => if j = k then l e else S j) := (gs1.set k (.int .i64 (l e))).congr fun j hj => by
          show (if j = k then Value.int .i64 (l e) else .int .i64 (S j)) = .int .i64 (if j = k then l e else S j)
          by_cases c : j = k
          · rw [if_pos c, if_pos c]
          · rw [if_neg c, if_neg c]
        have bs2 : ((W1.setCell ⟨w.heap.size + 1 + 1, k, none⟩ (.int .i64 (l e))).drew).rowIs (w.heap.size + 1 + 1 + 1) 54 1 (fun _ => .slice (some ⟨w.heap.size + 1 + 1, 0, none⟩) (k + 1) n) := row_past bs1 (by omega) _
        have ip2 : ((W1.setCell ⟨w.heap.size + 1 + 1, k, none⟩ (.int .i64 (l e))).drew).rowIs pi 3 1 (fun _ => .int .i64 (((e + 1 : Nat) : Int) - 1)) := row_past ip1 (by omega) _
        have be2 : Below w.heap.size w ((W1.setCell ⟨w.heap.size + 1 + 1, k, none⟩ (.int .i64 (l e))).drew) := (be1.setCell (p := ⟨w.heap.size + 1 + 1, k, none⟩) (by show w.heap.size ≤ w.heap.size + 1 + 1; omega) _).drew
        clear bl1 go1 gs1 bs1 ip1 be1 e1 e2 e3 e4 e5 e6 e7 e8 n1 n2 n3 n4 n5 x1 x2 x3 x4 x5 S0
        generalize (W1.setCell ⟨w.heap.size + 1 + 1, k, none⟩ (.int .i64 (l e))).drew = W2 at bl2 go2 gs2 bs2 ip2 be2 ⊢
        have e3 := ip2.cell (i := 0) (by omega)
        have e6 := go2.cell (i := e) he
        have e7 := fun i => go2.frozen i
        have n5 := go2.lt
        rw [show ((e + 1 : Nat) : Int) - 1 = e by omega] at e3
        rw [i64s_at] at e6
        have n6 : ¬ pi = w.heap.size + 1 := by omega
        have FIN : Hid (LS w ((W2.setCell ⟨w.heap.size + 1, e, none⟩ (.int .i64 ((k : Int) + 1))).alloc (.cells #[.int .i64 ((e : Int) - 1)] 3)) (some ⟨b, o, none⟩) n c l e (k + 1) (fun i => if i = e then k + 1 else f i) (fun i => if i = k then l e else S i) W2.heap.size) := by
          have hz : (W2.setCell ⟨w.heap.size + 1, e, none⟩ (.int .i64 ((k : Int) + 1))).heap.size = W2.heap.size := by simp [World.setCell]
          have l1 := bl2.lt
          have l2 := gs2.lt
          have l3 := bs2.lt
          have ra : ((W2.setCell ⟨w.heap.size + 1, e, none⟩ (.int .i64 ((k : Int) + 1))).alloc (.cells #[.int .i64 ((e : Int) - 1)] 3)).rowIs W2.heap.size 3 1 (fun _ => .int .i64 ((e : Int) - 1)) := by
            have := World.rowIs_alloc (W2.setCell ⟨w.heap.size + 1, e, none⟩ (.int .i64 ((k : Int) + 1))) #[.int .i64 ((e : Int) - 1)] 3 (fun _ => .int .i64 ((e : Int) - 1)) (fun j hj => by
              have : j = 0 := by simp at hj; omega
              subst this; rfl)
            rw [hz] at this
            exact this
          refine ⟨row_alloc (row_past bl2 (by omega) _) _, ?_, row_alloc (row_past gs2 (by omega) _) _, row_alloc (row_past bs2 (by omega) _) _, ra, by omega, ?_, ?_⟩
          · refine (row_alloc (go2.set e (.int .i64 ((k : Int) + 1))) _).congr fun j hj => ?_
            show (if j = e then Value.int .i64 ((k : Int) + 1) else .int .i64 (if j < e + 1 then 0 else ((f j : Nat) : Int))) = .int .i64 (if j < e then 0 else (((if j = e then k + 1 else f j) : Nat) : Int))
            by_cases c : j = e
            · rw [if_pos c, if_neg (by omega), if_pos c]; rfl
            · rw [if_neg c, if_neg c]
              by_cases d : j < e
              · rw [if_pos (by omega), if_pos d]
              · rw [if_neg (by omega), if_neg d]
          · have := S1.out.pat.step hk1 HK2.out HK3.out
            rwa [show max _ (k + 1) = k + 1 by omega] at this
          · exact (be2.setCell (p := ⟨w.heap.size + 1, e, none⟩) (by show w.heap.size ≤ w.heap.size + 1; omega) _).alloc (by rw [hz]; omega) _
        clear bl2 go2 gs2 bs2 ip2 be2
        go_wp2_with fail
        go_roundw
        case rel => exact ⟨e, _, _, _, _, rfl, FIN⟩
        case measure =>
          rw [lenOf_at (FIN.out.ip.cell (i := 0) (by omega)), lenOf_at (hS.out.ip.cell (i := 0) (by omega))]
          omega
      · have hkl : k < K := by omega
        have bl1 := S1.out.bl
        have go1 := S1.out.go
        have gs1 := S1.out.gs
        have bs1 := S1.out.bs
        have ip1 := S1.out.ip
        have be1 := S1.out.be
        have hkKi : ¬ (k : Int) = (K : Int) := by omega
        go_wp2_with fail
        clear c6 c7
        have e1 := bl1.cell (i := 0) (by omega)
        have e2 := bs1.cell (i := 0) (by omega)
        have e3 := ip1.cell (i := 0) (by omega)
        have e4 := gs1.cell (i := k) (by omega)
        have e5 := fun i => gs1.frozen i
        have e6 := go1.cell (i := e) (by omega)
        have e7 := fun i => go1.frozen i
        rw [show ((e + 1 : Nat) : Int) - 1 = e by omega] at e3
        obtain ⟨b, o, rfl, hbB, e8⟩ := (H.out.below be1).at_ he
        rw [i64s_at] at e8 e4 e6
        have n1 := bl1.lt
        have n2 := bs1.lt
        have n3 := ip1.lt
        have n4 := gs1.lt
        have n5 := go1.lt
        have hee : (e : Int) < (n : Int) := by omega
        have hpb := S1.out.pb
        have x1 : ¬ w.heap.size = w.heap.size + 1 + 1 := by omega
        have x2 : ¬ w.heap.size + 1 + 1 + 1 = w.heap.size + 1 + 1 := by omega
        have x3 : ¬ pi = w.heap.size + 1 + 1 := by omega
        have x4 : ¬ b = w.heap.size + 1 + 1 := by omega
        have x6 : k < K := by omega
        have x7 : (k : Int) < ((K : Nat) : Int) := by omega
        have x8 : (k : Int) < (k : Int) + 1 := by omega
        have x5 : b < wq.heap.size := by have := be1.size; omega
        generalize hW : wq = W1 at *
        have S0 : Hid (Fr (fun x => x = w.heap.size + 1 + 1) W1 W1.drew) := (Fr.refl _ _).drawn ⟨1, rfl⟩
        refine wp_region_plan [(false, 0), (false, 1), (false, 2), (false, 3), (false, 4), (false, 5), (false, 6), (true, 7)] (Fr (fun x => x = w.heap.size + 1 + 1) W1) (by kernel_rfl) (by kernel_rfl) (S0.out) _ (by simp only [pickH, List.getElem?_toArray, List.getElem?_cons_succ, List.getElem?_cons_zero]; rfl) ?_
        repeat (refine HWalk.step (fun K hK => ?_); first | (apply held_yes; (focus rfl); (focus (intro w' hw; have hc' := fr_cells hw; go_simp; rfl)); (go_simp; refine hK _ ?_; clear hK K)) | (refine ite_no (by decide) ?_; go_simp; refine hK _ ?_; clear hK K))
        refine HWalk.mark ?_
        go_wp2_with fail
        refine ⟨((Fr.setCell (S := fun x => x = w.heap.size + 1 + 1) (Fr.refl _ W1) (p := ⟨w.heap.size + 1 + 1, k, none⟩) rfl _).drawn ⟨1, rfl⟩), ?_⟩
        repeat (refine HWalk.step (fun K hK => ?_); first | (apply held_yes; (focus rfl); (focus (intro w' hw; have hc' := fr_cells hw; go_simp; rfl)); (go_simp; refine hK _ ?_; clear hK K)) | (refine ite_no (by decide) ?_; go_simp; refine hK _ ?_; clear hK K))
        refine HWalk.done ?_
        have bl2 : ((W1.setCell ⟨w.heap.size + 1 + 1, k, none⟩ (.int .i64 (l e))).drew).rowIs w.heap.size 54 1 (fun _ => .slice (some ⟨b, o, none⟩) n c) := row_past bl1 (by omega) _
        have go2 : ((W1.setCell ⟨w.heap.size + 1 + 1, k, none⟩ (.int .i64 (l e))).drew).rowIs (w.heap.size + 1) 3 n (i64s fun j => if j < e + 1 then 0 else f j) := row_past go1 (by omega) _
        have gs2 : ((W1.setCell ⟨w.heap.size + 1 + 1, k, none⟩ (.int .i64 (l e))).drew).rowIs (w.heap.size + 1 + 1) 3 n (i64s fun j => if j = k then l e else S j) := (gs1.set k (.int .i64 (l e))).congr fun j hj => by
          show (if j = k then Value.int .i64 (l e) else .int .i64 (S j)) = .int .i64 (if j = k then l e else S j)
          by_cases c : j = k
          · rw [if_pos c, if_pos c]
          · rw [if_neg c, if_neg c]
        have bs2 : ((W1.setCell ⟨w.heap.size + 1 + 1, k, none⟩ (.int .i64 (l e))).drew).rowIs (w.heap.size + 1 + 1 + 1) 54 1 (fun _ => .slice (some ⟨w.heap.size + 1 + 1, 0, none⟩) (K) n) := row_past bs1 (by omega) _
        have ip2 : ((W1.setCell ⟨w.heap.size + 1 + 1, k, none⟩ (.int .i64 (l e))).drew).rowIs pi 3 1 (fun _ => .int .i64 (((e + 1 : Nat) : Int) - 1)) := row_past ip1 (by omega) _
        have be2 : Below w.heap.size w ((W1.setCell ⟨w.heap.size + 1 + 1, k, none⟩ (.int .i64 (l e))).drew) := (be1.setCell (p := ⟨w.heap.size + 1 + 1, k, none⟩) (by show w.heap.size ≤ w.heap.size + 1 + 1; omega) _).drew
        clear bl1 go1 gs1 bs1 ip1 be1 e1 e2 e3 e4 e5 e6 e7 e8 n1 n2 n3 n4 n5 x1 x2 x3 x4 x5 S0
        generalize (W1.setCell ⟨w.heap.size + 1 + 1, k, none⟩ (.int .i64 (l e))).drew = W2 at bl2 go2 gs2 bs2 ip2 be2 ⊢
        have e3 := ip2.cell (i := 0) (by omega)
        have e6 := go2.cell (i := e) he
        have e7 := fun i => go2.frozen i
        have n5 := go2.lt
        rw [show ((e + 1 : Nat) : Int) - 1 = e by omega] at e3
        rw [i64s_at] at e6
        have n6 : ¬ pi = w.heap.size + 1 := by omega
        have FIN : Hid (LS w ((W2.setCell ⟨w.heap.size + 1, e, none⟩ (.int .i64 ((k : Int) + 1))).alloc (.cells #[.int .i64 ((e : Int) - 1)] 3)) (some ⟨b, o, none⟩) n c l e (K) (fun i => if i = e then k + 1 else f i) (fun i => if i = k then l e else S i) W2.heap.size) := by
          have hz : (W2.setCell ⟨w.heap.size + 1, e, none⟩ (.int .i64 ((k : Int) + 1))).heap.size = W2.heap.size := by simp [World.setCell]
          have l1 := bl2.lt
          have l2 := gs2.lt
          have l3 := bs2.lt
          have ra : ((W2.setCell ⟨w.heap.size + 1, e, none⟩ (.int .i64 ((k : Int) + 1))).alloc (.cells #[.int .i64 ((e : Int) - 1)] 3)).rowIs W2.heap.size 3 1 (fun _ => .int .i64 ((e : Int) - 1)) := by
            have := World.rowIs_alloc (W2.setCell ⟨w.heap.size + 1, e, none⟩ (.int .i64 ((k : Int) + 1))) #[.int .i64 ((e : Int) - 1)] 3 (fun _ => .int .i64 ((e : Int) - 1)) (fun j hj => by
              have : j = 0 := by simp at hj; omega
              subst this; rfl)
            rw [hz] at this
            exact this
          refine ⟨row_alloc (row_past bl2 (by omega) _) _, ?_, row_alloc (row_past gs2 (by omega) _) _, row_alloc (row_past bs2 (by omega) _) _, ra, by omega, ?_, ?_⟩
          · refine (row_alloc (go2.set e (.int .i64 ((k : Int) + 1))) _).congr fun j hj => ?_
            show (if j = e then Value.int .i64 ((k : Int) + 1) else .int .i64 (if j < e + 1 then 0 else ((f j : Nat) : Int))) = .int .i64 (if j < e then 0 else (((if j = e then k + 1 else f j) : Nat) : Int))
            by_cases c : j = e
            · rw [if_pos c, if_neg (by omega), if_pos c]; rfl
            · rw [if_neg c, if_neg c]
              by_cases d : j < e
              · rw [if_pos (by omega), if_pos d]
              · rw [if_neg (by omega), if_neg d]
          · have := S1.out.pat.step hk1 HK2.out HK3.out
            rwa [show max _ (k + 1) = K by omega] at this
          · exact (be2.setCell (p := ⟨w.heap.size + 1, e, none⟩) (by show w.heap.size ≤ w.heap.size + 1; omega) _).alloc (by rw [hz]; omega) _
        clear bl2 go2 gs2 bs2 ip2 be2
        go_wp2_with fail
        go_roundw
        case rel => exact ⟨e, _, _, _, _, rfl, FIN⟩
        case measure =>
          rw [lenOf_at (FIN.out.ip.cell (i := 0) (by omega)), lenOf_at (hS.out.ip.cell (i := 0) (by omega))]
          omega
end Go.Proofs.YtfmfmeiaekknbaaGreat
end

section
/-
  Package rises: a longest rising subsequence.
-/
namespace Go.Proofs.YtfmfmeiaekknbaaGreat
open Go.RowKit
set_option linter.unusedVariables false
set_option linter.unusedSimpArgs false

set_option maxRecDepth 100000 in
set_option maxHeartbeats 1600000 in
theorem maxs_any (w : World) (g n : Nat) (f : Nat → Nat) (h : w.rowIs g 3 n (i64s fun j => f j)) (h0 : 0 < n) (hn : n ≤ 4096) (hf : ∀ j, f j ≤ 100000) :
    Calls Tryz.prog 157 #[.slice (some ⟨g, 0, none⟩) n n] w fun e w' => ∃ M : Nat, e = .returned (.int .i64 M) ∧ ((∀ j, j < n → f j ≤ M) ∧ ∃ j, j < n ∧ f j = M) ∧ w = w' := by
  have H := Lib.hid h
  have c0 := h.cell (i := 0) h0
  rw [i64s_at] at c0
  have hn1 : ¬ n < 1 := by omega
  have hn1' : ¬ (n : Int) < 1 := by omega
  have hf0 := hf 0
  have S0 : Hid ((∀ j, j < 1 → f j ≤ f 0) ∧ ∃ j, j < 1 ∧ f j = f 0) := ⟨fun j hj => by rw [show j = 0 by omega]; exact Nat.le_refl _, 0, by omega, rfl⟩
  have HF := Lib.hid hf
  clear h hf
  generalize f 0 = m0 at *
  go_enter Tryz.func157, Tryz.ntmps157
  go_wp2_with fail
  go_loop [3, 4] (fun m i => ∃ (k M : Nat), 1 ≤ k ∧ k ≤ n ∧ m = .int .i64 M ∧ i = .int .i64 k ∧ M ≤ 100000 ∧ Hid ((∀ j, j < k → f j ≤ M) ∧ ∃ j, j < k ∧ f j = M)) (fun _ i => n - (intOf i).toNat)
  case atStart => exact ⟨1, m0, Nat.le_refl _, h0, rfl, rfl, hf0, S0⟩
  case round =>
    obtain ⟨k, M, hk1, hk, rfl, rfl, hM, hS⟩ := hrel
    clear S0 c0
    by_cases hlt : k < n
    · have hki : (k : Int) < (n : Int) := by omega
      have c1 := H.out.cell (i := k) hlt
      rw [i64s_at] at c1
      have hfk := HF.out k
      obtain ⟨x, ex⟩ : ∃ x, x = f k := ⟨_, rfl⟩
      rw [← ex] at c1 hfk
      have EX := Lib.hid ex
      clear ex
      by_cases hx : x ≤ M
      · have hx' : ¬ (M : Int) < (x : Int) := by omega
        have hmx : max (M : Int) (x : Int) = M := by omega
        have S2 : Hid ((∀ j, j < k + 1 → f j ≤ M) ∧ ∃ j, j < k + 1 ∧ f j = M) := ⟨fun j hj => by
          by_cases e : j = k
          · rw [e, ← EX.out]; exact hx
          · exact hS.out.1 j (by omega), by obtain ⟨j, a, b⟩ := hS.out.2; exact ⟨j, by omega, b⟩⟩
        clear hS
        go_wp2_with fail
        go_round
        case rel => exact ⟨k + 1, M, by omega, by omega, by first | rfl | rw [hmx] | (simp; omega), by go_num, hM, S2⟩
        case measure => simp [intOf]; omega
      · have hx' : (M : Int) < (x : Int) := by omega
        have hmx : max (M : Int) (x : Int) = x := by omega
        have S2 : Hid ((∀ j, j < k + 1 → f j ≤ x) ∧ ∃ j, j < k + 1 ∧ f j = x) := ⟨fun j hj => by
          by_cases e : j = k
          · rw [e, ← EX.out]; exact Nat.le_refl _
          · have := hS.out.1 j (by omega); omega, k, by omega, EX.out.symm⟩
        clear hS
        go_wp2_with fail
        go_round
        case rel => exact ⟨k + 1, x, by omega, by omega, by first | rfl | rw [hmx] | (simp; omega), by go_num, hfk, S2⟩
        case measure => simp [intOf]; omega
    · obtain rfl : k = n := by omega
      go_wp2_with fail
      go_ret
      exact ⟨M, rfl, hS.out, rfl⟩

theorem IsFr.bd {l : Nat → Int} {n : Nat} {f : Nat → Nat} (h : IsFr l n 0 f) : ∀ i, i < n → f i ≤ n - i := by
  have key : ∀ d i, i < n → n - i = d → f i ≤ d := by
    intro d
    induction d using Nat.strongRecOn with
    | _ d ih =>
      intro i hi hd
      obtain ⟨_, _, h3⟩ := h i (by omega) hi
      rcases h3 with h3 | ⟨j, a, b, _, e⟩
      · omega
      · have := ih (n - j) (by omega) j b rfl
        omega
  exact fun i hi => key _ i hi rfl
/-- What Longest leaves. -/
def LPostR (w : World) (l : Nat → Int) (n : Nat) (e : Ending) (w' : World) : Prop :=
  ∃ (A : Option Addr) (m c : Nat) (r : Nat → Nat), e = .returned (.tuple #[.slice A m c, .int .i64 0]) ∧ Longest l n m r ∧ m ≤ n ∧ Sees w' w'.heap.size A m (i64s fun a => r a) ∧ m ≤ c ∧ c ≤ maxLen ∧ Below w.heap.size w w'

set_option maxRecDepth 100000 in
set_option maxHeartbeats 6400000 in
theorem longest_any (w : World) (A : Option Addr) (n c : Nat) (l : Nat → Int) (h : Sees w w.heap.size A n (i64s l)) (hn : n ≤ 4096) :
    Calls Tryz.prog 132 #[.slice A n c] w (LPostR w l n) := by
  unfold LPostR
  by_cases hn0 : n = 0
  · subst hn0
    clear h
    go_enter Tryz.func132, Tryz.ntmps132
    go_wp2_with fail
    go_step3
    go_wp2_with fail
    rw [Exit.noGoto_ret]
    go_ret2
    exact ⟨none, 0, 0, fun _ => 0, rfl, ⟨⟨fun a h => by omega, fun a h => by omega, fun a h => by omega⟩, fun m' r' h' => by
      by_cases e : m' = 0
      · omega
      · have := h'.lt 0 (by omega); omega⟩, Nat.le_refl _, fun h => absurd h (by omega), Nat.le_refl _, Nat.zero_le _, Below.refl _ _⟩
  have HL0 := Lib.hid (lengths_any w A n c l h hn)
  have H := Lib.hid h
  have hn1 : ¬ (4096 : Int) < (n : Int) := by omega
  have hn2 : ¬ (n : Int) = 0 := by omega
  clear h
  go_enter Tryz.func132, Tryz.ntmps132
  go_wp2_with fail
  go_step3
  go_wp2_with fail
  refine (HL0.out).mono ?_
  rintro e w1 ⟨g, f, rfl, hf, hg, hg1, b1⟩
  have B1 := Lib.hid b1
  have HF := Lib.hid hf
  have G1 := Lib.hid hg
  have KM := Lib.hid (maxs_any w1 g n (fun j => if j < n then f j else 0) (hg.congr fun j hj => by show Value.int .i64 ((f j : Nat) : Int) = .int .i64 (((if j < n then f j else 0) : Nat) : Int); rw [if_pos hj]) (by omega) hn (fun j => by
    split
    · rename_i hj; have := hf.bd j hj; omega
    · omega))
  clear HL0 b1 hf hg
  go_wp2_with fail
  refine (KM.out).mono ?_
  rintro e w2 ⟨M, rfl, ⟨hM1, hM2⟩, rfl⟩
  have M1 : Hid (∀ i, i < n → f i ≤ M) := fun i hi => by have := hM1 i hi; rwa [if_pos hi] at this
  have M2 : Hid (∃ i, i < n ∧ f i = M) := by obtain ⟨i, a, b⟩ := hM2; exact ⟨i, a, by rwa [if_pos a] at b⟩
  have hMn : M ≤ n := by obtain ⟨i, a, b⟩ := M2.out; have := HF.out.bd i a; omega
  have mk := make_introom M (by omega)
  have O0 : Hid (Own (w1.alloc (.cells (madeCells #[.int .i64 0] M) 3)) w1.heap.size 3 1 0 M (some ⟨w1.heap.size, 0, none⟩) (i64s fun a => ((fun _ => 0 : Nat → Nat) a : Nat)) ∧ M ≤ maxLen) := ⟨.inr ⟨Nat.zero_le _, w1.heap.size, _, rfl, Nat.le_refl _, by rw [Nat.mul_one]; exact World.rowIs_made w1 (.int .i64 0) M 3, fun j hj => by omega⟩, by unfold maxLen; omega⟩
  have D0 : Hid (Below w1.heap.size w1 (w1.alloc (.cells (madeCells #[.int .i64 0] M) 3))) := (Below.refl _ w1).alloc (Nat.le_refl _) _
  clear KM hM1 hM2
  go_wp2_with fail
  go_step3
  go_wp2_with fail
  clear mk
  go_loopw [5, 6, 23] (fun lv o iv wr => ∃ (k q : Nat) (A' : Option Addr) (c' : Nat) (r : Nat → Nat), k ≤ n ∧ q ≤ M ∧ lv = .int .i64 ((M - q : Nat) : Int) ∧ o = .slice A' q c' ∧ iv = .int .i64 k ∧ Hid (Scan l n f M k q r) ∧ Hid (Own wr w1.heap.size 3 1 q c' A' (i64s fun a => r a) ∧ c' ≤ maxLen) ∧ Hid (Below w1.heap.size w1 wr)) (fun _ _ iv _ => n - (intOf iv).toNat)
  case atStart => exact ⟨0, 0, _, _, _, Nat.zero_le _, Nat.zero_le _, by rw [Nat.sub_zero], rfl, rfl, Scan.start l n f M _, O0, D0⟩
  case round =>
    obtain ⟨k, q, A', c', r, hk, hq, rfl, rfl, rfl, hT, hO, hD⟩ := hrel
    clear O0 D0
    by_cases hlt : k < n
    · have hki : (k : Int) < (n : Int) := by omega
      have BW : Below w.heap.size w wr := B1.out.trans (hD.out.mono B1.out.size)
      obtain ⟨b, o, rfl, _, c1⟩ := (H.out.below BW).at_ hlt
      have c2 := (G1.out.of_block (hD.out.block g G1.out.lt)).cell (i := k) hlt
      rw [i64s_at] at c1 c2
      obtain ⟨L, hL⟩ : ∃ L, M - q = L := ⟨_, rfl⟩
      rw [hL]
      by_cases hL0 : L = 0
      · obtain rfl : q = M := by omega
        subst hL0
        have hle := hO.out.1.le
        have R2 := hO.out.1.sees
        rw [Nat.mul_one] at R2
        have FIN : Hid (Longest l n q r ∧ q ≤ n ∧ Sees wr wr.heap.size A' q (i64s fun a => r a) ∧ q ≤ c' ∧ c' ≤ maxLen ∧ Below w.heap.size w wr) :=
          ⟨⟨hT.out.rise, fun m' r' h' => h'.le HF.out M1.out⟩, hMn, R2, hle, hO.out.2, BW⟩
        clear hT hO hD R2 BW hL
        go_wp2_with fail
        rw [Exit.noGoto_ret]
        go_ret2
        exact ⟨A', q, c', r, rfl, FIN.out⟩
      · have hqM : q < M := by omega
        have hLi : ¬ (L : Int) = 0 := by omega
        by_cases hfl : f k = L
        · rw [hfl] at c2
          cases q with
          | zero =>
            obtain ⟨A2, c2, w2, run, O2, fr, _, mx⟩ := own_push (P := Tryz.prog) wr w1.heap.size Tryz.underlying54 infoIntR rfl hO.out.1 hD.out.size (.int .i64 k) rfl (by omega) (by omega)
            have T2 := Lib.hid (hT.out.take hlt hqM ((by rw [hfl, hL])) ((fun h => by omega)))
            have O3 : Hid (Own w2 w1.heap.size 3 1 (0 + 1) c2 A2 (i64s fun a => ((if a = 0 then k else r a : Nat) : Int)) ∧ c2 ≤ maxLen) := ⟨O2.congr fun j hj => by
              show (if j < 0 then Value.int .i64 ((r j : Nat) : Int) else .int .i64 k) = .int .i64 (((if j = 0 then k else r j) : Nat) : Int)
              by_cases e : j < 0
              · rw [if_pos e, if_neg (by omega)]
              · rw [if_neg e, if_pos (by omega)], mx hO.out.2⟩
            have D3 := Lib.hid (hD.out.trans (fr.below hD.out.size fun b hb => (hO.out.1.blk b hb).1))
            have RUN := Lib.hid run
            have HL : Hid (M - (0) = L) := hL
            clear run O2 fr hO hD hT mx
            go_wp2_with (at_builtin; refine Hid.out ?_)
            refine Lib.hid (Lib.wpList_append_run _ rfl _ _ _ _ rfl _ _ rfl rfl _ _ (RUN.out _) ?_)
            go_wp2_with fail
            go_roundw
            case rel => exact ⟨k + 1, 0 + 1, A2, c2, _, by omega, by omega, by rw [show M - (0 + 1) = L - 1 by have := HL.out; omega]; exact congrArg (Value.int .i64) (by go_num), rfl, by go_num, T2, O3, D3⟩
            case measure => simp [intOf]; omega
          | succ q =>
            obtain ⟨g', hA', hg1', hg2', hcells, _⟩ := hO.out.1.at_ (by omega)
            subst hA'
            have c3 : wr.cell? ⟨g', q, none⟩ = some (.int .i64 ((r q : Nat) : Int)) := hcells q (by omega)
            clear hcells
            have hr := (hT.out.lt q (by omega)).1
            have c4 : wr.cell? ⟨b, o + r q, none⟩ = some (.int .i64 (l (r q))) := by
              obtain ⟨b', o', e, _, c4⟩ := (H.out.below BW).at_ (k := r q) (by omega)
              cases e
              rwa [i64s_at] at c4
            have hrn : (r q : Int) < (n : Int) := by omega
            have hle := hO.out.1.le
            by_cases hc : l k ≤ l (r q)
            · clear BW
              have T2 := Lib.hid (hT.out.skip (.inr ⟨by omega, by rw [Nat.add_sub_cancel]; exact hc⟩))
              clear hT
              go_wp2_with fail
              go_roundw
              case rel => exact ⟨k + 1, q + 1, _, c', r, by omega, hq, by rw [hL], rfl, by go_num, T2, hO, hD⟩
              case measure => simp [intOf]; omega
            · clear BW
              obtain ⟨A2, c2, w2, run, O2, fr, _, mx⟩ := own_push (P := Tryz.prog) wr w1.heap.size Tryz.underlying54 infoIntR rfl hO.out.1 hD.out.size (.int .i64 k) rfl (by omega) (by omega)
              have T2 := Lib.hid (hT.out.take hlt hqM ((by rw [hfl, hL])) ((fun h => by rw [Nat.add_sub_cancel]; omega)))
              have O3 : Hid (Own w2 w1.heap.size 3 1 (q + 1 + 1) c2 A2 (i64s fun a => ((if a = q + 1 then k else r a : Nat) : Int)) ∧ c2 ≤ maxLen) := ⟨O2.congr fun j hj => by
                show (if j < q + 1 then Value.int .i64 ((r j : Nat) : Int) else .int .i64 k) = .int .i64 (((if j = q + 1 then k else r j) : Nat) : Int)
                by_cases e : j < q + 1
                · rw [if_pos e, if_neg (by omega)]
                · rw [if_neg e, if_pos (by omega)], mx hO.out.2⟩
              have D3 := Lib.hid (hD.out.trans (fr.below hD.out.size fun b hb => (hO.out.1.blk b hb).1))
              have RUN := Lib.hid run
              have HL : Hid (M - (q + 1) = L) := hL
              clear run O2 fr hO hD hT mx
              go_wp2_with (at_builtin; refine Hid.out ?_)
              refine Lib.hid (Lib.wpList_append_run _ rfl _ _ _ _ rfl _ _ rfl rfl _ _ (RUN.out _) ?_)
              go_wp2_with fail
              go_roundw
              case rel => exact ⟨k + 1, q + 1 + 1, A2, c2, _, by omega, by omega, by rw [show M - (q + 1 + 1) = L - 1 by have := HL.out; omega]; exact congrArg (Value.int .i64) (by go_num), rfl, by go_num, T2, O3, D3⟩
              case measure => simp [intOf]; omega
        · have hfi : ¬ ((f k : Nat) : Int) = (L : Int) := by omega
          clear BW
          have T2 := Lib.hid (hT.out.skip (.inl (by rw [hL]; exact hfl)))
          clear hT
          go_wp2_with fail
          go_roundw
          case rel => exact ⟨k + 1, q, _, c', r, by omega, hq, by rw [hL], rfl, by go_num, T2, hO, hD⟩
          case measure => simp [intOf]; omega
    · obtain rfl : n = k := by omega
      obtain rfl : M = q := (hT.out.done HF.out M2.out).symm
      have BW : Below w.heap.size w wr := B1.out.trans (hD.out.mono B1.out.size)
      have hle := hO.out.1.le
      have R2 := hO.out.1.sees
      rw [Nat.mul_one] at R2
      have FIN : Hid (Longest l n M r ∧ M ≤ n ∧ Sees wr wr.heap.size A' M (i64s fun a => r a) ∧ M ≤ c' ∧ c' ≤ maxLen ∧ Below w.heap.size w wr) :=
        ⟨⟨hT.out.rise, fun m' r' h' => h'.le HF.out M1.out⟩, hMn, R2, hle, hO.out.2, BW⟩
      clear hT hO hD R2 BW
      go_wp2_with fail
      rw [Exit.noGoto_ret]
      go_ret2
      exact ⟨A', M, c', r, rfl, FIN.out⟩
end Go.Proofs.YtfmfmeiaekknbaaGreat
end

section
/-
  Maps of numbers that a call makes (map[int]bool, map[int]int), in words of functions; rises.Check.
-/
namespace Go.Proofs.YtfmfmeiaekknbaaGreat
open Go.RowKit Go.Maps
set_option linter.unusedVariables false
set_option linter.unusedSimpArgs false

theorem keyI : Keyed Tryz.prog 3 := int_keyed Tryz.underlying3
theorem keyI_of {x : Int} (h : Fits x) : keyOf Tryz.prog 3 (.int .i64 x) = some (.int .i64 x) := keyOf_int_mk Tryz.underlying3 (WalkArith.wf_i64 h)
theorem zeroB (w : World) : (zeroValue 4).run Tryz.prog w = .ok (.bool false) w := by kernel_rfl
theorem zeroI (w : World) : (zeroValue 3).run Tryz.prog w = .ok (.int .i64 0) w := by kernel_rfl
theorem plainElem_bool_inv {H : Type} {P : Program} {e : TypeId} (he : P.underlying e = some .bool) {v : Value} {z : DataW H × List MemPlace} (h : plainElem P e v = some z) : ∃ x, v = .bool x ∧ z = (.lit (.bool x), []) := by
  unfold plainElem at h
  rw [he] at h
  cases v <;> simp at h
  exact ⟨_, rfl, h.symm⟩
/-- Block b is a map[int]bool whose element at x is S x. -/
def BM (w : World) (b n : Nat) (S : Int → Bool) : Prop := ∃ D : DataW Unit, w.ownsMap Tryz.prog 3 (plainElem Tryz.prog 4) b n D ∧ ∀ x, D.atKey (.int .i64 x) (.lit (.bool false)) = .lit (.bool (S x))
theorem BM.made (w : World) : BM (w.alloc (.map #[] 0)) w.heap.size 0 (fun _ => false) := ⟨.map [], World.ownsMap_made w _ _ _, fun x => rfl⟩
theorem BM.fr {w w' : World} {b n : Nat} {S : Int → Bool} (h : BM w b n S) (k : w'.heap[b]? = w.heap[b]?) : BM w' b n S := by
  obtain ⟨D, ⟨es, clock, hb, F, hs, hD⟩, h2⟩ := h
  exact ⟨D, ⟨es, clock, k.trans hb, F, hs, hD⟩, h2⟩
theorem BM.lt {w : World} {b n : Nat} {S : Int → Bool} (h : BM w b n S) : b < w.heap.size := by obtain ⟨D, h1, _⟩ := h; exact h1.lt
set_option maxRecDepth 100000 in
theorem BM.look {w : World} {b n : Nat} {S : Int → Bool} (h : BM w b n S) {x : Int} (hx : Fits x) : (Instr.lookup 215 (.map (some b)) (.int .i64 x) false).run Tryz.prog w = .ok (.bool (S x)) w := by
  obtain ⟨D, h1, h2⟩ := h
  obtain ⟨v, ps, hr, hv⟩ := h1.lookup keyI Tryz.underlying215 (zeroB w) (plainElem_bool Tryz.underlying4 false) (keyI_of hx)
  rw [h2] at hv
  obtain ⟨q, hq, e⟩ := plainElem_bool_inv Tryz.underlying4 hv
  have e := congrArg Prod.fst e
  injection e with e
  injection e with e
  rw [hq, ← e] at hr
  exact hr
theorem BM.put {w : World} {b n : Nat} {S : Int → Bool} (h : BM w b n S) {x : Int} (hx : Fits x) (hn : n < 1000000) : ∃ w', (Instr.mapUpdate 215 (.map (some b)) (.int .i64 x) (.bool true)).run Tryz.prog w = .ok () w' ∧ BM w' b (n + 1) (fun y => if y = x then true else S y) ∧ w.grownBy w' (some b) := by
  obtain ⟨D, h1, h2⟩ := h
  obtain ⟨w', r1, r2, r3⟩ := h1.update keyI Tryz.underlying215 (by unfold maxLen; omega) (keyI_of hx) (plainElem_bool Tryz.underlying4 true)
  refine ⟨w', r1, ⟨_, r2, fun y => ?_⟩, r3⟩
  show _ = DataW.lit (Lit.bool (if y = x then true else S y))
  by_cases e : y = x
  · subst e
    rw [if_pos rfl, atKey_put_same (k := .int .i64 y) (h1.tidy keyI).isMap trivial]
  · rw [if_neg e, atKey_put_other (fun h => e (by injection h))]
    exact h2 y
/-- Block b is a map[int]int: F x is its element at x, if there is one. -/
def IM (w : World) (b n : Nat) (F : Int → Option Int) : Prop := ∃ D : DataW Unit, w.ownsMap Tryz.prog 3 (plainElem Tryz.prog 3) b n D ∧ ∀ x, Maps.has D (.int .i64 x) = (F x).isSome ∧ D.atKey (.int .i64 x) (.lit (.int .i64 0)) = .lit (.int .i64 ((F x).getD 0))
theorem IM.made (w : World) : IM (w.alloc (.map #[] 0)) w.heap.size 0 (fun _ => none) := ⟨.map [], World.ownsMap_made w _ _ _, fun x => ⟨rfl, rfl⟩⟩
theorem IM.fr {w w' : World} {b n : Nat} {F : Int → Option Int} (h : IM w b n F) (k : w'.heap[b]? = w.heap[b]?) : IM w' b n F := by
  obtain ⟨D, ⟨es, clock, hb, F, hs, hD⟩, h2⟩ := h
  exact ⟨D, ⟨es, clock, k.trans hb, F, hs, hD⟩, h2⟩
theorem IM.lt {w : World} {b n : Nat} {F : Int → Option Int} (h : IM w b n F) : b < w.heap.size := by obtain ⟨D, h1, _⟩ := h; exact h1.lt
set_option maxRecDepth 100000 in
theorem IM.look {w : World} {b n : Nat} {F : Int → Option Int} (h : IM w b n F) {x : Int} (hx : Fits x) : (Instr.lookup 204 (.map (some b)) (.int .i64 x) true).run Tryz.prog w = .ok (.tuple #[.int .i64 ((F x).getD 0), .bool (F x).isSome]) w := by
  obtain ⟨D, h1, h2⟩ := h
  obtain ⟨v, ps, hr, hv⟩ := h1.look_ok keyI Tryz.underlying204 (zeroI w) (plainElem_int (q := .i64) Tryz.underlying3 (by decide)) (keyI_of hx)
  rw [(h2 x).2] at hv
  obtain ⟨a, ha, e, _⟩ := plainElem_int_inv (q := .i64) Tryz.underlying3 hv
  have e := congrArg Prod.fst e
  injection e with e
  injection e with _ e
  rw [ha, (h2 x).1, ← e] at hr
  exact hr
theorem IM.put {w : World} {b n : Nat} {F : Int → Option Int} (h : IM w b n F) {x v : Int} (hx : Fits x) (hv : Fits v) (hn : n < 1000000) : ∃ w', (Instr.mapUpdate 204 (.map (some b)) (.int .i64 x) (.int .i64 v)).run Tryz.prog w = .ok () w' ∧ IM w' b (n + 1) (fun y => if y = x then some v else F y) ∧ w.grownBy w' (some b) := by
  obtain ⟨D, h1, h2⟩ := h
  obtain ⟨w', r1, r2, r3⟩ := h1.update keyI Tryz.underlying204 (by unfold maxLen; omega) (keyI_of hx) (plainElem_int (q := .i64) Tryz.underlying3 (WalkArith.wf_i64 hv))
  refine ⟨w', r1, ⟨_, r2, fun y => ?_⟩, r3⟩
  show _ = (if y = x then some v else F y).isSome ∧ _ = DataW.lit (Lit.int .i64 ((if y = x then some v else F y).getD 0))
  by_cases e : y = x
  · subst e
    rw [if_pos rfl, atKey_put_same (k := .int .i64 y) (h1.tidy keyI).isMap trivial, has_put_same (k := .int .i64 y) (h1.tidy keyI).isMap trivial]
    exact ⟨rfl, rfl⟩
  · have hne : (Lit.int .i64 y) ≠ .int .i64 x := fun h => e (by injection h)
    rw [if_neg e, atKey_put_other hne, has_put_other hne]
    exact h2 y
theorem Fr.of_grown {w w' : World} {b : Nat} (h : w.grownBy w' (some b)) : Fr (fun c => c = b) w w' := ⟨h.os, h.tape, h.output, h.size, fun k hk hn => h.block k hk (fun e => hn (by injection e))⟩

/-- An order: no number is below 0, none stands twice. -/
structure Ord (l : Nat → Int) (n : Nat) : Prop where
  pos : ∀ i, i < n → 0 ≤ l i ∧ l i ≤ 9223372036854775807
  inj : ∀ i j, i < n → j < n → l i = l j → i = j
set_option maxRecDepth 100000 in
set_option maxHeartbeats 3200000 in
theorem rcheck_ok (w : World) (A : Option Addr) (n c : Nat) (l : Nat → Int) (h : Sees w w.heap.size A n (i64s l)) (hn : n ≤ 4096) (ho : Ord l n) :
    Calls Tryz.prog 102 #[.slice A n c] w fun e w' => e = .returned (.int .i64 0) ∧ Below w.heap.size w w' := by
  have H := Lib.hid h
  have HO := Lib.hid ho
  have hmm := @run_makeMap Tryz.prog
  have hn1 : ¬ (4096 : Int) < (n : Int) := by omega
  have M0 : Hid (BM (w.alloc (.map #[] 0)) w.heap.size 0 (fun _ => false)) := BM.made w
  have B0 : Hid (Below w.heap.size w (w.alloc (.map #[] 0))) := (Below.refl _ w).alloc (Nat.le_refl _) _
  clear h ho
  go_enter Tryz.func102, Tryz.ntmps102
  go_wp2_with fail
  clear hmm
  obtain ⟨b, eb⟩ : ∃ b, b = w.heap.size := ⟨_, rfl⟩
  have EB := Lib.hid eb
  rw [← eb] at M0 ⊢
  clear eb
  go_loopw [12] (fun iv wr => ∃ (k : Nat) (S : Int → Bool), k ≤ n ∧ iv = .int .i64 k ∧ Hid (BM wr b k S) ∧ Hid (∀ x, S x = true → ∃ j, j < k ∧ l j = x) ∧ Hid (Below w.heap.size w wr)) (fun iv _ => n - (intOf iv).toNat)
  case atStart => exact ⟨0, _, Nat.zero_le _, rfl, M0, fun x hx => absurd hx (by simp), B0⟩
  case round =>
    obtain ⟨k, S, hk, rfl, hM, hS, hD⟩ := hrel
    clear M0 B0
    by_cases hlt : k < n
    · have hki : (k : Int) < (n : Int) := by omega
      obtain ⟨b', o, rfl, _, c1⟩ := (H.out.below hD.out).at_ hlt
      rw [i64s_at] at c1
      obtain ⟨p1, p2⟩ := HO.out.pos k hlt
      have hSk : S (l k) = false := by
        cases e : S (l k) with
        | false => rfl
        | true =>
          obtain ⟨j, a, q⟩ := hS.out _ e
          have := HO.out.inj j k (by omega) hlt q
          omega
      obtain ⟨x, ex⟩ : ∃ x, x = l k := ⟨_, rfl⟩
      have EX := Lib.hid ex
      rw [← ex] at c1 p1 p2 hSk
      have fx : Fits x := ⟨by omega, p2⟩
      have L1 := hM.out.look fx
      rw [hSk] at L1
      obtain ⟨w2, L2, M2, G2⟩ := hM.out.put fx (by omega)
      have N2 := Lib.hid M2
      have S2 : Hid (∀ y, (if y = x then true else S y) = true → ∃ j, j < k + 1 ∧ l j = y) := fun y hy => by
        by_cases e : y = x
        · exact ⟨k, by omega, by rw [e, EX.out]⟩
        · rw [if_neg e] at hy
          obtain ⟨j, a, q⟩ := hS.out y hy
          exact ⟨j, by omega, q⟩
      have D2 : Hid (Below w.heap.size w w2) := hD.out.trans ((Fr.of_grown G2).below hD.out.size (fun c hc => by rw [hc, EB.out]; exact Nat.le_refl _))
      have p3 : ¬ x < 0 := by omega
      clear hM hS hD M2 G2 ex hSk
      go_wp2_with fail
      go_roundw
      case rel => exact ⟨k + 1, _, by omega, by go_num, N2, S2, D2⟩
      case measure => simp [intOf]; omega
    · obtain rfl : k = n := by omega
      go_wp2_with fail
      go_ret
      exact ⟨rfl, hD.out⟩
end Go.Proofs.YtfmfmeiaekknbaaGreat
end

section
/-
  Package rises: what is kept of an order, where the other one has the same numbers.
-/
namespace Go.Proofs.YtfmfmeiaekknbaaGreat
open Go.RowKit Go.Maps
set_option linter.unusedVariables false
set_option linter.unusedSimpArgs false

/-- Two orders of the same n numbers: place i of the new one is place pos i of the old one. -/
structure Two (l m : Nat → Int) (n : Nat) (pos : Nat → Nat) : Prop where
  ol : Ord l n
  om : Ord m n
  pos : ∀ i, i < n → pos i < n ∧ l (pos i) = m i
theorem szSl : (Tryz.prog.info? 54).map (·.size) = some 1 := by kernel_rfl
theorem index_two0 (A A2 : Option Addr) (n c n2 c2 : Nat) (wx : World) : (Instr.index 203 (.agg #[.slice A n c, .slice A2 n2 c2]) (.int .i64 0)).run Tryz.prog wx = .ok (.slice A n c) wx := by
  simp [Instr.index, asIntOf, run_underlying Tryz.underlying203, run_underlying Tryz.underlying54, sizeOf_eq szSl, part, isAgg]
theorem index_two1 (A A2 : Option Addr) (n c n2 c2 : Nat) (wx : World) : (Instr.index 203 (.agg #[.slice A n c, .slice A2 n2 c2]) (.int .i64 1)).run Tryz.prog wx = .ok (.slice A2 n2 c2) wx := by
  simp [Instr.index, asIntOf, run_underlying Tryz.underlying203, run_underlying Tryz.underlying54, sizeOf_eq szSl, part, isAgg]
set_option maxRecDepth 100000 in
set_option maxHeartbeats 6400000 in
theorem kept_ok (w : World) (A : Option Addr) (A2 : Option Addr) (n c c2 : Nat) (l m : Nat → Int) (pos : Nat → Nat) (h : Sees w w.heap.size A n (i64s l)) (h2 : Sees w w.heap.size A2 n (i64s m)) (hn : n ≤ 4096) (ht : Two l m n pos) :
    Calls Tryz.prog 71 #[.slice A n c, .slice A2 n c2] w (LPostR w (fun i => pos i) n) := by
  unfold LPostR
  have H := Lib.hid h
  have H2 := Lib.hid h2
  have HT := Lib.hid ht
  have hmm := @run_makeMap Tryz.prog
  clear h h2 ht
  go_enter Tryz.func71, Tryz.ntmps71
  go_wp2_with fail
  go_loopw [20] (fun iv wr => ∃ k : Nat, k ≤ 2 ∧ iv = .int .i64 k ∧ Hid (Below w.heap.size w wr)) (fun iv _ => 2 - (intOf iv).toNat)
  case atStart => exact ⟨0, by omega, rfl, Below.refl _ _⟩
  case round =>
    obtain ⟨k, hk, rfl, hD⟩ := hrel
    rcases (show k = 0 ∨ k = 1 ∨ k = 2 by omega) with rfl | rfl | rfl
    · have hix := index_two0 A A2 n c n c2
      have KC := Lib.hid (rcheck_ok wr A n c l ((H.out.below hD.out).more hD.out.size) hn HT.out.ol)
      go_wp2_with fail
      clear hix
      refine (KC.out).mono ?_
      rintro e w2 ⟨rfl, b⟩
      have D2 := Lib.hid (hD.out.trans (b.mono hD.out.size))
      clear hD b KC
      go_wp2_with fail
      go_roundw
      case rel => exact ⟨1, by omega, by go_num, D2⟩
      case measure => simp [intOf]
    · have hix := index_two1 A A2 n c n c2
      have KC := Lib.hid (rcheck_ok wr A2 n c2 m ((H2.out.below hD.out).more hD.out.size) hn HT.out.om)
      go_wp2_with fail
      clear hix
      refine (KC.out).mono ?_
      rintro e w2 ⟨rfl, b⟩
      have D2 := Lib.hid (hD.out.trans (b.mono hD.out.size))
      clear hD b KC
      go_wp2_with fail
      go_roundw
      case rel => exact ⟨2, by omega, by go_num, D2⟩
      case measure => simp [intOf]
    · have M0 : Hid (IM (wr.alloc (.map #[] 0)) wr.heap.size 0 (fun _ => none)) := IM.made wr
      have B0 : Hid (Below w.heap.size w (wr.alloc (.map #[] 0))) := hD.out.alloc hD.out.size _
      have hb0 := hD.out.size
      clear hD
      go_wp2_with fail
      obtain ⟨b, eb⟩ : ∃ b, b = wr.heap.size := ⟨_, rfl⟩
      rw [← eb] at M0 hb0 ⊢
      clear eb
      go_loopw [32] (fun iv wq => ∃ (k : Nat) (F : Int → Option Int), k ≤ n ∧ iv = .int .i64 k ∧ Hid (IM wq b k F) ∧ Hid (∀ j, j < k → F (l j) = some (j : Int)) ∧ Hid (Below w.heap.size w wq)) (fun iv _ => n - (intOf iv).toNat)
      case atStart => exact ⟨0, _, Nat.zero_le _, rfl, M0, fun j hj => by omega, B0⟩
      case round =>
        obtain ⟨k, F, hk, rfl, hM, hS, hD⟩ := hrel
        clear M0 B0
        by_cases hlt : k < n
        · have hki : (k : Int) < (n : Int) := by omega
          obtain ⟨b', o, rfl, _, c1⟩ := (H.out.below hD.out).at_ hlt
          rw [i64s_at] at c1
          obtain ⟨p1, p2⟩ := HT.out.ol.pos k hlt
          obtain ⟨x, ex⟩ : ∃ x, x = l k := ⟨_, rfl⟩
          have EX := Lib.hid ex
          rw [← ex] at c1 p1 p2
          obtain ⟨w2, L2, M2, G2⟩ := hM.out.put (x := x) (v := (k : Int)) ⟨by omega, p2⟩ ⟨by omega, by omega⟩ (by omega)
          have N2 := Lib.hid M2
          have S2 : Hid (∀ j, j < k + 1 → (if l j = x then some (k : Int) else F (l j)) = some (j : Int)) := fun j hj => by
            by_cases e : l j = x
            · rw [if_pos e]
              have := HT.out.ol.inj j k (by omega) hlt (by rw [e, EX.out])
              rw [this]
            · rw [if_neg e]
              exact hS.out j (by
                by_cases e2 : j = k
                · rw [e2, EX.out] at e; exact absurd rfl e
                · omega)
          have D2 : Hid (Below w.heap.size w w2) := hD.out.trans ((Fr.of_grown G2).below hD.out.size (fun c hc => by omega))
          clear hM hS hD M2 G2 ex
          go_wp2_with fail
          go_roundw
          case rel => exact ⟨k + 1, _, by omega, by go_num, N2, S2, D2⟩
          case measure => simp [intOf]; omega
        · obtain rfl : n = k := by omega
          have mk := make_ints n (by omega)
          have M1 : Hid (IM (wr.alloc (.cells (madeCells #[.int .i64 0] n) 3)) b n F) := hM.out.fr (Below.heap_alloc _ _ _ hM.out.lt)
          have B1 : Hid (Below w.heap.size w (wr.alloc (.cells (madeCells #[.int .i64 0] n) 3))) := hD.out.alloc hD.out.size _
          have R1 : Hid ((wr.alloc (.cells (madeCells #[.int .i64 0] n) 3)).rowIs wr.heap.size 3 n (i64s fun j => if j < 0 then pos j else 0)) := (World.rowIs_made wr (.int .i64 0) n 3).congr fun j _ => by
            show Value.int .i64 0 = Value.int .i64 (if j < 0 then (pos j : Int) else 0)
            rw [if_neg (by omega)]
          have hg0 := hD.out.size
          have hbg := hM.out.lt
          clear hM hD
          go_wp2_with fail
          clear mk
          obtain ⟨g, eg⟩ : ∃ g, g = wr.heap.size := ⟨_, rfl⟩
          rw [← eg] at R1 hg0 hbg ⊢
          clear eg
          go_loopw [46] (fun iv wr => ∃ k : Nat, k ≤ n ∧ iv = .int .i64 k ∧ Hid (IM wr b n F) ∧ Hid (wr.rowIs g 3 n (i64s fun j => if j < k then pos j else 0)) ∧ Hid (Below w.heap.size w wr)) (fun iv _ => n - (intOf iv).toNat)
          case atStart => exact ⟨0, Nat.zero_le _, rfl, M1, R1, B1⟩
          case round =>
            obtain ⟨k, hk, rfl, hM, hR, hD⟩ := hrel
            clear M1 B1 R1
            by_cases hlt : k < n
            · have hki : (k : Int) < (n : Int) := by omega
              obtain ⟨b', o, rfl, _, c1⟩ := (H2.out.below hD.out).at_ hlt
              rw [i64s_at] at c1
              obtain ⟨p1, p2⟩ := HT.out.om.pos k hlt
              obtain ⟨q1, q2⟩ := HT.out.pos k hlt
              have hF := hS.out _ q1
              rw [q2] at hF
              obtain ⟨x, ex⟩ : ∃ x, x = m k := ⟨_, rfl⟩
              rw [← ex] at c1 p1 p2 hF
              have L2 := hM.out.look (x := x) ⟨by omega, p2⟩
              rw [hF] at L2
              have R2 : Hid ((wr.setCell ⟨g, k, none⟩ (.int .i64 (pos k))).rowIs g 3 n (i64s fun j => if j < k + 1 then pos j else 0)) := (hR.out.set k (.int .i64 (pos k))).congr fun j hj => by
                show (if j = k then Value.int .i64 (pos k) else .int .i64 (if j < k then (pos j : Int) else 0)) = .int .i64 (if j < k + 1 then (pos j : Int) else 0)
                by_cases e : j = k
                · rw [if_pos e, if_pos (by omega), e]
                · rw [if_neg e]
                  by_cases e2 : j < k
                  · rw [if_pos e2, if_pos (by omega)]
                  · rw [if_neg e2, if_neg (by omega)]
              have M2 : Hid (IM (wr.setCell ⟨g, k, none⟩ (.int .i64 (pos k))) b n F) := hM.out.fr (Below.heap_setCell _ _ _ _ (by show b ≠ g; omega))
              have D2 : Hid (Below w.heap.size w (wr.setCell ⟨g, k, none⟩ (.int .i64 (pos k)))) := hD.out.setCell (p := ⟨g, k, none⟩) (by show w.heap.size ≤ g; exact hg0) _
              have c2 := hR.out.cell (i := k) hlt
              have c3 := hR.out.frozen k
              rw [i64s_at, if_neg (by omega)] at c2
              clear hM hR hD ex hF q1 q2
              generalize pos k = pk at *
              go_wp2_with fail
              go_roundw
              case rel => exact ⟨k + 1, by omega, by go_num, M2, R2, D2⟩
              case measure => simp [intOf]; omega
            · obtain rfl : n = k := by omega
              have R3 : wr.rowIs g 3 n (i64s fun j => pos j) := hR.out.congr fun j hj => by
                show Value.int .i64 (if j < n then (pos j : Int) else 0) = _
                rw [if_pos hj]; rfl
              have KL := Lib.hid (longest_any wr (some ⟨g, 0, none⟩) n n (fun j => pos j) (Sees.row R3 (Nat.le_refl _)) hn)
              have D2 := Lib.hid hD.out
              clear hM hR hD R3
              go_wp2_with fail
              refine (KL.out).mono ?_
              rintro e w2 ⟨A', q, c', r, rfl, k1, k2, k3, k4, k5, k6⟩
              have FIN : Hid (Longest (fun i => (pos i : Int)) n q r ∧ q ≤ n ∧ Sees w2 w2.heap.size A' q (i64s fun a => r a) ∧ q ≤ c' ∧ c' ≤ maxLen ∧ Below w.heap.size w w2) := ⟨k1, k2, k3, k4, k5, D2.out.trans (k6.mono D2.out.size)⟩
              clear k1 k2 k3 k4 k5 k6 KL D2
              go_wp2_with fail
              go_ret2
              exact ⟨A', q, c', r, rfl, FIN.out⟩
end Go.Proofs.YtfmfmeiaekknbaaGreat
end

section
/-
  slices.Backward over a slice of int: what it yields; the state of rises.Moves from round to round, plainly.
-/
namespace Go.Proofs.YtfmfmeiaekknbaaGreat
open Go.RowKit Go.Shelf
set_option linter.unusedVariables false
set_option linter.unusedSimpArgs false

attribute [local go_sem] Oper.semAt_some

/-- What a round keeps: all below N, but for blocks of S. -/
structure Kz (N : Nat) (S : Nat → Prop) (w w' : World) : Prop where
  os : w'.os = w.os
  tape : w'.tape = w.tape
  output : w'.output = w.output
  size : w.heap.size ≤ w'.heap.size
  block : ∀ k, k < N → ¬ S k → w'.heap[k]? = w.heap[k]?
theorem Kz.refl (N : Nat) (S : Nat → Prop) (w : World) : Kz N S w w := ⟨rfl, rfl, rfl, Nat.le_refl _, fun _ _ _ => rfl⟩
theorem Kz.trans {N : Nat} {S : Nat → Prop} {a b c : World} (h : Kz N S a b) (k : Kz N S b c) : Kz N S a c :=
  ⟨k.os.trans h.os, k.tape.trans h.tape, k.output.trans h.output, Nat.le_trans h.size k.size, fun i hi hn => (k.block i hi hn).trans (h.block i hi hn)⟩
theorem Kz.of_below {N : Nat} {S : Nat → Prop} {a b : World} (h : Below N a b) : Kz N S a b := ⟨h.os, h.tape, h.output, h.size, fun k hk _ => h.block k hk⟩
theorem Kz.cell {N : Nat} {S : Nat → Prop} {w w' : World} (h : Kz N S w w') {p : Addr} (hp : p.block < N) (hq : ¬ S p.block) : w'.cell? p = w.cell? p := by
  unfold World.cell?; rw [h.block _ hp hq]
theorem Kz.of_fr {N : Nat} {S T : Nat → Prop} {w w' : World} (h : Fr T w w') (hN : N ≤ w.heap.size) (hT : ∀ b, T b → S b ∨ N ≤ b) : Kz N S w w' :=
  ⟨h.os, h.tape, h.output, h.size, fun k hk hn => h.block k (by omega) (fun t => by
    rcases hT k t with h | h
    · exact hn h
    · omega)⟩
theorem Kz.grown {N : Nat} {S : Nat → Prop} {w w' : World} {row : Option Nat} (hg : w.grownBy w' row) (hN : N ≤ w.heap.size) (hr : ∀ r, row = some r → N ≤ r) : Kz N S w w' :=
  ⟨hg.os, hg.tape, hg.output, hg.size, fun k hk _ => hg.block k (by omega) (fun e => by have := hr k e.symm; omega)⟩
/-- The pairs of a place and its number, from the last one back. -/
def bk (m : Nat → Int) (n k : Nat) : List (Int × Int) := (List.range k).map fun j => (((n - 1 - j : Nat) : Int), m (n - 1 - j))
theorem bk_succ (m : Nat → Int) (n k : Nat) : bk m n (k + 1) = bk m n k ++ [(((n - 1 - k : Nat) : Int), m (n - 1 - k))] := by simp [bk, List.range_succ]
theorem bk_len (m : Nat → Int) (n k : Nat) : (bk m n k).length = k := by simp [bk]
/-- A round of Moves: how many kept places are left; the steps; the number ahead of which the next one is put. -/
def mstep (r : Nat → Nat) (s : Nat × Sp × Int) (x : Int × Int) : Nat × Sp × Int :=
  if 0 < s.1 ∧ ((r (s.1 - 1) : Nat) : Int) = x.1 then (s.1 - 1, s.2.1, x.2) else (s.1, s.2.1 ++ [(x.2, s.2.2)], x.2)
def mst (r : Nat → Nat) (q : Nat) (xs : List (Int × Int)) : Nat × Sp × Int := xs.foldl (mstep r) (q, [], -1)
theorem mst_snoc (r : Nat → Nat) (q : Nat) (xs : List (Int × Int)) (x : Int × Int) : mst r q (xs ++ [x]) = mstep r (mst r q xs) x := by simp [mst, List.foldl_append]
theorem mst_bd' (r : Nat → Nat) (xs : List (Int × Int)) : ∀ s : Nat × Sp × Int, (xs.foldl (mstep r) s).1 ≤ s.1 ∧ (xs.foldl (mstep r) s).2.1.length ≤ s.2.1.length + xs.length := by
  induction xs with
  | nil => intro s; exact ⟨Nat.le_refl _, Nat.le_refl _⟩
  | cons x xs ih =>
    intro s
    have h := ih (mstep r s x)
    have h1 : (mstep r s x).1 ≤ s.1 ∧ (mstep r s x).2.1.length ≤ s.2.1.length + 1 := by
      unfold mstep
      split
      · exact ⟨by show s.1 - 1 ≤ s.1; omega, by show s.2.1.length ≤ _; omega⟩
      · exact ⟨Nat.le_refl _, by show (s.2.1 ++ [(x.2, s.2.2)]).length ≤ _; rw [List.length_append]; simp⟩
    rw [List.foldl_cons, List.length_cons]
    omega
theorem mst_bd (r : Nat → Nat) (q : Nat) (xs : List (Int × Int)) : (mst r q xs).1 ≤ q ∧ (mst r q xs).2.1.length ≤ xs.length := by
  have := mst_bd' r xs (q, [], -1)
  simpa [mst] using this

/-- The pairs that are yielded. -/
def encB (x : Int × Int) : Array Value := #[.int .i64 x.1, .int .i64 x.2]
set_option maxRecDepth 100000 in
set_option maxHeartbeats 2000000 in
theorem backward1_in (n : Nat) (hn : 1 ≤ n) (l Bs N : Nat) (T : Nat → Prop) (A : Option Addr) (len cap : Nat) (m : Nat → Int) (hlen : len ≤ 4096) (hBs : Bs < N) (hBT : ¬ T Bs) (J Jx : List (Int × Int) → World → Prop)
    (hY : ∀ pre x W, J pre W → pre.length < len → YieldAt Fence.wide (n - 1) Tryz.prog l (encB x) W fun e W' =>
      (e = .returned (.bool true) ∧ J (pre ++ [x]) W' ∧ Kz N T W W') ∨ (e = .returned (.bool false) ∧ Jx (pre ++ [x]) W'))
    (W : World) (cBs : W.cell? ⟨Bs, 0, none⟩ = some (.slice A len cap)) (hs : 0 < len → ∃ b o, A = some ⟨b, o, none⟩ ∧ b < N ∧ ¬ T b ∧ ∀ j, j < len → W.cell? ⟨b, o + j, none⟩ = some (.int .i64 (m j))) (h0 : J [] W) :
    CallsIn Fence.wide n Tryz.prog 133 #[.func (.yield l) #[] #[], .pointer (some ⟨Bs, 0, none⟩)] W fun e W' => (∃ v, e = .returned v) ∧
      ((∃ ys : List (Int × Int), ys = bk m len len ∧ J ys W') ∨ (∃ pre : List (Int × Int), True ∧ Jx pre W')) := by
  refine callsIn_of_wp Tryz.func133 rfl trivial ?_ rfl
  simp only [Tryz.ntmps133, List.size_toArray, List.length_cons, List.length_nil, Nat.reduceAdd, Nat.reduceSub, Array.replicate_succ, Array.replicate_zero, List.push_toArray, List.append_toArray, List.nil_append, List.cons_append]
  gi_wp2
  gi_loopw [3] (fun i wr => ∃ k : Nat, k ≤ len ∧ i = .int .i64 ((len : Int) - 1 - k) ∧ J (bk m len k) wr ∧ Kz N T W wr)
    (fun i _ => (intOf i + 1).toNat)
  case atStart => exact ⟨0, Nat.zero_le _, by simp, h0, Kz.refl _ _ _⟩
  case round =>
    obtain ⟨k, hk, rfl, hJs, hnx⟩ := hrel
    by_cases hlt : k < len
    · obtain ⟨d, ed⟩ : ∃ d : Nat, d = len - 1 - k := ⟨_, rfl⟩
      have e1 : (len : Int) - 1 - k = (d : Int) := by omega
      obtain ⟨b, o, rfl, hb, hbT, hc⟩ := hs (by omega)
      have c1 := (hnx.cell (p := ⟨b, o + d, none⟩) hb hbT).trans (hc d (by omega))
      have c2 := (hnx.cell (p := ⟨Bs, 0, none⟩) hBs hBT).trans cBs
      have hd : (d : Int) < (len : Int) := by omega
      have hd0 : (0 : Int) ≤ (d : Int) := by omega
      obtain ⟨fn, tmps, assign, body, hy, hR⟩ := hY _ (((d : Nat) : Int), m d) wr hJs (by rw [bk_len]; exact hlt)
      simp only [encB] at hy
      rw [e1]
      have HNX := Lib.hid hnx
      have ED := Lib.hid ed
      clear hs hc cBs hnx ed
      gi_wp2
      refine hR.mono ?_
      rintro e W3 (⟨rfl, hJ3, hk3⟩ | ⟨rfl, hJx3⟩)
      · gi_wp2
        go_roundw
        case rel => exact ⟨k + 1, by omega, by have := ED.out; first | (rw [show (len : Int) - 1 - ((k + 1 : Nat) : Int) = (d : Int) - 1 by omega]; done) | (simp; omega) | (congr 1; omega), by rw [bk_succ, ← ED.out]; exact hJ3, HNX.out.trans hk3⟩
        case measure => simp [intOf]
      · gi_wp2
        refine bodyPost_ret (results_none rfl _ _ _) rfl ?_
        exact ⟨⟨_, rfl⟩, .inr ⟨_, trivial, hJx3⟩⟩
    · obtain rfl : k = len := by omega
      have e1 : ((k : Int) - 1 - k) = -1 := by omega
      rw [e1]
      gi_wp2
      go_end0
      exact ⟨⟨_, rfl⟩, .inl ⟨_, rfl, hJs⟩⟩
theorem wpListIn_append_run {F : Fence} {n : Nat} {P : Program} (w : World) {ops : Array Oper} {rest : List Oper} {o : Oper} {a : Act} {Q : Exit → Act → World → Prop}
    (hg : o.guard = none) (s x : Operand) (t tn : TypeId) (hop : o.op = Op.call { callee := Callee.builtin Builtin.append, args := #[s, x], argTypes := #[t, tn] }) (vs vx : Value) (hs : a.eval s = vs) (hx : a.eval x = vx)
    (v' : Value) (w' : World) (hr : (Builtin.append_ #[t, tn] o.type #[vs, vx]).run P w = .ok v' w') (h : wpListIn F n P ops Q rest (a.put o.dst v') w') : wpListIn F n P ops Q (o :: rest) a w := by
  refine wpListIn_plain hg fun K hK' => ?_
  unfold Oper.wpIn
  refine ⟨?_, ?_⟩
  · simp [Oper.about, hop, resolve, Target.leads, Sem.run_pure]
  · rw [Oper.semAt_plain F _ _ (by rw [hop]; intro c hc'; cases hc')]
    simp [execOp, hop, resolve, invoke, builtin, hs, hx, hr, Result.andThen]
    exact hK' _ _ h
theorem backward_any (w : World) (A : Option Addr) (n c : Nat) :
    Calls Tryz.prog 72 #[.slice A n c] w fun e w' => e = .returned (.func (.func 133) #[] #[.pointer (some ⟨w.heap.size, 0, none⟩)]) ∧ w' = w.alloc (.cells #[.slice A n c] 54) := by
  go_enter Tryz.func72, Tryz.ntmps72
  go_wp2_with fail
  go_ret
  exact ⟨rfl, rfl⟩
end Go.Proofs.YtfmfmeiaekknbaaGreat
end

section
/-
  Package remaps: made; the map of a move, of a list that stays.
-/
namespace Go.Proofs.YtfmfmeiaekknbaaGreat
open Go.RowKit
set_option linter.unusedVariables false
set_option linter.unusedSimpArgs false

def rmc (old : Int) (A : Option Addr) (n : Nat) : Nat → Value := fun j => if j = 0 then .int .i64 old else .slice A n n
theorem rm_cells {w : World} {p n : Nat} {old : Int} {A : Option Addr} (h : w.rowIs p 64 2 (rmc old A n)) : w.cell? ⟨p, 0, none⟩ = some (.int .i64 old) ∧ w.cell? ⟨p, 1, none⟩ = some (.slice A n n) ∧ (∀ i, w.frozen? ⟨p, i, none⟩ = false) ∧ p < w.heap.size := ⟨h.cell (i := 0) (by omega), h.cell (i := 1) (by omega), fun i => h.frozen i, h.lt⟩
theorem rm_new (w : World) (old : Int) (A : Option Addr) (n : Nat) : (w.alloc (.cells #[.int .i64 old, .slice A n n] 64)).rowIs w.heap.size 64 2 (rmc old A n) := World.rowIs_alloc w _ _ _ (fun j hj => by
  have : j = 0 ∨ j = 1 := by simp at hj; omega
  rcases this with rfl | rfl <;> rfl)
set_option maxRecDepth 100000 in
set_option maxHeartbeats 800000 in
theorem rwrong_any (w : World) (n : Nat) (hn : n ≤ 4096) : Calls Tryz.prog 74 #[.int .i64 n] w fun e w' => e = .returned (.bool false) ∧ w = w' := by
  have h1 : ¬ (n : Int) < 0 := by omega
  have h2 : ¬ (4096 : Int) < (n : Int) := by omega
  go_enter Tryz.func74, Tryz.ntmps74
  go_wp2_with fail
  go_ret
  exact ⟨rfl, rfl⟩
set_option maxRecDepth 100000 in
set_option maxHeartbeats 800000 in
theorem routside_any (w : World) (n a m : Nat) (hn : n ≤ 4096) (h : a + m ≤ n) : Calls Tryz.prog 78 #[.int .i64 n, .int .i64 a, .int .i64 m] w fun e w' => e = .returned (.bool false) ∧ w = w' := by
  have h1 : ¬ (a : Int) < 0 := by omega
  have h2 : ¬ (m : Int) < 0 := by omega
  have h3 : ¬ (n : Int) < (a : Int) := by omega
  have h4 : ¬ (n : Int) - (a : Int) < (m : Int) := by omega
  go_enter Tryz.func78, Tryz.ntmps78
  go_wp2_with fail
  go_ret
  exact ⟨rfl, rfl⟩
/-- Where a place of the list that a move leaves was before. -/
def restF (a m i : Nat) : Nat := if i < a then i else i + m
def movF (a m t i : Nat) : Nat := if i < t then restF a m i else if i < t + m then a + i - t else restF a m (i - m)
set_option maxRecDepth 100000 in
set_option maxHeartbeats 800000 in
theorem moved1_any (w : World) (p1 p2 a m i : Nat) (hi : i ≤ 8192) (ha : a ≤ 4096) (hm : m ≤ 4096) (c1 : w.cell? ⟨p1, 0, none⟩ = some (.int .i64 a)) (c2 : w.cell? ⟨p2, 0, none⟩ = some (.int .i64 m)) :
    Calls Tryz.prog 79 #[.int .i64 i, .pointer (some ⟨p1, 0, none⟩), .pointer (some ⟨p2, 0, none⟩)] w fun e w' => e = .returned (.int .i64 (restF a m i)) ∧ w = w' := by
  by_cases h : i < a
  · have h1 : (i : Int) < (a : Int) := by omega
    have e : restF a m i = i := if_pos h
    rw [e]
    go_enter Tryz.func79, Tryz.ntmps79
    go_wp2_with fail
    go_ret
    exact ⟨rfl, rfl⟩
  · have h1 : ¬ (i : Int) < (a : Int) := by omega
    have e : ((restF a m i : Nat) : Int) = (i : Int) + (m : Int) := by unfold restF; rw [if_neg h]; exact Int.natCast_add _ _
    rw [e]
    go_enter Tryz.func79, Tryz.ntmps79
    go_wp2_with fail
    go_ret
    exact ⟨rfl, rfl⟩
/-- What the map of a move looks at. -/
structure MC (w : World) (pt pr pm pa a m t : Nat) : Prop where
  ct : w.cell? ⟨pt, 0, none⟩ = some (.int .i64 t)
  cr : w.cell? ⟨pr, 0, none⟩ = some (.func (.func 79) #[] #[.pointer (some ⟨pa, 0, none⟩), .pointer (some ⟨pm, 0, none⟩)])
  cm : w.cell? ⟨pm, 0, none⟩ = some (.int .i64 m)
  ca : w.cell? ⟨pa, 0, none⟩ = some (.int .i64 a)
set_option maxRecDepth 100000 in
set_option maxHeartbeats 1600000 in
theorem moved2_any (w : World) (pt pr pm pa a m t i n : Nat) (h : MC w pt pr pm pa a m t) (hi : i < n) (hn : n ≤ 4096) (ha : a + m ≤ n) (ht : t + m ≤ n) :
    Calls Tryz.prog 80 #[.int .i64 i, .pointer (some ⟨pt, 0, none⟩), .pointer (some ⟨pr, 0, none⟩), .pointer (some ⟨pm, 0, none⟩), .pointer (some ⟨pa, 0, none⟩)] w fun e w' => e = .returned (.int .i64 (movF a m t i)) ∧ w = w' := by
  obtain ⟨ct, cr, cm, ca⟩ := h
  by_cases h1 : i < t
  · have q1 : (i : Int) < (t : Int) := by omega
    have K := Lib.hid (moved1_any w pa pm a m i (by omega) (by omega) (by omega) ca cm)
    rw [show movF a m t i = restF a m i from if_pos h1]
    generalize restF a m i = x at *
    go_enter Tryz.func80, Tryz.ntmps80
    go_wp2_with fail
    refine (K.out).mono ?_
    rintro e w' ⟨rfl, rfl⟩
    go_wp2_with fail
    go_ret
    exact ⟨rfl, rfl⟩
  · have q1 : ¬ (i : Int) < (t : Int) := by omega
    by_cases h2 : i < t + m
    · have q2 : (i : Int) < (t : Int) + (m : Int) := by omega
      have e : ((movF a m t i : Nat) : Int) = (a : Int) + (i : Int) - (t : Int) := by unfold movF; rw [if_neg h1, if_pos h2]; omega
      rw [e]
      go_enter Tryz.func80, Tryz.ntmps80
      go_wp2_with fail
      go_ret
      exact ⟨rfl, rfl⟩
    · have q2 : ¬ (i : Int) < (t : Int) + (m : Int) := by omega
      have K := Lib.hid (moved1_any w pa pm a m (i - m) (by omega) (by omega) (by omega) ca cm)
      rw [show movF a m t i = restF a m (i - m) from by unfold movF; rw [if_neg h1, if_neg h2]]
      generalize restF a m (i - m) = x at *
      rw [show ((i - m : Nat) : Int) = (i : Int) - (m : Int) by omega] at K
      go_enter Tryz.func80, Tryz.ntmps80
      go_wp2_with fail
      refine (K.out).mono ?_
      rintro e w' ⟨rfl, rfl⟩
      go_wp2_with fail
      go_ret
      exact ⟨rfl, rfl⟩
set_option maxRecDepth 100000 in
set_option maxHeartbeats 3200000 in
theorem madeMoved (w : World) (pt pr pm pa : Nat) (n : Nat) (hn : n ≤ 4096) (old : Int) (F : Nat → Int) (hF : ∀ i, i < n → ∀ W, Below w.heap.size w W → Calls Tryz.prog 80 #[.int .i64 i, .pointer (some ⟨pt, 0, none⟩), .pointer (some ⟨pr, 0, none⟩), .pointer (some ⟨pm, 0, none⟩), .pointer (some ⟨pa, 0, none⟩)] W fun e w' => e = .returned (.int .i64 (F i)) ∧ Drawn W w') :
    Calls Tryz.prog 75 #[.int .i64 old, .int .i64 n, .func (.func 80) #[] #[.pointer (some ⟨pt, 0, none⟩), .pointer (some ⟨pr, 0, none⟩), .pointer (some ⟨pm, 0, none⟩), .pointer (some ⟨pa, 0, none⟩)]] w fun e w' => ∃ A, e = .returned (.tuple #[.agg #[.int .i64 old, .slice A n n], .int .i64 0]) ∧ (Sees w' w'.heap.size A n (i64s F) ∧ ∀ b, A.map (·.block) = some b → w.heap.size ≤ b) ∧ Below w.heap.size w w' := by
  have HF := Lib.hid hF
  clear hF
  by_cases h0 : n = 0
  · subst h0
    clear HF
    have FIN : Hid (∀ W : World, Below w.heap.size w W → True) := fun _ _ => trivial
    go_enter Tryz.func75, Tryz.ntmps75
    go_wp2_with fail
    go_loopw [20] (fun i wr => i = .int .i64 0 ∧ wr.cell? ⟨w.heap.size + 1, 0, none⟩ = some (.int .i64 old) ∧ wr.cell? ⟨w.heap.size + 1, 1, none⟩ = some (.slice none 0 0) ∧ Hid (wr.rowIs w.heap.size 64 2 (rmc 0 none 0)) ∧ Hid (Below w.heap.size w wr)) (fun _ _ => 0)
    case atStart =>
      refine ⟨rfl, ?_, ?_, ?_, ?_⟩
      · exact (rm_cells (by have := rm_new (w.alloc (.cells #[.int .i64 0, .slice none 0 0] 64)) old none 0; rw [World.size_alloc] at this; exact this)).1
      · exact (rm_cells (by have := rm_new (w.alloc (.cells #[.int .i64 0, .slice none 0 0] 64)) old none 0; rw [World.size_alloc] at this; exact this)).2.1
      · exact row_alloc (rm_new w 0 none 0) _
      · exact ((Below.refl _ w).alloc (Nat.le_refl _) _).alloc (by simp) _
    case round =>
      obtain ⟨rfl, c0, c1, hR, hB⟩ := hrel
      obtain ⟨d0, d1, df, dl⟩ := rm_cells hR.out
      have BF : Hid (Below w.heap.size w ((wr.setCell ⟨w.heap.size, 0, none⟩ (.int .i64 old)).setCell ⟨w.heap.size, 1, none⟩ (.slice none 0 0))) := (hB.out.setCell (p := ⟨w.heap.size, 0, none⟩) (Nat.le_refl _) _).setCell (p := ⟨w.heap.size, 1, none⟩) (Nat.le_refl _) _
      clear hR hB
      go_wp2_with fail
      exact bodyPost_ret (v := .tuple #[.agg #[.int .i64 old, .slice none 0 0], .int .i64 0]) (by simp [results, Tryz.results75, go_sem, d0, d1, df]) rfl ⟨none, rfl, ⟨fun h => absurd h (by omega), fun b hb => by cases hb⟩, BF.out⟩
  · have h1 : (0 : Int) < (n : Int) := by omega
    have h1' : 0 < n := by omega
    have mk := make_ints n (by omega)
    have ST : Hid (((((w.alloc (.cells #[.int .i64 0, .slice none 0 0] 64)).alloc (.cells #[.int .i64 old, .slice (some ⟨w.heap.size + 1 + 1, 0, none⟩) n n] 64)).alloc (.cells (madeCells #[.int .i64 0] n) 3)).rowIs (w.heap.size + 1) 64 2 (rmc old (some ⟨w.heap.size + 1 + 1, 0, none⟩) n)) ∧ ((((w.alloc (.cells #[.int .i64 0, .slice none 0 0] 64)).alloc (.cells #[.int .i64 old, .slice (some ⟨w.heap.size + 1 + 1, 0, none⟩) n n] 64)).alloc (.cells (madeCells #[.int .i64 0] n) 3)).rowIs w.heap.size 64 2 (rmc 0 none 0)) ∧ ((((w.alloc (.cells #[.int .i64 0, .slice none 0 0] 64)).alloc (.cells #[.int .i64 old, .slice (some ⟨w.heap.size + 1 + 1, 0, none⟩) n n] 64)).alloc (.cells (madeCells #[.int .i64 0] n) 3)).rowIs (w.heap.size + 1 + 1) 3 n (i64s fun j => if j < 0 then F j else 0)) ∧ Below w.heap.size w (((w.alloc (.cells #[.int .i64 0, .slice none 0 0] 64)).alloc (.cells #[.int .i64 old, .slice (some ⟨w.heap.size + 1 + 1, 0, none⟩) n n] 64)).alloc (.cells (madeCells #[.int .i64 0] n) 3))) := by
      have r1 := rm_new (w.alloc (.cells #[.int .i64 0, .slice none 0 0] 64)) old (some ⟨w.heap.size + 1 + 1, 0, none⟩) n
      have r2 := World.rowIs_made ((w.alloc (.cells #[.int .i64 0, .slice none 0 0] 64)).alloc (.cells #[.int .i64 old, .slice (some ⟨w.heap.size + 1 + 1, 0, none⟩) n n] 64)) (.int .i64 0) n 3
      simp only [World.size_alloc] at r1 r2
      refine ⟨row_alloc r1 _, row_alloc (row_alloc (rm_new w 0 none 0) _) _, r2.congr fun j hj => ?_, (((Below.refl _ w).alloc (Nat.le_refl _) _).alloc (by simp) _).alloc (by simp; omega) _⟩
      show Value.int .i64 0 = .int .i64 (if j < 0 then F j else 0)
      rw [if_neg (by omega)]
    go_enter Tryz.func75, Tryz.ntmps75
    go_wp2_with fail
    clear mk
    go_loopw [20] (fun iv wr => ∃ k : Nat, k ≤ n ∧ iv = .int .i64 k ∧ Hid (wr.rowIs (w.heap.size + 1) 64 2 (rmc old (some ⟨w.heap.size + 1 + 1, 0, none⟩) n) ∧ wr.rowIs w.heap.size 64 2 (rmc 0 none 0) ∧ wr.rowIs (w.heap.size + 1 + 1) 3 n (i64s fun j => if j < k then F j else 0) ∧ Below w.heap.size w wr)) (fun iv _ => n - (intOf iv).toNat)
    case atStart => exact ⟨0, Nat.zero_le _, rfl, ST⟩
    case round =>
      obtain ⟨k, hk, rfl, hR⟩ := hrel
      clear ST
      obtain ⟨q1, q2, q3, q4⟩ := hR.out
      by_cases hlt : k < n
      · have hki : (k : Int) < (n : Int) := by omega
        obtain ⟨c0, c1, cf, cl⟩ := rm_cells q1
        have g0 := q3.cell (i := k) hlt
        have gf := fun i => q3.frozen i
        have gl := q3.lt
        rw [i64s_at] at g0
        have KF : Hid (∀ d, Calls Tryz.prog 80 #[.int .i64 k, .pointer (some ⟨pt, 0, none⟩), .pointer (some ⟨pr, 0, none⟩), .pointer (some ⟨pm, 0, none⟩), .pointer (some ⟨pa, 0, none⟩)] (wr.drewN d) fun e w' => e = .returned (.int .i64 (F k)) ∧ Drawn (wr.drewN d) w') := fun d => HF.out k hlt _ (Go.below_drewN q4 d)
        have x1 : ¬ w.heap.size + 1 = w.heap.size + 1 + 1 := by omega
        have S0 : Hid (Fr (fun x => x = w.heap.size + 1 + 1) wr wr.drew) := (Fr.refl _ _).drawn ⟨1, rfl⟩
        clear q1 q2 q3 q4
        go_wp2_with fail
        refine wp_region_plan [(false, 0), (false, 1), (false, 2), (false, 3), (false, 4), (true, 5), (false, 6), (true, 7)] (Fr (fun x => x = w.heap.size + 1 + 1) wr) (by kernel_rfl) (by kernel_rfl) (S0.out) _ (by simp only [pickH, List.getElem?_toArray, List.getElem?_cons_succ, List.getElem?_cons_zero]; rfl) ?_
        repeat (refine HWalk.step (fun K hK => ?_); first | (apply held_yes; (focus rfl); (focus (intro w' hw; have hc' := fr_cells hw; go_simp; rfl)); (go_simp; refine hK _ ?_; clear hK K)) | (refine ite_no (by decide) ?_; go_simp; refine hK _ ?_; clear hK K))
        refine HWalk.mark ?_
        go_wp2_with fail
        refine (KF.out 1).mono ?_
        rintro e W2 ⟨rfl, hd⟩
        have D2 : Drawn wr W2 := Drawn.trans ⟨1, rfl⟩ hd
        have S2 : Hid (Fr (fun x => x = w.heap.size + 1 + 1) wr W2) := (Fr.refl _ _).drawn D2
        have R2 : Hid (W2.rowIs (w.heap.size + 1) 64 2 (rmc old (some ⟨w.heap.size + 1 + 1, 0, none⟩) n) ∧ W2.rowIs w.heap.size 64 2 (rmc 0 none 0) ∧ W2.rowIs (w.heap.size + 1 + 1) 3 n (i64s fun j => if j < k then F j else 0) ∧ Below w.heap.size w W2) := by
          obtain ⟨q1, q2, q3, q4⟩ := hR.out
          obtain ⟨d, rfl⟩ := D2
          exact ⟨q1, q2, q3, Go.below_drewN q4 d⟩
        have FIN : Hid ((W2.setCell ⟨w.heap.size + 1 + 1, k, none⟩ (.int .i64 (F k))).rowIs (w.heap.size + 1) 64 2 (rmc old (some ⟨w.heap.size + 1 + 1, 0, none⟩) n) ∧ (W2.setCell ⟨w.heap.size + 1 + 1, k, none⟩ (.int .i64 (F k))).rowIs w.heap.size 64 2 (rmc 0 none 0) ∧ (W2.setCell ⟨w.heap.size + 1 + 1, k, none⟩ (.int .i64 (F k))).rowIs (w.heap.size + 1 + 1) 3 n (i64s fun j => if j < k + 1 then F j else 0) ∧ Below w.heap.size w (W2.setCell ⟨w.heap.size + 1 + 1, k, none⟩ (.int .i64 (F k)))) := by
          obtain ⟨q1, q2, q3, q4⟩ := R2.out
          refine ⟨row_past q1 (by omega) _, row_past q2 (by omega) _, (q3.set k (.int .i64 (F k))).congr fun j hj => ?_, q4.setCell (p := ⟨w.heap.size + 1 + 1, k, none⟩) (by show w.heap.size ≤ w.heap.size + 1 + 1; omega) _⟩
          show (if j = k then Value.int .i64 (F k) else .int .i64 (if j < k then F j else 0)) = .int .i64 (if j < k + 1 then F j else 0)
          by_cases e : j = k
          · rw [if_pos e, if_pos (by omega), e]
          · rw [if_neg e]
            by_cases e2 : j < k
            · rw [if_pos e2, if_pos (by omega)]
            · rw [if_neg e2, if_neg (by omega)]
        have h0 := R2.out.2.2.1.cell (i := k) hlt
        have h1 := fun i => R2.out.2.2.1.frozen i
        rw [i64s_at] at h0
        clear hR c0 c1 cf cl g0 gf gl KF S0 D2 hd
        go_wp2_with fail
        refine ⟨S2.out, ?_⟩
        repeat (refine HWalk.step (fun K hK => ?_); first | (apply held_yes; (focus rfl); (focus (intro w' hw; have hc' := fr_cells hw; go_simp; rfl)); (go_simp; refine hK _ ?_; clear hK K)) | (refine ite_no (by decide) ?_; go_simp; refine hK _ ?_; clear hK K))
        clear R2
        refine HWalk.mark ?_
        go_wp2_with fail
        refine ⟨((Fr.setCell (S := fun x => x = w.heap.size + 1 + 1) S2.out (p := ⟨w.heap.size + 1 + 1, k, none⟩) rfl _)), ?_⟩
        repeat (refine HWalk.step (fun K hK => ?_); first | (apply held_yes; (focus rfl); (focus (intro w' hw; have hc' := fr_cells hw; go_simp; rfl)); (go_simp; refine hK _ ?_; clear hK K)) | (refine ite_no (by decide) ?_; go_simp; refine hK _ ?_; clear hK K))
        refine HWalk.done ?_
        go_wp2_with fail
        go_roundw
        case rel => exact ⟨k + 1, by omega, by go_num, FIN⟩
        case measure => simp [intOf]; omega
      · obtain rfl : n = k := by omega
        obtain ⟨q1, q2, q3, q4⟩ := hR.out
        obtain ⟨c0, c1, cf, cl⟩ := rm_cells q1
        obtain ⟨d0, d1, df, dl⟩ := rm_cells q2
        have FIN : Hid (Sees ((wr.setCell ⟨w.heap.size, 0, none⟩ (.int .i64 old)).setCell ⟨w.heap.size, 1, none⟩ (.slice (some ⟨w.heap.size + 1 + 1, 0, none⟩) n n)) ((wr.setCell ⟨w.heap.size, 0, none⟩ (.int .i64 old)).setCell ⟨w.heap.size, 1, none⟩ (.slice (some ⟨w.heap.size + 1 + 1, 0, none⟩) n n)).heap.size (some ⟨w.heap.size + 1 + 1, 0, none⟩) n (i64s F) ∧ Below w.heap.size w ((wr.setCell ⟨w.heap.size, 0, none⟩ (.int .i64 old)).setCell ⟨w.heap.size, 1, none⟩ (.slice (some ⟨w.heap.size + 1 + 1, 0, none⟩) n n))) :=
          ⟨(Sees.row (row_past (row_past q3 (by omega) _) (by omega) _) (Nat.le_refl _)).congr fun j hj => by
            show Value.int .i64 (if j < n then F j else 0) = .int .i64 (F j)
            rw [if_pos hj], (q4.setCell (p := ⟨w.heap.size, 0, none⟩) (Nat.le_refl _) _).setCell (p := ⟨w.heap.size, 1, none⟩) (Nat.le_refl _) _⟩
        clear hR q1 q2 q3 q4
        go_wp2_with fail
        exact bodyPost_ret (v := .tuple #[.agg #[.int .i64 old, .slice (some ⟨w.heap.size + 1 + 1, 0, none⟩) n n], .int .i64 0]) (by simp [results, Tryz.results75, go_sem, d0, d1, df]) rfl ⟨_, rfl, ⟨FIN.out.1, fun b hb => by injection hb with hb; show w.heap.size ≤ b; rw [← hb]; show w.heap.size ≤ w.heap.size + 1 + 1; omega⟩, FIN.out.2⟩
set_option maxRecDepth 100000 in
set_option maxHeartbeats 3200000 in
theorem moved_ok (w : World) (n a m t : Nat) (hn : n ≤ 4096) (ha : a + m ≤ n) (ht : t + m ≤ n) :
    Calls Tryz.prog 26 #[.int .i64 n, .int .i64 a, .int .i64 m, .int .i64 t] w fun e w' => ∃ A, e = .returned (.tuple #[.agg #[.int .i64 n, .slice A n n], .int .i64 0]) ∧ Sees w' w'.heap.size A n (i64s fun i => movF a m t i) ∧ Below w.heap.size w w' := by
  have h1 : ¬ (t : Int) < 0 := by omega
  have h2 : ¬ (n : Int) - (m : Int) < (t : Int) := by omega
  have K1 : Hid (∀ W, Calls Tryz.prog 74 #[.int .i64 n] W fun e w' => e = .returned (.bool false) ∧ W = w') := fun W => rwrong_any W n hn
  have K2 : Hid (∀ W, Calls Tryz.prog 78 #[.int .i64 n, .int .i64 a, .int .i64 m] W fun e w' => e = .returned (.bool false) ∧ W = w') := fun W => routside_any W n a m hn ha
  obtain ⟨WM, eWM⟩ : ∃ W, W = ((((w.alloc (.cells #[.int .i64 a] 3)).alloc (.cells #[.int .i64 m] 3)).alloc (.cells #[.int .i64 t] 3)).alloc (.cells #[.int .i64 0, .slice none 0 0] 64)).alloc (.cells #[.func (.func 79) #[] #[.pointer (some ⟨w.heap.size, 0, none⟩), .pointer (some ⟨w.heap.size + 1, 0, none⟩)]] 143) := ⟨_, rfl⟩
  have FM : MC WM (w.heap.size + 1 + 1) (w.heap.size + 1 + 1 + 1 + 1) (w.heap.size + 1) w.heap.size a m t ∧ WM.rowIs (w.heap.size + 1 + 1 + 1) 64 2 (rmc 0 none 0) ∧ Below w.heap.size w WM ∧ WM.heap.size = w.heap.size + 5 := by
    rw [eWM]
    have one : ∀ (W : World) (v : Value) (t : TypeId), (W.alloc (.cells #[v] t)).rowIs W.heap.size t 1 (fun _ => v) := fun W v t => World.rowIs_alloc W #[v] t _ (fun j hj => by
      have : j = 0 := by simp at hj; omega
      subst this; rfl)
    have r1 := one w (.int .i64 a) 3
    have r2 := one (w.alloc (.cells #[.int .i64 a] 3)) (.int .i64 m) 3
    have r3 := one ((w.alloc (.cells #[.int .i64 a] 3)).alloc (.cells #[.int .i64 m] 3)) (.int .i64 t) 3
    have r4 := rm_new (((w.alloc (.cells #[.int .i64 a] 3)).alloc (.cells #[.int .i64 m] 3)).alloc (.cells #[.int .i64 t] 3)) 0 none 0
    have r5 := one ((((w.alloc (.cells #[.int .i64 a] 3)).alloc (.cells #[.int .i64 m] 3)).alloc (.cells #[.int .i64 t] 3)).alloc (.cells #[.int .i64 0, .slice none 0 0] 64)) (.func (.func 79) #[] #[.pointer (some ⟨w.heap.size, 0, none⟩), .pointer (some ⟨w.heap.size + 1, 0, none⟩)]) 143
    simp only [World.size_alloc] at r2 r3 r4 r5
    exact ⟨⟨(row_alloc (row_alloc r3 _) _).cell (i := 0) (by omega), r5.cell (i := 0) (by omega), (row_alloc (row_alloc (row_alloc r2 _) _) _).cell (i := 0) (by omega), (row_alloc (row_alloc (row_alloc (row_alloc r1 _) _) _) _).cell (i := 0) (by omega)⟩, row_alloc r4 _, (((((Below.refl _ w).alloc (Nat.le_refl _) _).alloc (by simp) _).alloc (by simp; omega) _).alloc (by simp; omega) _).alloc (by simp; omega) _, by simp⟩
  obtain ⟨M1, M2, M3, M4⟩ := FM
  have KM := Lib.hid (madeMoved WM (w.heap.size + 1 + 1) (w.heap.size + 1 + 1 + 1 + 1) (w.heap.size + 1) w.heap.size n hn n (fun i => movF a m t i) (fun i hi W hb => (moved2_any W (w.heap.size + 1 + 1) (w.heap.size + 1 + 1 + 1 + 1) (w.heap.size + 1) w.heap.size a m t i n ⟨(hb.cell (p := ⟨w.heap.size + 1 + 1, 0, none⟩) (by show w.heap.size + 1 + 1 < _; omega)).trans M1.ct, (hb.cell (p := ⟨w.heap.size + 1 + 1 + 1 + 1, 0, none⟩) (by show w.heap.size + 1 + 1 + 1 + 1 < _; omega)).trans M1.cr, (hb.cell (p := ⟨w.heap.size + 1, 0, none⟩) (by show w.heap.size + 1 < _; omega)).trans M1.cm, (hb.cell (p := ⟨w.heap.size, 0, none⟩) (by show w.heap.size < _; omega)).trans M1.ca⟩ hi hn ha ht).mono fun e w' ⟨x, y⟩ => ⟨x, by rw [← y]; exact Drawn.refl _⟩))
  have R2 := Lib.hid M2
  have R3 := Lib.hid M3
  have EW := Lib.hid eWM
  have MS := Lib.hid M4
  clear M1 M2 M3 M4 eWM
  go_enter Tryz.func26, Tryz.ntmps26
  go_wp2_with fail
  refine (K1.out _).mono ?_
  rintro e w' ⟨rfl, rfl⟩
  go_wp2_with fail
  refine (K2.out _).mono ?_
  rintro e w' ⟨rfl, rfl⟩
  go_wp2_with fail
  rw [← EW.out]
  refine (KM.out).mono ?_
  rintro e w2 ⟨A, rfl, ⟨hs, hA⟩, hb⟩
  have sz := MS.out
  have Q2 := R2.out.of_block (hb.block _ R2.out.lt)
  obtain ⟨d0, d1, df, dl⟩ := rm_cells Q2
  have B2 := R3.out.trans (hb.mono R3.out.size)
  have FIN : Hid (Sees ((w2.setCell ⟨w.heap.size + 1 + 1 + 1, 0, none⟩ (.int .i64 n)).setCell ⟨w.heap.size + 1 + 1 + 1, 1, none⟩ (.slice A n n)) ((w2.setCell ⟨w.heap.size + 1 + 1 + 1, 0, none⟩ (.int .i64 n)).setCell ⟨w.heap.size + 1 + 1 + 1, 1, none⟩ (.slice A n n)).heap.size A n (i64s fun i => movF a m t i) ∧ Below w.heap.size w ((w2.setCell ⟨w.heap.size + 1 + 1 + 1, 0, none⟩ (.int .i64 n)).setCell ⟨w.heap.size + 1 + 1 + 1, 1, none⟩ (.slice A n n))) := by
    refine ⟨fun h0 => ?_, (B2.setCell (p := ⟨w.heap.size + 1 + 1 + 1, 0, none⟩) (by show w.heap.size ≤ w.heap.size + 1 + 1 + 1; omega) _).setCell (p := ⟨w.heap.size + 1 + 1 + 1, 1, none⟩) (by show w.heap.size ≤ w.heap.size + 1 + 1 + 1; omega) _⟩
    obtain ⟨b, o, e, h1, h2⟩ := hs h0
    have hne : b ≠ w.heap.size + 1 + 1 + 1 := by
      have := hA b (by rw [e]; rfl)
      omega
    refine ⟨b, o, e, by simp [World.setCell]; exact h1, fun j hj => ?_⟩
    rw [World.cell?_of_block (w := w2) (by rw [Below.heap_setCell _ _ _ _ hne, Below.heap_setCell _ _ _ _ hne])]
    exact h2 j hj
  clear hs hb Q2 B2 KM R2 R3 EW sz
  go_wp2_with fail
  exact bodyPost_ret (v := .tuple #[.agg #[.int .i64 n, .slice A n n], .int .i64 0]) (by simp [results, Tryz.results26, go_sem, d0, d1, df]) rfl ⟨_, rfl, FIN.out⟩
end Go.Proofs.YtfmfmeiaekknbaaGreat
end

section
/-
  Plainly: the moves of rises, carried out one by one, make the old order the new one; how many they are.
-/
namespace Go.Proofs.YtfmfmeiaekknbaaGreat
set_option linter.unusedVariables false

/-- Lists, from the end. -/
theorem snocInd {α : Type} {motive : List α → Prop} (nil : motive []) (snoc : ∀ (I : List α) (i : α), motive I → motive (I ++ [i])) (I : List α) : motive I := by
  have h : ∀ J : List α, motive J.reverse := by
    intro J
    induction J with
    | nil => exact nil
    | cons x J ih => rw [List.reverse_cons]; exact snoc _ _ ih
  have := h I.reverse
  rwa [List.reverse_reverse] at this
/-- Where a place lies behind a move of one element from place a to place t. -/
def newF (a t x : Nat) : Nat := if x = a then t else if (if x < a then x else x - 1) < t then (if x < a then x else x - 1) else (if x < a then x else x - 1) + 1
/-- F lists the places below n, and G says where each one stands. -/
structure Pair (n : Nat) (F G : Nat → Nat) : Prop where
  fl : ∀ i, i < n → F i < n
  gl : ∀ i, i < n → G i < n
  fg : ∀ i, i < n → F (G i) = i
  gf : ∀ i, i < n → G (F i) = i
theorem Pair.id (n : Nat) : Pair n (fun i => i) (fun i => i) := ⟨fun _ h => h, fun _ h => h, fun _ _ => rfl, fun _ _ => rfl⟩
theorem newF_lt {n a t x : Nat} (ha : a < n) (ht : t < n) (hx : x < n) : newF a t x < n := by unfold newF; split <;> (try split) <;> (try split) <;> omega
theorem mov1_lt {n a t x : Nat} (ha : a < n) (ht : t < n) (hx : x < n) : movF a 1 t x < n := by unfold movF restF; split <;> (try split) <;> (try split) <;> omega
theorem mov_new {n a t x : Nat} (_ : a < n) (_ : t < n) (_ : x < n) : movF a 1 t (newF a t x) = x := by
  unfold movF restF newF
  by_cases h1 : x = a
  · rw [if_pos h1, if_neg (by omega), if_pos (by omega)]; omega
  · rw [if_neg h1]
    by_cases h2 : x < a
    · rw [if_pos h2]
      by_cases h3 : x < t
      · rw [if_pos h3, if_pos h3, if_pos h2]
      · rw [if_neg h3, if_neg (by omega), if_neg (by omega), Nat.add_sub_cancel, if_pos h2]
    · rw [if_neg h2]
      by_cases h3 : x - 1 < t
      · rw [if_pos h3, if_pos h3, if_neg (by omega)]; omega
      · rw [if_neg h3, if_neg (by omega), if_neg (by omega), Nat.add_sub_cancel, if_neg (by omega)]; omega
theorem newF_lo' {a t x : Nat} (h : x < a) : newF a t x = if x < t then x else x + 1 := by unfold newF; rw [if_neg (show ¬ x = a by omega), if_pos h]
theorem newF_hi' {a t x : Nat} (h : a < x) : newF a t x = if x - 1 < t then x - 1 else x - 1 + 1 := by unfold newF; rw [if_neg (show ¬ x = a by omega), if_neg (show ¬ x < a by omega)]
theorem newF_at {a t : Nat} : newF a t a = t := by unfold newF; rw [if_pos rfl]
theorem new_mov {n a t x : Nat} (_ : a < n) (_ : t < n) (_ : x < n) : newF a t (movF a 1 t x) = x := by
  unfold movF restF
  by_cases h1 : x < t
  · rw [if_pos h1]
    by_cases h2 : x < a
    · rw [if_pos h2, newF_lo' h2, if_pos h1]
    · rw [if_neg h2, newF_hi' (by omega), Nat.add_sub_cancel, if_pos h1]
  · rw [if_neg h1]
    by_cases h2 : x < t + 1
    · rw [if_pos h2, show a + x - t = a by omega, newF_at]; omega
    · rw [if_neg h2]
      by_cases h3 : x - 1 < a
      · rw [if_pos h3, newF_lo' h3, if_neg (by omega)]; omega
      · rw [if_neg h3, newF_hi' (by omega), Nat.add_sub_cancel, if_neg (by omega)]; omega
theorem Pair.mov {n a t : Nat} {F G : Nat → Nat} (h : Pair n F G) (ha : a < n) (ht : t < n) : Pair n (fun j => F (movF a 1 t j)) (fun x => newF a t (G x)) :=
  ⟨fun i hi => h.fl _ (mov1_lt ha ht hi), fun i hi => newF_lt ha ht (h.gl i hi), fun i hi => by show F (movF a 1 t (newF a t (G i))) = i; rw [mov_new ha ht (h.gl i hi), h.fg i hi],
   fun i hi => by show newF a t (G (F (movF a 1 t i))) = i; rw [h.gf _ (mov1_lt ha ht hi), new_mov ha ht hi]⟩
theorem newF_mono {a t x y : Nat} (hx : x ≠ a) (hy : y ≠ a) (h : x < y) : newF a t x < newF a t y := by
  unfold newF
  rw [if_neg hx, if_neg hy]
  by_cases h1 : x < a
  · rw [if_pos h1]
    by_cases h2 : y < a
    · rw [if_pos h2]; split <;> (split <;> omega)
    · rw [if_neg h2]; split <;> (split <;> omega)
  · rw [if_neg h1, if_neg (show ¬ y < a by omega)]; split <;> (split <;> omega)
/-- The place ahead of which an element is put that lies at a, when the one behind lies at k. -/
def toF (n i a k : Nat) : Nat := if i + 1 = n then n - 1 else if a < k then k - 1 else k
theorem toF_lt {n i a k : Nat} (hn : 0 < n) (hk : i + 1 < n → k < n) (hi : i < n) : toF n i a k < n := by
  unfold toF
  by_cases h : i + 1 = n
  · rw [if_pos h]; omega
  · rw [if_neg h]; have := hk (by omega); split <;> omega
theorem newF_lo {n i a k x : Nat} (ha : a < n) (hx : x < n) (hne : x ≠ a) (h : i + 1 = n ∨ x < k) : newF a (toF n i a k) x < toF n i a k := by
  unfold newF toF
  rw [if_neg hne]
  by_cases e : i + 1 = n
  · rw [if_pos e]
    by_cases c : x < a
    · rw [if_pos c]; split <;> omega
    · rw [if_neg c]; split <;> omega
  · have hk : x < k := by omega
    rw [if_neg e]
    by_cases c : x < a
    · rw [if_pos c]; by_cases d : a < k
      · rw [if_pos d]; split <;> omega
      · rw [if_neg d]; split <;> omega
    · rw [if_neg c]; by_cases d : a < k
      · rw [if_pos d]; split <;> omega
      · rw [if_neg d]; split <;> omega
theorem newF_hi {n i a k x : Nat} (hne : x ≠ a) (hka : k ≠ a) (e : ¬ i + 1 = n) (h : k ≤ x) : toF n i a k < newF a (toF n i a k) x := by
  unfold newF toF
  rw [if_neg hne, if_neg e]
  by_cases c : x < a
  · rw [if_pos c]; by_cases d : a < k
    · rw [if_pos d]; split <;> omega
    · rw [if_neg d]; split <;> omega
  · rw [if_neg c]; by_cases d : a < k
    · rw [if_pos d]; split <;> omega
    · rw [if_neg d]; split <;> omega

/-- A step, by the place in the new order of what it moves. -/
def stepF (n : Nat) (pos : Nat → Nat) (s : (Nat → Nat) × (Nat → Nat)) (i : Nat) : (Nat → Nat) × (Nat → Nat) :=
  (fun j => s.1 (movF (s.2 (pos i)) 1 (toF n i (s.2 (pos i)) (s.2 (pos (i + 1)))) j), fun x => newF (s.2 (pos i)) (toF n i (s.2 (pos i)) (s.2 (pos (i + 1)))) (s.2 x))
def runF (n : Nat) (pos : Nat → Nat) (I : List Nat) : (Nat → Nat) × (Nat → Nat) := I.foldl (stepF n pos) (fun i => i, fun i => i)
theorem runF_snoc (n : Nat) (pos : Nat → Nat) (I : List Nat) (i : Nat) : runF n pos (I ++ [i]) = stepF n pos (runF n pos I) i := by simp [runF, List.foldl_append]
theorem stepF_pair {n : Nat} {pos : Nat → Nat} (hp : ∀ i, i < n → pos i < n) {s : (Nat → Nat) × (Nat → Nat)} (h : Pair n s.1 s.2) {i : Nat} (hi : i < n) : Pair n (stepF n pos s i).1 (stepF n pos s i).2 :=
  h.mov (h.gl _ (hp i hi)) (toF_lt (by omega) (fun h1 => h.gl _ (hp _ h1)) hi)
theorem runF_pair {n : Nat} {pos : Nat → Nat} (hp : ∀ i, i < n → pos i < n) : ∀ I : List Nat, (∀ i ∈ I, i < n) → Pair n (runF n pos I).1 (runF n pos I).2 := by
  intro I
  induction I using snocInd with
  | nil => intro _; exact Pair.id n
  | snoc I i ih => intro h; rw [runF_snoc]; exact stepF_pair hp (ih fun j hj => h j (by simp [hj])) (h i (by simp))
/-- The places whose elements Moves moves, in its order, of the last j ones; how many kept ones are left. -/
def idx (r : Nat → Nat) (q n : Nat) : Nat → Nat × List Nat
  | 0 => (q, [])
  | j + 1 => if 0 < (idx r q n j).1 ∧ r ((idx r q n j).1 - 1) = n - 1 - j then ((idx r q n j).1 - 1, (idx r q n j).2) else ((idx r q n j).1, (idx r q n j).2 ++ [n - 1 - j])
def stOf (m : Nat → Int) (n i : Nat) : Int × Int := (m i, if i + 1 = n then -1 else m (i + 1))
theorem mst_idx (m : Nat → Int) (r : Nat → Nat) (q n : Nat) : ∀ j, j ≤ n → mst r q (bk m n j) = ((idx r q n j).1, (idx r q n j).2.map (stOf m n), if j = 0 then -1 else m (n - j)) := by
  intro j
  induction j with
  | zero => intro _; rfl
  | succ j ih =>
    intro hj
    rw [bk_succ, mst_snoc, ih (by omega)]
    unfold mstep
    show (if 0 < (idx r q n j).1 ∧ ((r ((idx r q n j).1 - 1) : Nat) : Int) = ((n - 1 - j : Nat) : Int) then _ else _) = _
    have e : idx r q n (j + 1) = if 0 < (idx r q n j).1 ∧ r ((idx r q n j).1 - 1) = n - 1 - j then ((idx r q n j).1 - 1, (idx r q n j).2) else ((idx r q n j).1, (idx r q n j).2 ++ [n - 1 - j]) := rfl
    rw [e, if_neg (show ¬ j + 1 = 0 by omega), show n - 1 - j = n - (j + 1) by omega]
    by_cases c : 0 < (idx r q n j).1 ∧ r ((idx r q n j).1 - 1) = n - (j + 1)
    · rw [if_pos ⟨c.1, by rw [c.2]⟩, if_pos c]
    · rw [if_neg (fun h => c ⟨h.1, by omega⟩), if_neg c]
      simp only [List.map_append, List.map_cons, List.map_nil]
      have e2 : (if j = 0 then (-1 : Int) else m (n - j)) = (stOf m n (n - (j + 1))).2 := by
        unfold stOf
        show _ = if n - (j + 1) + 1 = n then (-1 : Int) else m (n - (j + 1) + 1)
        by_cases c0 : j = 0
        · rw [if_pos c0, if_pos (by omega)]
        · rw [if_neg c0, if_neg (by omega), show n - (j + 1) + 1 = n - j by omega]
      rw [e2]
      rfl
/-- The places of which the order is right behind j rounds. -/
def InS (r : Nat → Nat) (n j left x : Nat) : Prop := n - j ≤ x ∨ ∃ c, c < left ∧ r c = x
/-- What holds behind j rounds. -/
structure Rounds (n : Nat) (pos r : Nat → Nat) (q j : Nat) : Prop where
  le : (idx r q n j).1 ≤ q
  lt : ∀ a, a < (idx r q n j).1 → r a < n - j
  inI : ∀ i ∈ (idx r q n j).2, i < n
  len : (idx r q n j).2.length + q = j + (idx r q n j).1
  ord : ∀ a b, a < b → b < n → InS r n j (idx r q n j).1 a → InS r n j (idx r q n j).1 b → (runF n pos (idx r q n j).2).2 (pos a) < (runF n pos (idx r q n j).2).2 (pos b)
theorem rise_up {l : Nat → Int} {n q : Nat} {r : Nat → Nat} (h : Rise l n q r) : ∀ d a, a + (d + 1) < q → r a < r (a + (d + 1)) ∧ l (r a) < l (r (a + (d + 1))) := by
  intro d
  induction d with
  | zero => intro a ha; exact ⟨h.up a ha, h.num a ha⟩
  | succ d ih =>
    intro a ha
    have h1 := ih a (by omega)
    have h2 := h.up (a + (d + 1)) (by omega)
    have h3 := h.num (a + (d + 1)) (by omega)
    exact ⟨Nat.lt_trans h1.1 h2, Int.lt_trans h1.2 h3⟩
theorem rise_ord {l : Nat → Int} {n q : Nat} {r : Nat → Nat} (h : Rise l n q r) {a b : Nat} (hb : b < q) (ha : a < q) (hr : r a < r b) : l (r a) < l (r b) := by
  have hab : a < b := by
    apply Classical.byContradiction; intro c
    by_cases e : a = b
    · subst e; omega
    · have := (rise_up h (a - b - 1) b (by omega)).1
      rw [show b + (a - b - 1 + 1) = a by omega] at this
      omega
  have := (rise_up h (b - a - 1) a (by omega)).2
  rwa [show a + (b - a - 1 + 1) = b by omega] at this
theorem Rounds.start {n q : Nat} {pos r : Nat → Nat} (hr : Rise (fun i => (pos i : Int)) n q r) : Rounds n pos r q 0 := by
  refine ⟨Nat.le_refl _, fun a ha => ?_, fun i hi => (nomatch hi), rfl, fun a b hab hb ha hb' => ?_⟩
  · have := hr.lt a ha
    omega
  · rcases ha with ha | ⟨c, hc, rfl⟩
    · omega
    · rcases hb' with hb' | ⟨d, hd, rfl⟩
      · omega
      · have := rise_ord hr hd hc hab
        show pos (r c) < pos (r d)
        omega
theorem Rounds.step {n q j : Nat} {pos r : Nat → Nat} (hr : Rise (fun i => (pos i : Int)) n q r) (hp : ∀ i, i < n → pos i < n) (hi : ∀ i k, i < n → k < n → pos i = pos k → i = k) (h : Rounds n pos r q j) (hj : j < n) : Rounds n pos r q (j + 1) := by
  have e : idx r q n (j + 1) = if 0 < (idx r q n j).1 ∧ r ((idx r q n j).1 - 1) = n - 1 - j then ((idx r q n j).1 - 1, (idx r q n j).2) else ((idx r q n j).1, (idx r q n j).2 ++ [n - 1 - j]) := rfl
  have mono : ∀ a b, a < b → b < q → r a < r b := fun a b hab hb => by
    have := (rise_up hr (b - a - 1) a (by omega)).1
    rwa [show a + (b - a - 1 + 1) = b by omega] at this
  by_cases c : 0 < (idx r q n j).1 ∧ r ((idx r q n j).1 - 1) = n - 1 - j
  · rw [if_pos c] at e
    have hle := h.le
    refine ⟨by rw [e]; show _ - 1 ≤ _; omega, fun a ha => ?_, by rw [e]; exact h.inI, ?_, ?_⟩
    · rw [e] at ha
      have ha' : a < (idx r q n j).1 - 1 := ha
      have := mono a ((idx r q n j).1 - 1) ha' (by omega)
      omega
    · rw [e]
      have := h.len
      show (idx r q n j).2.length + q = j + 1 + ((idx r q n j).1 - 1)
      omega
    · intro a b hab hb ha hb'
      rw [e] at ha hb' ⊢
      have cv : ∀ x, InS r n (j + 1) ((idx r q n j).1 - 1) x → InS r n j (idx r q n j).1 x := fun x hx => by
        rcases hx with hx | ⟨d, hd, rfl⟩
        · by_cases c2 : x = n - 1 - j
          · exact .inr ⟨(idx r q n j).1 - 1, by omega, c.2.trans c2.symm⟩
          · exact .inl (by omega)
        · exact .inr ⟨d, by omega, rfl⟩
      exact h.ord a b hab hb (cv a ha) (cv b hb')
  · rw [if_neg c] at e
    have hin : n - 1 - j < n := by omega
    have hlt : ∀ a, a < (idx r q n j).1 → r a < n - 1 - j := fun a ha => by
      have h1 := h.lt a ha
      by_cases c2 : r a = n - 1 - j
      · exfalso
        by_cases c3 : a = (idx r q n j).1 - 1
        · exact c ⟨by omega, by rw [← c3]; exact c2⟩
        · have := mono a ((idx r q n j).1 - 1) (by omega) (by have := h.le; omega)
          have := h.lt ((idx r q n j).1 - 1) (by omega)
          omega
      · omega
    have P := runF_pair hp (idx r q n j).2 h.inI
    have inj : ∀ a b, a < n → b < n → (runF n pos (idx r q n j).2).2 (pos a) = (runF n pos (idx r q n j).2).2 (pos b) → a = b := fun a b ha hb he => by
      have := congrArg (runF n pos (idx r q n j).2).1 he
      rw [P.fg _ (hp a ha), P.fg _ (hp b hb)] at this
      exact hi a b ha hb this
    refine ⟨by rw [e]; exact h.le, fun a ha => ?_, ?_, ?_, ?_⟩
    · rw [e] at ha
      have := hlt a ha
      omega
    · rw [e]
      intro i hi'
      rcases List.mem_append.1 hi' with hi' | hi'
      · exact h.inI i hi'
      · rw [List.mem_singleton.1 hi']; exact hin
    · rw [e]
      have := h.len
      show ((idx r q n j).2 ++ [n - 1 - j]).length + q = j + 1 + (idx r q n j).1
      rw [List.length_append]
      simp only [List.length_cons, List.length_nil]
      omega
    · intro a b hab hb ha hb'
      rw [e] at ha hb' ⊢
      show (runF n pos ((idx r q n j).2 ++ [n - 1 - j])).2 (pos a) < (runF n pos ((idx r q n j).2 ++ [n - 1 - j])).2 (pos b)
      rw [runF_snoc]
      have memS : ∀ x, x ≠ n - 1 - j → InS r n (j + 1) (idx r q n j).1 x → InS r n j (idx r q n j).1 x := fun x hx hm => by
        rcases hm with hm | hm
        · exact .inl (by omega)
        · exact .inr hm
      have ha' : a < n := by omega
      show newF ((runF n pos (idx r q n j).2).2 (pos (n - 1 - j))) _ ((runF n pos (idx r q n j).2).2 (pos a)) < newF ((runF n pos (idx r q n j).2).2 (pos (n - 1 - j))) _ ((runF n pos (idx r q n j).2).2 (pos b))
      by_cases ca : a = n - 1 - j
      · -- what is moved lies ahead of all behind it
        have cb : b ≠ n - 1 - j := by omega
        have en : ¬ n - 1 - j + 1 = n := by omega
        rw [ca]
        rw [show ∀ t, newF ((runF n pos (idx r q n j).2).2 (pos (n - 1 - j))) t ((runF n pos (idx r q n j).2).2 (pos (n - 1 - j))) = t from fun t => by unfold newF; rw [if_pos rfl]]
        refine newF_hi (fun he => cb (inj _ _ hb hin he)) (fun he => by have := inj _ _ (by omega) hin he; omega) en ?_
        by_cases cb2 : b = n - 1 - j + 1
        · rw [cb2]; exact Nat.le_refl _
        · exact Nat.le_of_lt (h.ord _ _ (by omega) hb (.inl (by omega)) (memS b cb hb'))
      · by_cases cb : b = n - 1 - j
        · rw [cb]
          rw [show ∀ t, newF ((runF n pos (idx r q n j).2).2 (pos (n - 1 - j))) t ((runF n pos (idx r q n j).2).2 (pos (n - 1 - j))) = t from fun t => by unfold newF; rw [if_pos rfl]]
          refine newF_lo (P.gl _ (hp _ hin)) (P.gl _ (hp _ ha')) (fun he => ca (inj _ _ ha' hin he)) ?_
          by_cases en : n - 1 - j + 1 = n
          · exact .inl en
          · exact .inr (h.ord _ _ (by omega) (by omega) (memS a ca ha) (.inl (by omega)))
        · exact newF_mono (fun he => ca (inj _ _ ha' hin he)) (fun he => cb (inj _ _ hb hin he)) (h.ord a b hab hb (memS a ca ha) (memS b cb hb'))
theorem Rounds.all {n q : Nat} {pos r : Nat → Nat} (hr : Rise (fun i => (pos i : Int)) n q r) (hp : ∀ i, i < n → pos i < n) (hi : ∀ i k, i < n → k < n → pos i = pos k → i = k) : ∀ j, j ≤ n → Rounds n pos r q j
  | 0, _ => Rounds.start hr
  | j + 1, h => (Rounds.all hr hp hi j (by omega)).step hr hp hi (by omega)
theorem rising_id {n : Nat} {f : Nat → Nat} (h1 : ∀ i, i < n → f i < n) (h2 : ∀ a b, a < b → b < n → f a < f b) : ∀ i, i < n → f i = i := by
  have lo : ∀ i, i < n → i ≤ f i := by
    intro i
    induction i with
    | zero => intro _; exact Nat.zero_le _
    | succ i ih => intro hi; have := h2 i (i + 1) (by omega) hi; have := ih (by omega); omega
  have hi : ∀ d i, i + d + 1 = n → f i ≤ i := by
    intro d
    induction d with
    | zero => intro i e; have := h1 i (by omega); omega
    | succ d ih => intro i e; have := ih (i + 1) (by omega); have := h2 i (i + 1) (by omega) (by omega); omega
  intro i h
  have := lo i h
  have := hi (n - 1 - i) i (by omega)
  omega
/-- The moves, one by one, make the old order the new one. -/
theorem run_all {n q : Nat} {pos r : Nat → Nat} (hr : Rise (fun i => (pos i : Int)) n q r) (hp : ∀ i, i < n → pos i < n) (hi : ∀ i k, i < n → k < n → pos i = pos k → i = k) :
    (∀ i, i < n → (runF n pos (idx r q n n).2).1 i = pos i) ∧ (idx r q n n).2.length + q = n := by
  have R := Rounds.all hr hp hi n (Nat.le_refl _)
  have P := runF_pair hp _ R.inI
  have g : ∀ i, i < n → (runF n pos (idx r q n n).2).2 (pos i) = i := rising_id (fun i h => P.gl _ (hp i h)) (fun a b hab hb => R.ord a b hab hb (.inl (by omega)) (.inl (by omega)))
  have z : (idx r q n n).1 = 0 := by
    apply Classical.byContradiction; intro c
    have := R.lt 0 (by omega)
    omega
  have hl := R.len
  refine ⟨fun i h => ?_, by omega⟩
  have h1 := g i h
  have := congrArg (runF n pos (idx r q n n).2).1 h1
  rw [P.fg _ (hp i h)] at this
  exact this.symm
/-- A move's map: within the list, and no place twice. -/
theorem movF_lt {n a m t i : Nat} (ha : a + m ≤ n) (ht : t + m ≤ n) (hi : i < n) : movF a m t i < n := by
  unfold movF restF
  by_cases h1 : i < t
  · rw [if_pos h1]; split <;> omega
  · rw [if_neg h1]
    by_cases h2 : i < t + m
    · rw [if_pos h2]; omega
    · rw [if_neg h2]; split <;> omega
theorem movF_rest {a m t j : Nat} : movF a m t (if j < t then j else j + m) = restF a m j := by
  unfold movF
  by_cases h : j < t
  · rw [if_pos h, if_pos h]
  · rw [if_neg h, if_neg (by omega), if_neg (by omega), Nat.add_sub_cancel]
theorem movF_mid {a m t j : Nat} (h : j < m) : movF a m t (t + j) = a + j := by
  unfold movF
  rw [if_neg (by omega), if_pos (by omega)]; omega
theorem movF_inj {n a m t i k : Nat} (ha : a + m ≤ n) (ht : t + m ≤ n) (hi : i < n) (hk : k < n) (h : movF a m t i = movF a m t k) : i = k := by
  have part : ∀ x, x < n → (∃ j, j < m ∧ x = t + j ∧ movF a m t x = a + j) ∨ (∃ j, x = (if j < t then j else j + m) ∧ movF a m t x = restF a m j) := fun x hx => by
    by_cases h1 : x < t
    · exact .inr ⟨x, by rw [if_pos h1], by unfold movF; rw [if_pos h1]⟩
    · by_cases h2 : x < t + m
      · exact .inl ⟨x - t, by omega, by omega, by unfold movF; rw [if_neg h1, if_pos h2]; omega⟩
      · exact .inr ⟨x - m, by rw [if_neg (by omega)]; omega, by unfold movF; rw [if_neg h1, if_neg h2]⟩
  rcases part i hi with ⟨j, j1, j2, j3⟩ | ⟨j, j2, j3⟩ <;> rcases part k hk with ⟨q, q1, q2, q3⟩ | ⟨q, q2, q3⟩
  · omega
  · rw [j3, q3] at h
    unfold restF at h
    split at h <;> omega
  · rw [j3, q3] at h
    unfold restF at h
    split at h <;> omega
  · rw [j3, q3] at h
    have e : j = q := by
      unfold restF at h
      by_cases c : j < a
      · rw [if_pos c] at h
        by_cases d : q < a
        · rw [if_pos d] at h; exact h
        · rw [if_neg d] at h; omega
      · rw [if_neg c] at h
        by_cases d : q < a
        · rw [if_pos d] at h; omega
        · rw [if_neg d] at h; omega
    rw [j2, q2, e]
theorem restF_up {a m i k : Nat} (h : i < k) : restF a m i < restF a m k := by
  unfold restF
  by_cases c : i < a
  · rw [if_pos c]; split <;> omega
  · rw [if_neg c, if_neg (by omega)]; omega
/-- A move of a block keeps the block in order, and the rest. -/
theorem mov_rise {n a m t : Nat} (ha : a + m ≤ n) (ht : t + m ≤ n) : Rise (fun i => (movF a m t i : Int)) n m (fun j => t + j) ∧ Rise (fun i => (movF a m t i : Int)) n (n - m) (fun j => if j < t then j else j + m) := by
  refine ⟨⟨fun j hj => by omega, fun j _ => by omega, fun j hj => ?_⟩, ⟨fun j hj => by split <;> omega, fun j _ => by split <;> split <;> omega, fun j hj => ?_⟩⟩
  · show ((movF a m t (t + j) : Nat) : Int) < ((movF a m t (t + (j + 1)) : Nat) : Int)
    rw [movF_mid (by omega), movF_mid hj]; omega
  · show ((movF a m t (if j < t then j else j + m) : Nat) : Int) < ((movF a m t (if j + 1 < t then j + 1 else j + 1 + m) : Nat) : Int)
    rw [movF_rest, movF_rest]
    have := restF_up (a := a) (m := m) (show j < j + 1 by omega)
    omega
theorem few_steps {n a m t q : Nat} {r : Nat → Nat} (ha : a + m ≤ n) (ht : t + m ≤ n) (h : Longest (fun i => (movF a m t i : Int)) n q r) : n ≤ q + m ∧ m ≤ q := by
  have h1 := h.best _ _ (mov_rise ha ht).1
  have h2 := h.best _ _ (mov_rise ha ht).2
  omega
end Go.Proofs.YtfmfmeiaekknbaaGreat
end

section
/-
  Package slices at []int: Index, Contains, Delete of one element, Insert of one element where there is room, Clone.
-/
namespace Go.Proofs.YtfmfmeiaekknbaaGreat
open Go.RowKit Go.Lib
set_option linter.unusedVariables false
set_option linter.unusedSimpArgs false

theorem only_of_fr {w w' : World} {g : Nat} (h : Fr (fun b => (some (⟨g, 0, none⟩ : Addr)).map (·.block) = some b) w w') : Only w w' g :=
  ⟨h.os, h.tape, h.output, h.size, fun b hb hne => h.block b hb (fun e => hne (by injection e with e; rw [show g = b from e]))⟩
theorem fr_of_only {w w' : World} {g : Nat} (h : Only w w' g) : Fr (fun b => b = g) w w' :=
  ⟨h.os, h.tape, h.output, h.size, fun b hb hne => h.block b hb (fun e => hne (by injection e))⟩
/-- append(row[:n], src..) where there is room: in place. -/
theorem append_room (w : World) {P : Program} {t tx e e' : TypeId} {i : TypeInfo} {sz : Nat} (ht : P.underlying t = some (.slice e)) (hi : P.info? e = some i) (hsz : i.size = sz) (h0 : 0 < sz) (hk : P.underlying tx = some (.slice e'))
    {g m : Nat} {f : Nat → Value} (hr : w.rowIs g e m f) (n c k : Nat) (hroom : n + k ≤ c) (hcm : c * sz ≤ m) {A2 : Option Addr} {c2 B2 : Nat} {cs : Nat → Value} (hs : Sees w B2 A2 (k * sz) cs) (h1 : ∀ j, (cs j).oneCell' = true) :
    ∃ w', (∀ ty, (Builtin.append_ #[t, tx] ty #[.slice (some ⟨g, 0, none⟩) n c, .slice A2 k c2]).run P w = .ok (.slice (some ⟨g, 0, none⟩) (n + k) c) w') ∧ w'.rowIs g e m (spliced f (n * sz) (k * sz) cs) ∧ Only w w' g := by
  subst hsz
  have hsrc := src_of w hk A2 k c2 B2 cs hs h1 h0
  have hl : ((List.range (k * i.size)).map cs).length = k * i.size := by simp
  by_cases k0 : k = 0
  · subst k0
    refine ⟨w, fun ty => ?_, hr.congr fun j _ => by unfold spliced; rw [if_neg (by omega)], Only.refl _ _⟩
    refine run_append_nothing w t tx ty e i ht hi (some ⟨g, 0, none⟩) n c (by omega) _ ?_
    simpa using hsrc
  · have hle : (n + k) * i.size ≤ c * i.size := Nat.mul_le_mul_right _ hroom
    rw [Nat.add_mul] at hle
    refine ⟨_, fun ty => run_append_room_src w t tx ty e i ht hi g 0 n c _ k _ hsrc hroom (fun j hj => ?_) (fun j hj => hr.frozen _), (rowIs_setCells _ _ _ _ hr).congr fun j hj => ?_, only_of_fr (fr_setCells _ _ _ _)⟩
    · rw [hl] at hj
      rw [hr.cell (by omega)]; rfl
    · rw [Nat.zero_add]
      unfold spliced
      by_cases d : n * i.size ≤ j
      · rw [if_pos d]
        by_cases d2 : j < n * i.size + k * i.size
        · rw [if_pos ⟨d, d2⟩, List.getElem?_map, List.getElem?_range (by omega)]; rfl
        · rw [if_neg (fun h => d2 h.2), List.getElem?_eq_none (by rw [hl]; omega)]; rfl
      · rw [if_neg d, if_neg (fun h => d h.1)]
theorem append_ints (w : World) {g m : Nat} {f : Nat → Value} (hr : w.rowIs g 3 m f) (n c k : Nat) (hroom : n + k ≤ c) (hcm : c ≤ m) {A2 : Option Addr} {c2 B2 : Nat} {cs : Nat → Value} (hs : Sees w B2 A2 k cs) (h1 : ∀ j, (cs j).oneCell' = true) :
    ∃ w', (∀ ty, (Builtin.append_ #[54, 54] ty #[.slice (some ⟨g, 0, none⟩) n c, .slice A2 k c2]).run Tryz.prog w = .ok (.slice (some ⟨g, 0, none⟩) (n + k) c) w') ∧ w'.rowIs g 3 m (spliced f n k cs) ∧ Only w w' g := by
  obtain ⟨i, hi', he⟩ := Option.map_eq_some_iff.1 infoIntR
  injection he with e1 e2
  injection e2 with e2 e3
  have := append_room (P := Tryz.prog) w (t := 54) (tx := 54) Tryz.underlying54 hi' e2 (by omega) Tryz.underlying54 hr n c k hroom (by rw [Nat.mul_one]; exact hcm) (A2 := A2) (c2 := c2) (B2 := B2) (cs := cs) (by rw [Nat.mul_one]; exact hs) h1
  rwa [Nat.mul_one, Nat.mul_one] at this
theorem subA_at (g c lo : Nat) : subA (some ⟨g, 0, none⟩) c lo 1 = some ⟨g, if c = lo then 0 else lo, none⟩ := by
  unfold subA
  by_cases h : c = lo
  · rw [if_pos h, if_pos h]
  · rw [if_neg h, if_neg h, Nat.mul_one]
    show some ((⟨g, 0, none⟩ : Addr).add lo) = _
    rw [add_none, Nat.zero_add]
/-- What the rest of a row shows. -/
theorem row_rest {w : World} {g m c n lo : Nat} {t : TypeId} {f : Nat → Value} (hr : w.rowIs g t m f) (hnc : n ≤ c) (hcm : c ≤ m) : Sees w w.heap.size (subA (some ⟨g, 0, none⟩) c lo 1) (n - lo) (fun j => f (lo + j)) := by
  intro h
  rw [subA_at, if_neg (by omega)]
  exact ⟨g, lo, rfl, hr.lt, fun j hj => hr.cell (by omega)⟩
theorem slice_lhm (A : Option Addr) (n c lo hi mx : Nat) (h1 : lo ≤ hi) (h2 : hi ≤ mx) (h3 : mx ≤ c) (wx : World) :
    (Instr.sliceAt 54 (.slice A n c) (some (.int .i64 lo)) (some (.int .i64 hi)) (some (.int .i64 mx))).run Tryz.prog wx = .ok (.slice (subA A mx lo 1) (hi - lo) (mx - lo)) wx :=
  slice_of_bounds (P := Tryz.prog) (sz := 1) Tryz.underlying54 (by kernel_rfl) A n c _ _ _ (l := lo) (h := hi) (m := mx) (fun wx => by simp [Instr.sliceBounds, run_sliceBound, h1, h2, h3]) wx
theorem isl_h (A : Option Addr) (n c hi : Nat) (h2 : hi ≤ c) (wx : World) : (Instr.sliceAt 54 (.slice A n c) none (some (.int .i64 hi)) none).run Tryz.prog wx = .ok (.slice A hi c) wx := slice_h (P := Tryz.prog) (sz := 1) Tryz.underlying54 (by kernel_rfl) A n c hi h2 wx
theorem isl_l (A : Option Addr) (n c lo : Nat) (h2 : lo ≤ n) (wx : World) : (Instr.sliceAt 54 (.slice A n c) (some (.int .i64 lo)) none none).run Tryz.prog wx = .ok (.slice (subA A c lo 1) (n - lo) (c - lo)) wx := slice_l (P := Tryz.prog) (sz := 1) Tryz.underlying54 (by kernel_rfl) A n c lo h2 wx
theorem isl_lh (A : Option Addr) (n c lo hi : Nat) (h1 : lo ≤ hi) (h2 : hi ≤ c) (wx : World) : (Instr.sliceAt 54 (.slice A n c) (some (.int .i64 lo)) (some (.int .i64 hi)) none).run Tryz.prog wx = .ok (.slice (subA A c lo 1) (hi - lo) (c - lo)) wx := slice_lh (P := Tryz.prog) (sz := 1) Tryz.underlying54 (by kernel_rfl) A n c lo hi h1 h2 wx
set_option maxRecDepth 100000 in
set_option maxHeartbeats 800000 in
theorem sidx_any (w : World) (B : Nat) (A : Option Addr) (n c : Nat) (F : Nat → Int) (hs : Sees w B A n (i64s F)) (x : Int) (a : Nat) (ha : a < n) (hx : F a = x) (hne : ∀ j, j < a → F j ≠ x) (hn : n ≤ 1000000) :
    Calls Tryz.prog 104 #[.slice A n c, .int .i64 x] w fun e w' => e = .returned (.int .i64 a) ∧ w = w' := by
  have HS := Lib.hid hs
  have HN := Lib.hid hne
  have HX := Lib.hid hx
  clear hs hne hx
  go_enter Tryz.func104, Tryz.ntmps104
  go_wp2_with fail
  go_loopw [8] (fun iv wr => ∃ k : Nat, k ≤ a ∧ iv = .int .i64 k ∧ w = wr) (fun iv _ => a + 1 - (intOf iv).toNat)
  case atStart => exact ⟨0, Nat.zero_le _, rfl, rfl⟩
  case round =>
    obtain ⟨k, hk, rfl, rfl⟩ := hrel
    have hki : (k : Int) < (n : Int) := by omega
    obtain ⟨b, o, rfl, hb, hcell⟩ := HS.out.at_ (k := k) (by omega)
    rw [i64s_at] at hcell
    by_cases e : k = a
    · subst e
      rw [HX.out] at hcell
      go_wp2_with fail
      go_ret
      exact ⟨rfl, rfl⟩
    · have h1 : ¬ x = F k := fun h => HN.out k (by omega) h.symm
      generalize F k = y at *
      go_wp2_with fail
      go_roundw
      case rel => exact ⟨k + 1, by omega, by go_num, trivial⟩
      case measure => simp [intOf]; omega
set_option maxRecDepth 100000 in
set_option maxHeartbeats 800000 in
theorem scont_any (w : World) (B : Nat) (A : Option Addr) (n c : Nat) (F : Nat → Int) (hs : Sees w B A n (i64s F)) (x : Int) (a : Nat) (ha : a < n) (hx : F a = x) (hne : ∀ j, j < a → F j ≠ x) (hn : n ≤ 1000000) :
    Calls Tryz.prog 105 #[.slice A n c, .int .i64 x] w fun e w' => e = .returned (.bool true) ∧ w = w' := by
  have K := Lib.hid (sidx_any w B A n c F hs x a ha hx hne hn)
  have h0 : (0 : Int) ≤ (a : Int) := by omega
  clear hs hne hx
  go_enter Tryz.func105, Tryz.ntmps105
  go_wp2_with fail
  refine (K.out).mono ?_
  rintro e w' ⟨rfl, rfl⟩
  go_wp2_with fail
  go_ret
  exact ⟨rfl, rfl⟩
set_option maxRecDepth 100000 in
set_option maxHeartbeats 1600000 in
theorem sdel_one (w : World) (g m n c a : Nat) (f : Nat → Value) (hr : w.rowIs g 3 m f) (h1 : ∀ j, j < n → (f j).oneCell' = true) (hnc : n ≤ c) (hcm : c ≤ m) (hm : n ≤ 100000) (ha : a < n) :
    Calls Tryz.prog 106 #[.slice (some ⟨g, 0, none⟩) n c, .int .i64 a, .int .i64 ((a : Int) + 1)] w fun e w' => e = .returned (.slice (some ⟨g, 0, none⟩) (n - 1) c) ∧
      (∃ f', w'.rowIs g 3 m f' ∧ (∀ j, j < n → (f' j).oneCell' = true) ∧ (∀ j, j < a → f' j = f j) ∧ (∀ j, a ≤ j → j + 1 < n → f' j = f (j + 1))) ∧ Only w w' g := by
  obtain ⟨w1, run1, r1, o1⟩ := append_ints w.drew (show w.drew.rowIs g 3 m f from hr) a c (n - (a + 1)) (by omega) hcm (A2 := subA (some ⟨g, 0, none⟩) c (a + 1) 1) (c2 := c - (a + 1)) (B2 := w.heap.size) (cs := fun j => if a + 1 + j < n then f (a + 1 + j) else .int .i64 0) ((row_rest hr hnc hcm).congr fun j hj => (if_pos (by omega)).symm) (fun j => by split; exact h1 _ (by assumption); rfl)
  rw [show a + (n - (a + 1)) = n - 1 by omega] at run1
  obtain ⟨w2, run2, r2, o2⟩ := clear_row (P := Tryz.prog) w1 Tryz.underlying54 (zeroI) rfl rfl r1 (subA (some ⟨g, 0, none⟩) c (n - 1) 1) (n - 1) (n - (n - 1)) (c - (n - 1)) (fun _ => by rw [subA_at, if_neg (by omega)]) (by omega)
  have s1 : ∀ wx, (Instr.sliceAt 54 (.slice (some ⟨g, 0, none⟩) n c) (some (.int .i64 a)) (some (.int .i64 ((a : Int) + 1))) (some (.int .i64 n))).run Tryz.prog wx = .ok (.slice (subA (some ⟨g, 0, none⟩) n a 1) (a + 1 - a) (n - a)) wx := fun wx => by
    have e : ((a : Int) + 1) = ((a + 1 : Nat) : Int) := by omega
    rw [e]
    exact slice_lhm _ n c a (a + 1) n (by omega) (by omega) hnc wx
  have s2 : ∀ wx, (Instr.sliceAt 54 (.slice (some ⟨g, 0, none⟩) n c) none (some (.int .i64 a)) none).run Tryz.prog wx = .ok (.slice (some ⟨g, 0, none⟩) a c) wx := fun wx => isl_h _ n c a (by omega) wx
  have s3 : ∀ wx, (Instr.sliceAt 54 (.slice (some ⟨g, 0, none⟩) n c) (some (.int .i64 ((a : Int) + 1))) none none).run Tryz.prog wx = .ok (.slice (subA (some ⟨g, 0, none⟩) c (a + 1) 1) (n - (a + 1)) (c - (a + 1))) wx := fun wx => by
    have e : ((a : Int) + 1) = ((a + 1 : Nat) : Int) := by omega
    rw [e]
    exact isl_l _ n c (a + 1) (by omega) wx
  have s4 : ∀ wx, (Instr.sliceAt 54 (.slice (some ⟨g, 0, none⟩) (n - 1) c) (some (.int .i64 ((n - 1 : Nat) : Int))) (some (.int .i64 n)) none).run Tryz.prog wx = .ok (.slice (subA (some ⟨g, 0, none⟩) c (n - 1) 1) (n - (n - 1)) (c - (n - 1))) wx := fun wx => isl_lh _ (n - 1) c (n - 1) n (by omega) (by omega) wx
  have ne : ¬ (a : Int) = (a : Int) + 1 := by omega
  have FIN : Hid ((∃ f', w2.rowIs g 3 m f' ∧ (∀ j, j < n → (f' j).oneCell' = true) ∧ (∀ j, j < a → f' j = f j) ∧ (∀ j, a ≤ j → j + 1 < n → f' j = f (j + 1))) ∧ Only w w2 g) := by
    refine ⟨⟨_, r2, fun j hj => ?_, fun j hj => ?_, fun j h2 h3 => ?_⟩, ?_⟩
    · unfold spliced
      split
      · rfl
      · split
        · show (if a + 1 + (j - a) < n then f (a + 1 + (j - a)) else Value.int .i64 0).oneCell' = true
          split
          · exact h1 _ (by assumption)
          · rfl
        · exact h1 _ hj
    · unfold spliced; rw [if_neg (by omega), if_neg (by omega)]
    · unfold spliced
      rw [if_neg (by omega), if_pos (by omega)]
      show (if a + 1 + (j - a) < n then f (a + 1 + (j - a)) else Value.int .i64 0) = f (j + 1)
      rw [if_pos (by omega), show a + 1 + (j - a) = j + 1 by omega]
    · have q : Only w w1 g := ⟨o1.os, o1.tape, o1.output, o1.size, o1.block⟩
      exact ⟨o2.os.trans q.os, o2.tape.trans q.tape, o2.output.trans q.output, Nat.le_trans q.size o2.size, fun k hk hn => (o2.block k (Nat.lt_of_lt_of_le hk q.size) hn).trans (q.block k hk hn)⟩
  have S0 : Hid (Fr (fun b => b = g) w w.drew) := (Fr.refl _ _).drawn ⟨1, rfl⟩
  have S1 : Hid (Fr (fun b => b = g) w w1) := S0.out.trans (fr_of_only o1)
  have RUN1 := Lib.hid run1
  have RUN2 := Lib.hid run2
  clear run1 run2 r1 r2 o1 o2 hr h1
  go_enter Tryz.func106, Tryz.ntmps106
  go_wp2_with fail
  refine wp_region_plan [(false, 0), (false, 1), (false, 2), (false, 3), (false, 4), (false, 5), (true, 6), (false, 7)] (Fr (fun b => b = g) w) (by kernel_rfl) (by kernel_rfl) (S0.out) _ (by simp only [pickH, List.getElem?_toArray, List.getElem?_cons_succ, List.getElem?_cons_zero]; rfl) ?_
  repeat (refine HWalk.step (fun K hK => ?_); first | (apply held_yes; (focus rfl); (focus (intro w' hw; have hc' := fr_cells hw; go_simp; rfl)); (go_simp; refine hK _ ?_; clear hK K)) | (refine ite_no (by decide) ?_; go_simp; refine hK _ ?_; clear hK K))
  refine HWalk.mark ?_
  go_wp2_with (at_builtin; refine Hid.out ?_)
  refine Lib.hid (Lib.wpList_append_run _ rfl _ _ _ _ rfl _ _ rfl rfl _ _ (RUN1.out _) ?_)
  go_wp2_with fail
  refine ⟨S1.out, ?_⟩
  repeat (refine HWalk.step (fun K hK => ?_); first | (apply held_yes; (focus rfl); (focus (intro w' hw; have hc' := fr_cells hw; go_simp; rfl)); (go_simp; refine hK _ ?_; clear hK K)) | (refine ite_no (by decide) ?_; go_simp; refine hK _ ?_; clear hK K))
  have run2 := RUN2.out
  refine HWalk.done ?_
  go_wp2_with fail
  go_ret
  exact ⟨rfl, FIN.out⟩
set_option maxRecDepth 100000 in
set_option maxHeartbeats 1600000 in
theorem sins_end (w : World) (g m n c vb : Nat) (tv : TypeId) (x : Int) (f : Nat → Value) (hr : w.rowIs g 3 m f) (h1 : ∀ j, j < n → (f j).oneCell' = true) (hnc : n + 1 ≤ c) (hcm : c ≤ m) (hm : n ≤ 100000) (hv : w.rowIs vb tv 1 (fun _ => .int .i64 x)) :
    Calls Tryz.prog 107 #[.slice (some ⟨g, 0, none⟩) n c, .int .i64 n, .slice (some ⟨vb, 0, none⟩) 1 1] w fun e w' => e = .returned (.slice (some ⟨g, 0, none⟩) (n + 1) c) ∧
      (∃ f', w'.rowIs g 3 m f' ∧ (∀ j, j < n + 1 → (f' j).oneCell' = true) ∧ (∀ j, j < n → f' j = f j) ∧ f' n = .int .i64 x) ∧ Only w w' g := by
  obtain ⟨w1, run1, r1, o1⟩ := append_ints w hr n c 1 hnc hcm (A2 := some ⟨vb, 0, none⟩) (c2 := 1) (B2 := w.heap.size) (cs := fun _ => .int .i64 x) (fun _ => ⟨vb, 0, rfl, hv.lt, fun j hj => hv.cell (by omega)⟩) (fun j => rfl)
  have s1 : ∀ wx, (Instr.sliceAt 54 (.slice (some ⟨g, 0, none⟩) n c) (some (.int .i64 n)) none none).run Tryz.prog wx = .ok (.slice (subA (some ⟨g, 0, none⟩) c n 1) (n - n) (c - n)) wx := fun wx => isl_l _ n c n (by omega) wx
  have FIN : Hid ((∃ f', w1.rowIs g 3 m f' ∧ (∀ j, j < n + 1 → (f' j).oneCell' = true) ∧ (∀ j, j < n → f' j = f j) ∧ f' n = .int .i64 x) ∧ Only w w1 g) := by
    refine ⟨⟨_, r1, fun j hj => ?_, fun j hj => ?_, ?_⟩, o1⟩
    · unfold spliced
      split
      · rfl
      · exact h1 _ (by omega)
    · unfold spliced; rw [if_neg (by omega)]
    · unfold spliced; rw [if_pos (by omega)]
  have RUN1 := Lib.hid run1
  clear run1 r1 o1 hr h1 hv
  go_enter Tryz.func107, Tryz.ntmps107
  go_wp2_with (at_builtin; refine Hid.out ?_)
  refine Lib.hid (Lib.wpList_append_run _ rfl _ _ _ _ rfl _ _ rfl rfl _ _ (RUN1.out _) ?_)
  go_wp2_with fail
  go_ret
  exact ⟨rfl, FIN.out⟩
set_option maxRecDepth 100000 in
set_option maxHeartbeats 3200000 in
theorem sins_mid (w : World) (g m n c vb i : Nat) (tv : TypeId) (x : Int) (f : Nat → Value) (hr : w.rowIs g 3 m f) (h1 : ∀ j, j < n + 1 → (f j).oneCell' = true) (hi : i < n) (hnc : n + 1 ≤ c) (hcm : c ≤ m) (hm : n ≤ 100000) (hv : w.rowIs vb tv 1 (fun _ => .int .i64 x)) (hvg : vb ≠ g) :
    Calls Tryz.prog 107 #[.slice (some ⟨g, 0, none⟩) n c, .int .i64 i, .slice (some ⟨vb, 0, none⟩) 1 1] w fun e w' => e = .returned (.slice (some ⟨g, 0, none⟩) (n + 1) c) ∧
      (∃ f', w'.rowIs g 3 m f' ∧ (∀ j, j < n + 1 → (f' j).oneCell' = true) ∧ (∀ j, j < i → f' j = f j) ∧ f' i = .int .i64 x ∧ (∀ j, i ≤ j → j < n → f' (j + 1) = f j)) ∧ Only w w' g := by
  obtain ⟨e1, n1, hsh1, _, _⟩ := World.shape?_of_cell? (hv.cell (i := 0) (by omega))
  obtain ⟨e2, n2, hsh2, hn2, _⟩ := World.shape?_of_cell? (hr.cell (i := 0) (by omega))
  have hov : ∀ lb cb, (callFunc 144 #[.slice (some ⟨vb, 0, none⟩) 1 1, .slice (some ⟨g, i + 1, none⟩) lb cb]).run Tryz.prog w = .ok (.value (.bool false)) w := fun lb cb => by
    rw [run_callFunc_extern Tryz.func144 (by kernel_rfl) (by kernel_rfl) (by kernel_rfl) (e := Extern.SlicesOverlaps.overlaps #[54, 54] #[4]) (by kernel_rfl),
      Lib.run_overlaps_apart w 54 4 3 Tryz.underlying54 1 (sizeOf_eq (P := Tryz.prog) (by kernel_rfl)) ⟨vb, 0, none⟩ ⟨g, i + 1, none⟩ 1 1 lb cb hvg e1 e2 n1 n2 hsh1 hsh2 (by omega) (hv.frozen _) (hv.frozen _)]
    rfl
  have hin : ¬ (i : Int) = (n : Int) := by omega
  have hroom : ¬ (c : Int) < (n : Int) + 1 := by omega
  have s1 : ∀ wx, (Instr.sliceAt 54 (.slice (some ⟨g, 0, none⟩) n c) (some (.int .i64 i)) none none).run Tryz.prog wx = .ok (.slice (subA (some ⟨g, 0, none⟩) c i 1) (n - i) (c - i)) wx := fun wx => isl_l _ n c i (by omega) wx
  have s2 : ∀ wx, (Instr.sliceAt 54 (.slice (some ⟨g, 0, none⟩) n c) none (some (.int .i64 ((n : Int) + 1))) none).run Tryz.prog wx = .ok (.slice (some ⟨g, 0, none⟩) (n + 1) c) wx := fun wx => by
    have e : ((n : Int) + 1) = ((n + 1 : Nat) : Int) := by omega
    rw [e]
    exact isl_h _ n c (n + 1) (by omega) wx
  have s3 : ∀ wx, (Instr.sliceAt 54 (.slice (some ⟨g, 0, none⟩) (n + 1) c) (some (.int .i64 ((i : Int) + 1))) none none).run Tryz.prog wx = .ok (.slice (some ⟨g, i + 1, none⟩) (n - i) (c - (i + 1))) wx := fun wx => by
    have e : ((i : Int) + 1) = ((i + 1 : Nat) : Int) := by omega
    have h := isl_l (some ⟨g, 0, none⟩) (n + 1) c (i + 1) (by omega) wx
    rw [subA_at, if_neg (by omega), show n + 1 - (i + 1) = n - i by omega] at h
    rw [e]
    exact h
  have s4 : ∀ wx, (Instr.sliceAt 54 (.slice (some ⟨g, 0, none⟩) (n + 1) c) (some (.int .i64 i)) none none).run Tryz.prog wx = .ok (.slice (some ⟨g, i, none⟩) (n + 1 - i) (c - i)) wx := fun wx => by
    have h := isl_l (some ⟨g, 0, none⟩) (n + 1) c i (by omega) wx
    rwa [subA_at, if_neg (by omega)] at h
  obtain ⟨w1, run1, r1, o1⟩ := copy_row (P := Tryz.prog) w.drew (dT := 54) (sT := 54) Tryz.underlying54 (by kernel_rfl) (show w.drew.rowIs g 3 m f from hr) (i + 1) (n - i) (c - (i + 1)) (B := w.heap.size) (A := some ⟨g, i, none⟩) (sLen := n + 1 - i) (sCap := c - i) (cs := fun j => if i + j < n + 1 then f (i + j) else .int .i64 0)
    (fun _ => ⟨g, i, rfl, hr.lt, fun j hj => by show _ = some (if i + j < n + 1 then f (i + j) else .int .i64 0); rw [if_pos (by omega)]; exact hr.cell (by omega)⟩) (fun j => by split; exact h1 _ (by assumption); rfl) (n - i) (by simp only [Nat.min_def]; split <;> omega) (by omega)
  have q1 : Only w w1 g := ⟨o1.os, o1.tape, o1.output, o1.size, o1.block⟩
  obtain ⟨w2, run2, r2, o2⟩ := copy_row (P := Tryz.prog) w1 (dT := 54) (sT := 54) Tryz.underlying54 (by kernel_rfl) r1 i (n + 1 - i) (c - i) (B := w1.heap.size) (A := some ⟨vb, 0, none⟩) (sLen := 1) (sCap := 1) (cs := fun _ => .int .i64 x)
    (fun _ => ⟨vb, 0, rfl, (q1.row hv hvg).lt, fun j hj => (q1.row hv hvg).cell (by omega)⟩) (fun j => rfl) 1 (by simp only [Nat.min_def]; split <;> omega) (by omega)
  have FIN : Hid ((∃ f', w2.rowIs g 3 m f' ∧ (∀ j, j < n + 1 → (f' j).oneCell' = true) ∧ (∀ j, j < i → f' j = f j) ∧ f' i = .int .i64 x ∧ (∀ j, i ≤ j → j < n → f' (j + 1) = f j)) ∧ Only w w2 g) := by
    refine ⟨⟨_, r2, fun j hj => ?_, fun j hj => ?_, ?_, fun j h2 h3 => ?_⟩, ⟨o2.os.trans q1.os, o2.tape.trans q1.tape, o2.output.trans q1.output, Nat.le_trans q1.size o2.size, fun k hk hn => (o2.block k (Nat.lt_of_lt_of_le hk q1.size) hn).trans (q1.block k hk hn)⟩⟩
    · unfold spliced
      split
      · rfl
      · split
        · show (if i + (j - (i + 1)) < n + 1 then f (i + (j - (i + 1))) else Value.int .i64 0).oneCell' = true
          split
          · exact h1 _ (by assumption)
          · rfl
        · exact h1 _ hj
    · unfold spliced; rw [if_neg (by omega), if_neg (by omega)]
    · unfold spliced; rw [if_pos (by omega)]
    · unfold spliced
      rw [if_neg (by omega), if_pos (by omega)]
      show (if i + (j + 1 - (i + 1)) < n + 1 then f (i + (j + 1 - (i + 1))) else Value.int .i64 0) = f j
      rw [if_pos (by omega), show i + (j + 1 - (i + 1)) = j by omega]
  clear r1 r2 o1 o2 q1 hr h1 hv hsh1 hsh2 hn2 hvg
  go_enter Tryz.func107, Tryz.ntmps107
  go_wp2_with (simp only [hov])
  go_region
  clear run1
  go_wp2_with fail
  go_ret
  exact ⟨rfl, FIN.out⟩
set_option maxRecDepth 100000 in
set_option maxHeartbeats 1600000 in
theorem sclone_any (w : World) (A : Option Addr) (n c : Nat) (l : Nat → Int) (hs : Sees w w.heap.size A n (i64s l)) (h0 : 0 < n) (hn : n ≤ 4096) :
    Calls Tryz.prog 103 #[.slice A n c] w fun e w' => ∃ g c' f, e = .returned (.slice (some ⟨g, 0, none⟩) n c') ∧ n ≤ c' ∧ c' ≤ maxLen ∧ w.heap.size ≤ g ∧ w'.rowIs g 3 c' f ∧ (∀ j, j < n → f j = .int .i64 (l j)) ∧ Below w.heap.size w w' := by
  obtain ⟨b, o, rfl, hb, _⟩ := hs h0
  have L0 : Below w.heap.size w (w.alloc (.cells #[] 3)) := (Below.refl _ w).alloc (Nat.le_refl _) _
  obtain ⟨A', c', w', run, O, fr, _, mx⟩ := own_append2' (P := Tryz.prog) (w.alloc (.cells #[] 3)) w.heap.size (t := 54) (tx := 54) (z := .int .i64 0) (sz := 1) (by_ := 8) Tryz.underlying54 infoIntR rfl (by omega) Tryz.underlying54 (Own.lit0 w 3 1 (i64s l)) (by rw [World.size_alloc]; omega) (A2 := some ⟨b, o, none⟩) (k := n) (c2 := c) (B2 := w.heap.size) (f := i64s l) (by rw [Nat.mul_one]; exact hs.below L0) (fun j => rfl) (by omega) (by omega)
  rw [Nat.zero_add] at run O
  have B1 : Below w.heap.size w w' := L0.trans (fr.below (by rw [World.size_alloc]; omega) (fun q hq => by injection hq with hq; exact Nat.le_of_eq hq))
  have FIN : Hid (∃ g f, A' = some ⟨g, 0, none⟩ ∧ n ≤ c' ∧ c' ≤ maxLen ∧ w.heap.size ≤ g ∧ w'.rowIs g 3 c' f ∧ (∀ j, j < n → f j = .int .i64 (l j)) ∧ Below w.heap.size w w') := by
    rcases O with ⟨_, h, _⟩ | ⟨hle, g, F', rfl, hg, hr, hF⟩
    · omega
    · rw [Nat.mul_one] at hr
      refine ⟨g, F', rfl, hle, mx (Nat.zero_le _), hg, hr, fun j hj => ?_, B1⟩
      rw [hF j (by omega)]
      show (if j < 0 * 1 then _ else i64s l (j - 0 * 1)) = _
      rw [if_neg (by omega)]; rfl
  have RUN := Lib.hid run
  clear run O fr mx B1 L0 hs
  have qn := fun W : World => Lib.run_eql_slice_nil (P := Tryz.prog) W 54 3 (some ⟨b, o, none⟩) n c 0 0 Tryz.underlying54
  rw [show (some (⟨b, o, none⟩ : Addr)).isNone = false from rfl] at qn
  go_enter Tryz.func103, Tryz.ntmps103
  go_wp2_with (at_builtin; refine Hid.out ?_)
  refine Lib.hid (Lib.wpList_append_run _ rfl _ _ _ _ rfl _ _ rfl rfl _ _ (RUN.out _) ?_)
  go_wp2_with fail
  obtain ⟨g, f, rfl, z⟩ := FIN.out
  go_ret
  exact ⟨g, c', f, rfl, z⟩
end Go.Proofs.YtfmfmeiaekknbaaGreat
end

section
/-
  The orders of layer 8's law: (P).order.
-/
namespace Go.Proofs.YtfmfmeiaekknbaaGreat
open Go.RowKit
set_option linter.unusedVariables false
set_option linter.unusedSimpArgs false

theorem push_int (w : World) (B : Nat) {n c : Nat} {A : Option Addr} {F : Nat → Int} (h : Own w B 3 1 n c A (i64s F)) (hB : B ≤ w.heap.size) (x : Int) (hm : n ≤ 100000) :
    ∃ A' c' w', (∀ ty, (Builtin.append_ #[54, 54] ty #[.slice A n c, .slice (some ⟨w.heap.size, 0, none⟩) 1 1]).run Tryz.prog (w.alloc (.cells #[.int .i64 x] 3)) = .ok (.slice A' (n + 1) c') w') ∧ Own w' B 3 1 (n + 1) c' A' (i64s fun j => if j < n then F j else x) ∧
      Fr (fun b => A.map (·.block) = some b) w w' ∧ (A' = A ∨ ∃ g, A' = some ⟨g, 0, none⟩ ∧ w.heap.size ≤ g) ∧ (c ≤ maxLen → c' ≤ maxLen) := by
  obtain ⟨A', c', w', run, O, f, a, m⟩ := own_push (P := Tryz.prog) w B Tryz.underlying54 infoIntR rfl h hB (.int .i64 x) rfl (by omega) (by omega)
  refine ⟨A', c', w', run, O.congr fun j _ => ?_, f, a, m⟩
  show (if j < n then _ else _) = Value.int .i64 (if j < n then F j else x)
  split <;> rfl
theorem seesO_push {S T : Nat → Prop} {w w' : World} {A : Option Addr} {n : Nat} {f : Nat → Value} (h : SeesO S w A n f) (k : Fr S w w') (hT : ∀ b, T b → S b ∨ w.heap.size ≤ b) : SeesO T w' A n f := by
  intro hn
  obtain ⟨b, o, h1, h2, h3, h4⟩ := h hn
  exact ⟨b, o, h1, Nat.lt_of_lt_of_le h2 k.size, fun t => by
    rcases hT b t with s | s
    · exact h3 s
    · omega, fun j hj => (World.cell?_of_block (w := w) (k.block b h2 h3)).trans (h4 j hj)⟩
end Go.Proofs.YtfmfmeiaekknbaaGreat
end

section
/-
  Package remaps: Check, Compose, Carry at int, Same.
-/
namespace Go.Proofs.YtfmfmeiaekknbaaGreat
open Go.RowKit
set_option linter.unusedVariables false
set_option linter.unusedSimpArgs false

/-- Which places the first k of a map have named. -/
def snF (F : Nat → Nat) : Nat → Nat → Bool
  | 0, _ => false
  | k + 1, j => if j = F k then true else snF F k j
theorem snF_ex {F : Nat → Nat} {j : Nat} : ∀ {k : Nat}, snF F k j = true → ∃ i, i < k ∧ F i = j
  | 0, h => by cases h
  | k + 1, h => by
    by_cases c : j = F k
    · exact ⟨k, by omega, c.symm⟩
    · have h' : snF F k j = true := by rw [← h]; exact (if_neg c).symm
      obtain ⟨i, h1, h2⟩ := snF_ex h'
      exact ⟨i, by omega, h2⟩
/-- A map that names each place once. -/
structure Once (n old : Nat) (F : Nat → Nat) : Prop where
  lt : ∀ i, i < n → F i < old
  inj : ∀ i j, i < n → j < n → F i = F j → i = j
theorem Once.fresh {n old : Nat} {F : Nat → Nat} (h : Once n old F) {k : Nat} (hk : k < n) : snF F k (F k) = false := by
  cases e : snF F k (F k) with
  | false => rfl
  | true =>
    obtain ⟨i, h1, h2⟩ := snF_ex e
    have := h.inj i k (by omega) hk h2
    omega
def nats (F : Nat → Nat) : Nat → Value := i64s fun i => ((F i : Nat) : Int)
theorem zc_seen : Tryz.zeroCells207 = Array.replicate 4096 (.bool false) := by kernel_rfl
theorem seen_row (w : World) (F : Nat → Nat) : (w.alloc (.cells Tryz.zeroCells207 207)).rowIs w.heap.size 207 4096 (fun j => .bool (snF F 0 j)) := by
  rw [zc_seen]
  have := World.rowIs_alloc w (Array.replicate 4096 (.bool false)) 207 (fun j => .bool (snF F 0 j)) (fun j hj => by
    rw [Array.getElem?_replicate]
    rw [Array.size_replicate] at hj
    rw [if_pos hj]; rfl)
  rwa [Array.size_replicate] at this
set_option maxRecDepth 100000 in
set_option maxHeartbeats 3200000 in
theorem mcheck_ok (w : World) (A : Option Addr) (n old : Nat) (F : Nat → Nat) (hs : Sees w w.heap.size A n (nats F)) (hn : n ≤ 4096) (ho : old ≤ 4096) (hF : Once n old F) :
    Calls Tryz.prog 84 #[.agg #[.int .i64 old, .slice A n n]] w fun e w' => e = .returned (.int .i64 0) ∧ Below w.heap.size w w' := by
  have HF := Lib.hid hF
  have HS := Lib.hid hs
  obtain ⟨q, eq⟩ : ∃ q, q = w.heap.size + 1 := ⟨_, rfl⟩
  have ST : Hid (((w.alloc (.cells #[.int .i64 old, .slice A n n] 64)).alloc (.cells Tryz.zeroCells207 207)).rowIs w.heap.size 64 2 (rmc old A n) ∧ ((w.alloc (.cells #[.int .i64 old, .slice A n n] 64)).alloc (.cells Tryz.zeroCells207 207)).rowIs q 207 4096 (fun j => .bool (snF F 0 j)) ∧ Below w.heap.size w ((w.alloc (.cells #[.int .i64 old, .slice A n n] 64)).alloc (.cells Tryz.zeroCells207 207))) := by
    have r1 := row_alloc (rm_new w old A n) (.cells Tryz.zeroCells207 207)
    have r2 := seen_row (w.alloc (.cells #[.int .i64 old, .slice A n n] 64)) F
    rw [World.size_alloc, ← eq] at r2
    exact ⟨r1, r2, ((Below.refl _ w).alloc (Nat.le_refl _) _).alloc (by rw [World.size_alloc]; omega) _⟩
  have EQ := Lib.hid eq
  have h1 : ¬ (old : Int) < 0 := by omega
  have h2 : ¬ (4096 : Int) < (old : Int) := by omega
  have h3 : ¬ (4096 : Int) < (n : Int) := by omega
  clear hs hF eq
  go_enter Tryz.func84, Tryz.ntmps84
  go_wp2_with fail
  rw [← EQ.out]
  go_loopw [23] (fun iv wr => ∃ k : Nat, k ≤ n ∧ iv = .int .i64 k ∧ Hid (wr.rowIs w.heap.size 64 2 (rmc old A n) ∧ wr.rowIs q 207 4096 (fun j => .bool (snF F k j)) ∧ Below w.heap.size w wr)) (fun iv _ => n - (intOf iv).toNat)
  case atStart => exact ⟨0, Nat.zero_le _, rfl, ST⟩
  case round =>
    obtain ⟨k, hk, rfl, hR⟩ := hrel
    clear ST
    obtain ⟨q1, q2, q3⟩ := hR.out
    obtain ⟨c0, c1, cf, cl⟩ := rm_cells q1
    by_cases hlt : k < n
    · have hki : (k : Int) < (n : Int) := by omega
      obtain ⟨b, o, rfl, hb, hcell⟩ := (HS.out.below q3).at_ (k := k) hlt
      have hv := HF.out.lt k hlt
      have hfr := HF.out.fresh hlt
      have s0 := q2.cell (i := F k) (by omega)
      have sf := fun i => q2.frozen i
      have sl := q2.lt
      rw [hfr] at s0
      rw [nats, i64s_at] at hcell
      have z1 : ¬ ((F k : Nat) : Int) < -1 := by omega
      have z2 : ¬ (old : Int) ≤ ((F k : Nat) : Int) := by omega
      have z3 : (0 : Int) ≤ ((F k : Nat) : Int) := by omega
      have z4 : ((F k : Nat) : Int) < 4096 := by omega
      have FIN : Hid ((wr.setCell ⟨q, F k, none⟩ (.bool true)).rowIs w.heap.size 64 2 (rmc old (some ⟨b, o, none⟩) n) ∧ (wr.setCell ⟨q, F k, none⟩ (.bool true)).rowIs q 207 4096 (fun j => .bool (snF F (k + 1) j)) ∧ Below w.heap.size w (wr.setCell ⟨q, F k, none⟩ (.bool true))) := by
        have := EQ.out
        refine ⟨row_past q1 (by omega) _, (q2.set (F k) (.bool true)).congr fun j hj => ?_, q3.setCell (p := ⟨q, F k, none⟩) (by show w.heap.size ≤ q; omega) _⟩
        show (if j = F k then Value.bool true else .bool (snF F k j)) = .bool (if j = F k then true else snF F k j)
        split <;> rfl
      clear hR q1 q2 q3 hv hfr
      generalize F k = v at *
      go_wp2_with fail
      go_roundw
      case rel => exact ⟨k + 1, by omega, by go_num, FIN⟩
      case measure => simp [intOf]; omega
    · obtain rfl : k = n := by omega
      have FIN := Lib.hid q3
      clear hR q1 q2 q3
      go_wp2_with fail
      go_ret
      exact ⟨rfl, FIN.out⟩
set_option maxRecDepth 100000 in
set_option maxHeartbeats 3200000 in
theorem carry_ok (w : World) (A L : Option Addr) (n c : Nat) (F : Nat → Nat) (l : Nat → Int) (hs : Sees w w.heap.size A n (nats F)) (hl : Sees w w.heap.size L n (i64s l)) (hn : n ≤ 4096) (hF : Once n n F) :
    Calls Tryz.prog 29 #[.agg #[.int .i64 n, .slice A n n], .slice L n c] w fun e w' => ∃ A', e = .returned (.tuple #[.slice A' n n, .int .i64 0]) ∧ Sees w' w'.heap.size A' n (i64s fun i => l (F i)) ∧ Below w.heap.size w w' := by
  have HF := Lib.hid hF
  obtain ⟨WM, eWM⟩ : ∃ W, W = w.alloc (.cells #[.int .i64 n, .slice A n n] 64) := ⟨_, rfl⟩
  have R1 : Hid (WM.rowIs w.heap.size 64 2 (rmc n A n)) := by rw [eWM]; exact rm_new w n A n
  have BM : Hid (Below w.heap.size w WM) := by rw [eWM]; exact (Below.refl _ w).alloc (Nat.le_refl _) _
  have SA := Lib.hid ((hs.below BM.out).more BM.out.size)
  have SL := Lib.hid ((hl.below BM.out).more BM.out.size)
  have EW := Lib.hid eWM
  have KA := Lib.hid (mcheck_ok WM A n n F SA.out hn hn hF)
  clear hs hl hF eWM
  go_enter Tryz.func29, Tryz.ntmps29
  go_wp2_with fail
  rw [← EW.out]
  refine (KA.out).mono ?_
  rintro e w1 ⟨rfl, hb⟩
  have R1 := Lib.hid (R1.out.of_block (hb.block _ R1.out.lt))
  have SA := Lib.hid ((SA.out.below hb).more hb.size)
  have SL := Lib.hid ((SL.out.below hb).more hb.size)
  have BM : Hid (Below w.heap.size w w1) := BM.out.trans (hb.mono BM.out.size)
  obtain ⟨d0, d1, df, dl⟩ := rm_cells R1.out
  clear hb KA EW
  by_cases h0 : n = 0
  · subst h0
    go_wp2_with fail
    go_ret2
    exact ⟨none, rfl, fun h => absurd h (by omega), BM.out⟩
  have hni : ¬ (n : Int) = 0 := by omega
  have hn0 : 0 < n := by omega
  have mk := make_ints n (by omega)
  have RW := World.rowIs_made w1 (.int .i64 0) n 3
  have G1 : Hid ((w1.alloc (.cells (madeCells #[.int .i64 0] n) 3)).rowIs w1.heap.size 3 n (i64s fun j => if j < 0 then l (F j) else 0)) := RW.congr fun j hj => by
    show Value.int .i64 0 = .int .i64 (if j < 0 then l (F j) else 0)
    rw [if_neg (by omega)]
  have bb : Below w1.heap.size w1 (w1.alloc (.cells (madeCells #[.int .i64 0] n) 3)) := (Below.refl _ w1).alloc (Nat.le_refl _) _
  have B1 := Lib.hid bb
  clear RW bb h0
  go_wp2_with fail
  clear mk
  go_loopw [31] (fun iv wr => ∃ k : Nat, k ≤ n ∧ iv = .int .i64 k ∧ Hid (wr.rowIs w1.heap.size 3 n (i64s fun j => if j < k then l (F j) else 0)) ∧ Hid (Below w1.heap.size w1 wr)) (fun iv _ => n - (intOf iv).toNat)
  case atStart => exact ⟨0, Nat.zero_le _, rfl, G1, B1⟩
  case round =>
    obtain ⟨k, hk, rfl, hG, hB⟩ := hrel
    clear G1 B1
    by_cases hlt : k < n
    · have hki : (k : Int) < (n : Int) := by omega
      obtain ⟨b, o, rfl, hb, hcell⟩ := (SA.out.below hB.out).at_ (k := k) hlt
      have hv := HF.out.lt k hlt
      obtain ⟨b2, o2, rfl, hb2, hcell2⟩ := (SL.out.below hB.out).at_ (k := F k) hv
      rw [nats, i64s_at] at hcell
      rw [i64s_at] at hcell2
      have s0 := hG.out.cell (i := k) hlt
      have sf := fun i => hG.out.frozen i
      have sl := hG.out.lt
      rw [i64s_at] at s0
      have z1 : (0 : Int) ≤ ((F k : Nat) : Int) := by omega
      have z2 : ((F k : Nat) : Int) < (n : Int) := by omega
      have FIN : Hid ((wr.setCell ⟨w1.heap.size, k, none⟩ (.int .i64 (l (F k)))).rowIs w1.heap.size 3 n (i64s fun j => if j < k + 1 then l (F j) else 0)) := (hG.out.set k (.int .i64 (l (F k)))).congr fun j hj => by
        show (if j = k then Value.int .i64 (l (F k)) else .int .i64 (if j < k then l (F j) else 0)) = .int .i64 (if j < k + 1 then l (F j) else 0)
        by_cases e : j = k
        · rw [if_pos e, if_pos (by omega), e]
        · rw [if_neg e]
          by_cases e2 : j < k
          · rw [if_pos e2, if_pos (by omega)]
          · rw [if_neg e2, if_neg (by omega)]
      have FB : Hid (Below w1.heap.size w1 (wr.setCell ⟨w1.heap.size, k, none⟩ (.int .i64 (l (F k))))) := hB.out.setCell (p := ⟨w1.heap.size, k, none⟩) (Nat.le_refl _) _
      clear hG hB
      generalize l (F k) = y at *
      generalize F k = x at *
      go_wp2_with fail
      go_roundw
      case rel => exact ⟨k + 1, by omega, by go_num, FIN, FB⟩
      case measure => simp [intOf]; omega
    · obtain rfl : n = k := by omega
      have FIN : Hid (Sees wr wr.heap.size (some ⟨w1.heap.size, 0, none⟩) n (i64s fun i => l (F i))) := (Sees.row hG.out (Nat.le_refl _)).congr fun j hj => by
        show Value.int .i64 (if j < n then l (F j) else 0) = .int .i64 (l (F j))
        rw [if_pos hj]
      have FB : Hid (Below w.heap.size w wr) := BM.out.trans (hB.out.mono BM.out.size)
      clear hG hB
      go_wp2_with fail
      go_ret2
      exact ⟨_, rfl, FIN.out, FB.out⟩
set_option maxRecDepth 100000 in
set_option maxHeartbeats 3200000 in
theorem moved_fr (w : World) (n a m t : Nat) (hn : n ≤ 4096) (ha : a + m ≤ n) (ht : t + m ≤ n) :
    Calls Tryz.prog 26 #[.int .i64 n, .int .i64 a, .int .i64 m, .int .i64 t] w fun e w' => ∃ A, e = .returned (.tuple #[.agg #[.int .i64 n, .slice A n n], .int .i64 0]) ∧ Sees w' w'.heap.size A n (nats fun i => movF a m t i) ∧ (∀ b, A.map (·.block) = some b → w.heap.size ≤ b) ∧ Below w.heap.size w w' := by
  have h1 : ¬ (t : Int) < 0 := by omega
  have h2 : ¬ (n : Int) - (m : Int) < (t : Int) := by omega
  have K1 : Hid (∀ W, Calls Tryz.prog 74 #[.int .i64 n] W fun e w' => e = .returned (.bool false) ∧ W = w') := fun W => rwrong_any W n hn
  have K2 : Hid (∀ W, Calls Tryz.prog 78 #[.int .i64 n, .int .i64 a, .int .i64 m] W fun e w' => e = .returned (.bool false) ∧ W = w') := fun W => routside_any W n a m hn ha
  obtain ⟨WM, eWM⟩ : ∃ W, W = ((((w.alloc (.cells #[.int .i64 a] 3)).alloc (.cells #[.int .i64 m] 3)).alloc (.cells #[.int .i64 t] 3)).alloc (.cells #[.int .i64 0, .slice none 0 0] 64)).alloc (.cells #[.func (.func 79) #[] #[.pointer (some ⟨w.heap.size, 0, none⟩), .pointer (some ⟨w.heap.size + 1, 0, none⟩)]] 143) := ⟨_, rfl⟩
  have FM : MC WM (w.heap.size + 1 + 1) (w.heap.size + 1 + 1 + 1 + 1) (w.heap.size + 1) w.heap.size a m t ∧ WM.rowIs (w.heap.size + 1 + 1 + 1) 64 2 (rmc 0 none 0) ∧ Below w.heap.size w WM ∧ WM.heap.size = w.heap.size + 5 := by
    rw [eWM]
    have one : ∀ (W : World) (v : Value) (t : TypeId), (W.alloc (.cells #[v] t)).rowIs W.heap.size t 1 (fun _ => v) := fun W v t => World.rowIs_alloc W #[v] t _ (fun j hj => by
      have : j = 0 := by simp at hj; omega
      subst this; rfl)
    have r1 := one w (.int .i64 a) 3
    have r2 := one (w.alloc (.cells #[.int .i64 a] 3)) (.int .i64 m) 3
    have r3 := one ((w.alloc (.cells #[.int .i64 a] 3)).alloc (.cells #[.int .i64 m] 3)) (.int .i64 t) 3
    have r4 := rm_new (((w.alloc (.cells #[.int .i64 a] 3)).alloc (.cells #[.int .i64 m] 3)).alloc (.cells #[.int .i64 t] 3)) 0 none 0
    have r5 := one ((((w.alloc (.cells #[.int .i64 a] 3)).alloc (.cells #[.int .i64 m] 3)).alloc (.cells #[.int .i64 t] 3)).alloc (.cells #[.int .i64 0, .slice none 0 0] 64)) (.func (.func 79) #[] #[.pointer (some ⟨w.heap.size, 0, none⟩), .pointer (some ⟨w.heap.size + 1, 0, none⟩)]) 143
    simp only [World.size_alloc] at r2 r3 r4 r5
    exact ⟨⟨(row_alloc (row_alloc r3 _) _).cell (i := 0) (by omega), r5.cell (i := 0) (by omega), (row_alloc (row_alloc (row_alloc r2 _) _) _).cell (i := 0) (by omega), (row_alloc (row_alloc (row_alloc (row_alloc r1 _) _) _) _).cell (i := 0) (by omega)⟩, row_alloc r4 _, (((((Below.refl _ w).alloc (Nat.le_refl _) _).alloc (by simp) _).alloc (by simp; omega) _).alloc (by simp; omega) _).alloc (by simp; omega) _, by simp⟩
  obtain ⟨M1, M2, M3, M4⟩ := FM
  have KM := Lib.hid (madeMoved WM (w.heap.size + 1 + 1) (w.heap.size + 1 + 1 + 1 + 1) (w.heap.size + 1) w.heap.size n hn n (fun i => movF a m t i) (fun i hi W hb => (moved2_any W (w.heap.size + 1 + 1) (w.heap.size + 1 + 1 + 1 + 1) (w.heap.size + 1) w.heap.size a m t i n ⟨(hb.cell (p := ⟨w.heap.size + 1 + 1, 0, none⟩) (by show w.heap.size + 1 + 1 < _; omega)).trans M1.ct, (hb.cell (p := ⟨w.heap.size + 1 + 1 + 1 + 1, 0, none⟩) (by show w.heap.size + 1 + 1 + 1 + 1 < _; omega)).trans M1.cr, (hb.cell (p := ⟨w.heap.size + 1, 0, none⟩) (by show w.heap.size + 1 < _; omega)).trans M1.cm, (hb.cell (p := ⟨w.heap.size, 0, none⟩) (by show w.heap.size < _; omega)).trans M1.ca⟩ hi hn ha ht).mono fun e w' ⟨x, y⟩ => ⟨x, by rw [← y]; exact Drawn.refl _⟩))
  have R2 := Lib.hid M2
  have R3 := Lib.hid M3
  have EW := Lib.hid eWM
  have MS := Lib.hid M4
  clear M1 M2 M3 M4 eWM
  go_enter Tryz.func26, Tryz.ntmps26
  go_wp2_with fail
  refine (K1.out _).mono ?_
  rintro e w' ⟨rfl, rfl⟩
  go_wp2_with fail
  refine (K2.out _).mono ?_
  rintro e w' ⟨rfl, rfl⟩
  go_wp2_with fail
  rw [← EW.out]
  refine (KM.out).mono ?_
  rintro e w2 ⟨A, rfl, ⟨hs, hA⟩, hb⟩
  have sz := MS.out
  have Q2 := R2.out.of_block (hb.block _ R2.out.lt)
  obtain ⟨d0, d1, df, dl⟩ := rm_cells Q2
  have B2 := R3.out.trans (hb.mono R3.out.size)
  have FIN : Hid (Sees ((w2.setCell ⟨w.heap.size + 1 + 1 + 1, 0, none⟩ (.int .i64 n)).setCell ⟨w.heap.size + 1 + 1 + 1, 1, none⟩ (.slice A n n)) ((w2.setCell ⟨w.heap.size + 1 + 1 + 1, 0, none⟩ (.int .i64 n)).setCell ⟨w.heap.size + 1 + 1 + 1, 1, none⟩ (.slice A n n)).heap.size A n (nats fun i => movF a m t i) ∧ (∀ b, A.map (·.block) = some b → w.heap.size ≤ b) ∧ Below w.heap.size w ((w2.setCell ⟨w.heap.size + 1 + 1 + 1, 0, none⟩ (.int .i64 n)).setCell ⟨w.heap.size + 1 + 1 + 1, 1, none⟩ (.slice A n n))) := by
    refine ⟨fun h0 => ?_, fun b hb => by have := hA b hb; omega, (B2.setCell (p := ⟨w.heap.size + 1 + 1 + 1, 0, none⟩) (by show w.heap.size ≤ w.heap.size + 1 + 1 + 1; omega) _).setCell (p := ⟨w.heap.size + 1 + 1 + 1, 1, none⟩) (by show w.heap.size ≤ w.heap.size + 1 + 1 + 1; omega) _⟩
    obtain ⟨b, o, e, h1, h2⟩ := hs h0
    have hne : b ≠ w.heap.size + 1 + 1 + 1 := by
      have := hA b (by rw [e]; rfl)
      omega
    refine ⟨b, o, e, by simp [World.setCell]; exact h1, fun j hj => ?_⟩
    rw [World.cell?_of_block (w := w2) (by rw [Below.heap_setCell _ _ _ _ hne, Below.heap_setCell _ _ _ _ hne])]
    exact h2 j hj
  clear hs hb Q2 B2 KM R2 R3 EW sz
  go_wp2_with fail
  exact bodyPost_ret (v := .tuple #[.agg #[.int .i64 n, .slice A n n], .int .i64 0]) (by simp [results, Tryz.results26, go_sem, d0, d1, df]) rfl ⟨_, rfl, FIN.out⟩
end Go.Proofs.YtfmfmeiaekknbaaGreat
end

section
/-
  Package rises: Moves, where the other order has the same numbers.
-/
namespace Go.Proofs.YtfmfmeiaekknbaaGreat
open Go.RowKit Go.Shelf
set_option linter.unusedVariables false
set_option linter.unusedSimpArgs false

attribute [local go_sem] Oper.semAt_some

theorem infoStep : (Tryz.prog.info? 69).map (fun i => (i.zero, i.size, i.bytes)) = some (some (.agg #[.int .i64 0, .int .i64 0]), 2, 16) := by kernel_rfl
/-- append(own, a pair). -/
theorem push_step (w : World) (B : Nat) {n c : Nat} {A : Option Addr} {F : Nat → Value} (h : Own w B 69 2 n c A F) (hB : B ≤ w.heap.size) (x y : Int) (hm : n ≤ 900000000) :
    ∃ A' c' w', (∀ ty, (Builtin.append_ #[57, 57] ty #[.slice A n c, .slice (some ⟨w.heap.size, 0, none⟩) 1 1]).run Tryz.prog (w.alloc (.cells #[.int .i64 x, .int .i64 y] 69)) = .ok (.slice A' (n + 1) c') w') ∧ Own w' B 69 2 (n + 1) c' A' (fun j => if j < n * 2 then F j else if j = n * 2 then .int .i64 x else .int .i64 y) ∧ Fr (fun b => A.map (·.block) = some b) w w' ∧ (A' = A ∨ ∃ g, A' = some ⟨g, 0, none⟩ ∧ w.heap.size ≤ g) ∧ (c ≤ maxLen → c' ≤ maxLen) := by
  have L0 : Below w.heap.size w (w.alloc (.cells #[.int .i64 x, .int .i64 y] 69)) := (Below.refl _ w).alloc (Nat.le_refl _) _
  have hs : Sees (w.alloc (.cells #[.int .i64 x, .int .i64 y] 69)) (w.heap.size + 1) (some ⟨w.heap.size, 0, none⟩) (1 * 2) (fun j => if j = 0 then .int .i64 x else .int .i64 y) := by
    have := Sees.lit w #[.int .i64 x, .int .i64 y] 69 (fun j => if j = 0 then .int .i64 x else .int .i64 y) 2 rfl (fun j hj => by
      have : j = 0 ∨ j = 1 := by omega
      rcases this with rfl | rfl <;> rfl)
    simpa using this
  obtain ⟨A', c', w', run, O, fr, a, m⟩ := own_append2' (P := Tryz.prog) (w.alloc (.cells #[.int .i64 x, .int .i64 y] 69)) B Tryz.underlying57 infoStep rfl (by omega) Tryz.underlying57 (h.below L0) (by rw [World.size_alloc]; omega) (c2 := 1) hs (fun j => by split <;> rfl) (by omega) (by omega)
  refine ⟨A', c', w', run, O.congr fun j hj => ?_, (Fr.of_below L0).trans fr, ?_, m⟩
  · by_cases d : j < n * 2
    · rw [if_pos d, if_pos d]
    · rw [if_neg d, if_neg d]
      by_cases d2 : j = n * 2
      · rw [if_pos (by omega), if_pos d2]
      · rw [if_neg (by omega), if_neg d2]
  · rcases a with a | ⟨g, a1, a2⟩
    · exact .inl a
    · exact .inr ⟨g, a1, by rw [World.size_alloc] at a2; omega⟩
theorem spf_push1 {L : Sp} {x y : Int} : ∀ j, j < (L.length + 1) * 2 → (if j < L.length * 2 then spf L j else if j = L.length * 2 then Value.int .i64 x else .int .i64 y) = spf (L ++ [(x, y)]) j := fun j hj => by
  unfold spf
  rw [sg_app]
  by_cases d : j < L.length * 2
  · rw [if_pos d, if_pos (show j / 2 < L.length by omega)]
  · rw [if_neg d, if_neg (show ¬ j / 2 < L.length by omega)]
    by_cases d2 : j = L.length * 2
    · rw [if_pos d2, if_pos (show j % 2 = 0 by omega), show j / 2 - L.length = 0 from by omega]; rfl
    · rw [if_neg d2, if_neg (show ¬ j % 2 = 0 by omega), show j / 2 - L.length = 0 from by omega]; rfl

/-- What the rounds of Moves keep: the kept places that are left, the steps, the number ahead. -/
structure MI (wB : World) (b6 b8 b9 g0 : Nat) (A : Option Addr) (c : Nat) (r : Nat → Nat) (q : Nat) (pre : List (Int × Int)) (W : World) : Prop where
  x6 : Boxed W b6 54 (.slice A (mst r q pre).1 c)
  x9 : Boxed W b9 3 (.int .i64 (mst r q pre).2.2)
  x8 : ∃ Ao co, Boxed W b8 57 (.slice Ao (mst r q pre).2.1.length co) ∧ Own W g0 69 2 (mst r q pre).2.1.length co Ao (spf (mst r q pre).2.1) ∧ ∀ k, Ao.map (·.block) = some k → k = g0 ∨ wB.heap.size ≤ k
  kz : Kz wB.heap.size (fun b => b = b6 ∨ b = b8 ∨ b = b9 ∨ b = g0) wB W
theorem Own.grown {w w' : World} {B : Nat} {e : TypeId} {sz n c : Nat} {A : Option Addr} {F : Nat → Value} {row : Option Nat} (h : Own w B e sz n c A F) (hg : w.grownBy w' row) (hr : ∀ r, row = some r → ∃ o : Obj, w.heap[r]? = some o ∧ o.isCells = false) : Own w' B e sz n c A F := by
  rcases h with h | ⟨h1, g, F', h2, h3, h4, h5⟩
  · exact .inl h
  · refine .inr ⟨h1, g, F', h2, h3, h4.of_block (hg.block g h4.lt (fun e => ?_)), h5⟩
    obtain ⟨o, a, b⟩ := hr g e.symm
    obtain ⟨cs, e1, _⟩ := h4
    rw [e1] at a
    cases a
    cases b
theorem boxed_grown {W W' : World} {row : Option Nat} {B : Nat} {t : TypeId} {v : Value} (h : Boxed W B t v) (hg : W.grownBy W' row) (hr : ∀ r, row = some r → ∃ o : Obj, W.heap[r]? = some o ∧ o.isCells = false) : Boxed W' B t v :=
  h.kept hg (fun e => by
    obtain ⟨o, a, b⟩ := hr B e.symm
    rw [show W.heap[B]? = _ from h] at a
    cases a
    cases b)
theorem MI.own (wB : World) (b6 b8 b9 g0 : Nat) (A : Option Addr) (c : Nat) (r : Nat → Nat) (q : Nat) : OwnFrom wB.heap.size (fun (pre : List (Int × Int)) W => MI wB b6 b8 b9 g0 A c r q pre W) := by
  rintro pre X Y row h hg hr
  have hr' : ∀ x, row = some x → ∃ o : Obj, X.heap[x]? = some o ∧ o.isCells = false := fun x e => (hr x e).2
  obtain ⟨Ao, co, h1, h2, h3⟩ := h.x8
  exact ⟨boxed_grown h.x6 hg hr', boxed_grown h.x9 hg hr', ⟨Ao, co, boxed_grown h1 hg hr', h2.grown hg hr', h3⟩, h.kz.trans (Kz.grown hg h.kz.size (fun x e => (hr x e).1))⟩

theorem szInt' : (Tryz.prog.info? 3).map (·.size) = some 1 := by kernel_rfl
set_option maxRecDepth 100000 in
set_option maxHeartbeats 6400000 in
theorem moves_ok (w : World) (A A2 : Option Addr) (n c c2 : Nat) (l m : Nat → Int) (pos : Nat → Nat) (h : Sees w w.heap.size A n (i64s l)) (h2 : Sees w w.heap.size A2 n (i64s m)) (hn : n ≤ 4096) (ht : Two l m n pos) :
    Calls Tryz.prog 22 #[.slice A n c, .slice A2 n c2] w fun e w' => ∃ (q : Nat) (r : Nat → Nat) (O : Sp) (A' : Option Addr) (c' : Nat), e = .returned (.tuple #[.slice A' O.length c', .int .i64 0]) ∧ Longest (fun i => (pos i : Int)) n q r ∧ (O = (mst r q (bk m n n)).2.1 ∨ q = n ∧ O = []) ∧ Sees w' w'.heap.size A' (O.length * 2) (spf O) ∧ Below w.heap.size w w' := by
  have H2 := Lib.hid h2
  have KK := Lib.hid (kept_ok w A A2 n c c2 l m pos h h2 hn ht)
  clear h h2
  refine (callsIn_wide (n := 8)).1 (callsIn_of_wp_marks Tryz.func22 rfl trivial ?_ rfl)
  simp only [Tryz.ntmps22, List.size_toArray, List.length_cons, List.length_nil, Nat.reduceAdd, Nat.reduceSub, Array.replicate_succ, Array.replicate_zero, List.push_toArray, List.append_toArray, List.nil_append, List.cons_append]
  refine wpIn_wide.2 ?_
  go_wp2_with fail
  refine (KK.out).mono ?_
  rintro e w1 ⟨A1, q, c1, r, rfl, k1, k2, k3, k4, k5, k6⟩
  have K1 := Lib.hid k1
  have K3 := Lib.hid k3
  have B1 := Lib.hid k6
  clear KK k1 k3 k6
  by_cases hq : q = n
  · subst hq
    have FIN : Hid (Below w.heap.size w (w1.alloc (.cells #[.slice A1 q c1] 54))) := B1.out.alloc B1.out.size _
    go_wp2_with fail
    exact ⟨.tuple #[.slice none 0 0, .int .i64 0], by simp [results, Tryz.results22, go_sem], q, r, [], none, 0, rfl, K1.out, .inr ⟨rfl, rfl⟩, fun h => absurd h (by simp), FIN.out⟩
  have hqi : ¬ (q : Int) = (n : Int) := by omega
  have mk : ∀ W : World, (Instr.makeSlice 57 (.int .i64 0) (.int .i64 ((n : Int) - (q : Int)))).run Tryz.prog W = .ok (.slice (some ⟨W.heap.size, 0, none⟩) 0 (n - q)) (W.alloc (.cells (madeCells #[.int .i64 0, .int .i64 0] ((n - q) * 2)) 69)) := fun W => by
    obtain ⟨i, hi, hzz⟩ := Option.map_eq_some_iff.1 infoStep
    simp only [Prod.mk.injEq] at hzz
    obtain ⟨hz, hs, hb⟩ := hzz
    have := run_make (P := Tryz.prog) W 57 69 i _ Tryz.underlying57 hi hz .i64 .i64 0 ((n : Int) - q) (by omega) (by omega) (by rw [hb]; omega) (by omega)
    rw [hs, show ((n : Int) - q).toNat = n - q by omega] at this
    exact this
  go_wp2_with fail
  refine (backward_any _ A2 n c2).mono ?_
  rintro e wB ⟨rfl, eB⟩
  obtain ⟨bs, ebs⟩ : ∃ b, b = w1.heap.size := ⟨_, rfl⟩
  have MB : MI wB w1.heap.size (w1.heap.size + 1 + 1) (w1.heap.size + 1 + 1 + 1) (w1.heap.size + 1) A1 c1 r q [] wB ∧ Boxed wB (w1.heap.size + 1 + 1 + 1 + 1) 54 (.slice A2 n c2) ∧ Below w1.heap.size w1 wB ∧ wB.heap.size = w1.heap.size + 5 := by
    rw [eB]
    have x6 := ((((Boxed.new w1 54 (.slice A1 q c1)).alloc (.cells (madeCells #[.int .i64 0, .int .i64 0] ((n - q) * 2)) 69)).alloc (.cells #[.slice (some ⟨w1.heap.size + 1, 0, none⟩) 0 (n - q)] 57)).alloc (.cells #[.int .i64 (-1)] 3)).alloc (.cells #[.slice A2 n c2] 54)
    have rg := World.rowIs_alloc (w1.alloc (.cells #[.slice A1 q c1] 54)) (madeCells #[.int .i64 0, .int .i64 0] ((n - q) * 2)) 69 (fun _ => .int .i64 0) (fun j hj => by
      rw [size_madeCells] at hj
      have h2 : j % 2 = 0 ∨ j % 2 = 1 := by omega
      rcases h2 with h | h <;> simp [madeCells, hj, h])
    have rg2 := row_alloc (row_alloc (row_alloc rg (.cells #[.slice (some ⟨w1.heap.size + 1, 0, none⟩) 0 (n - q)] 57)) (.cells #[.int .i64 (-1)] 3)) (.cells #[.slice A2 n c2] 54)
    have x8 := ((Boxed.new ((w1.alloc (.cells #[.slice A1 q c1] 54)).alloc (.cells (madeCells #[.int .i64 0, .int .i64 0] ((n - q) * 2)) 69)) 57 (.slice (some ⟨w1.heap.size + 1, 0, none⟩) 0 (n - q))).alloc (.cells #[.int .i64 (-1)] 3)).alloc (.cells #[.slice A2 n c2] 54)
    have x9 := (Boxed.new (((w1.alloc (.cells #[.slice A1 q c1] 54)).alloc (.cells (madeCells #[.int .i64 0, .int .i64 0] ((n - q) * 2)) 69)).alloc (.cells #[.slice (some ⟨w1.heap.size + 1, 0, none⟩) 0 (n - q)] 57)) 3 (.int .i64 (-1))).alloc (.cells #[.slice A2 n c2] 54)
    have xs := Boxed.new ((((w1.alloc (.cells #[.slice A1 q c1] 54)).alloc (.cells (madeCells #[.int .i64 0, .int .i64 0] ((n - q) * 2)) 69)).alloc (.cells #[.slice (some ⟨w1.heap.size + 1, 0, none⟩) 0 (n - q)] 57)).alloc (.cells #[.int .i64 (-1)] 3)) 54 (.slice A2 n c2)
    simp only [World.size_alloc, size_madeCells] at rg2 x8 x9 xs
    refine ⟨⟨x6, x9, ⟨_, n - q, x8, .inr ⟨Nat.zero_le _, _, _, rfl, Nat.le_refl _, rg2, fun j hj => absurd hj (by simp [mst])⟩, fun k hk => by injection hk with hk; exact .inl hk.symm⟩, Kz.refl _ _ _⟩, xs, ?_, by simp⟩
    exact (((((Below.refl _ w1).alloc (Nat.le_refl _) _).alloc (by simp) _).alloc (by simp; omega) _).alloc (by simp; omega) _).alloc (by simp; omega) _
  obtain ⟨M0, XS, BB, SZ⟩ := MB
  have XS := Lib.hid XS
  have M0 := Lib.hid M0
  have SZ' := Lib.hid SZ
  clear eB mk SZ
  go_wp2_with fail
  have SZ := SZ'.out
  obtain ⟨B, eBs⟩ : ∃ B, B = w1.heap.size := ⟨_, rfl⟩
  have lB : w.heap.size ≤ w1.heap.size := B1.out.size
  refine (wpIn_wide (n := 8)).1 ?_
  refine wpIn_rangeFunc_ownH (F := Fence.wide) (n := 8) rfl (by omega) (gf := 133) (lb := #[.pointer (some ⟨w1.heap.size + 1 + 1 + 1 + 1, 0, none⟩)]) (by simp [go_sem]; done) trivial (enters_of Tryz.func133 (by kernel_rfl) rfl)
    (encs := encB) (Kp := Kz wB.heap.size (fun b => b = w1.heap.size ∨ b = w1.heap.size + 1 + 1 ∨ b = w1.heap.size + 1 + 1 + 1 ∨ b = w1.heap.size + 1)) (S := fun ys => ys = bk m n n) (Sp := fun _ => True) (N := n) (w0 := wB)
    (fun l J Jx W hW hJ _ hY h0 => backward1_in 7 (by omega) l (w1.heap.size + 1 + 1 + 1 + 1) wB.heap.size _ A2 n c2 m hn (by omega) (by omega) J Jx hY W ((hW.cell (p := ⟨w1.heap.size + 1 + 1 + 1 + 1, 0, none⟩) (by show w1.heap.size + 1 + 1 + 1 + 1 < _; omega)).trans XS.out.cell)
      (fun h => by
        obtain ⟨b, o, e, hb, hc⟩ := H2.out h
        exact ⟨b, o, e, by omega, by omega, fun j hj => (hW.cell (p := ⟨b, o + j, none⟩) (by show b < _; omega)).trans ((BB.cell (p := ⟨b, o + j, none⟩) (by show b < _; omega)).trans ((B1.out.cell (p := ⟨b, o + j, none⟩) hb).trans (hc j hj)))⟩) h0)
    (fun h k => h.trans k) (fun W l o o' hl h h1 h2 => Kz.of_below (belowK_b (w := wB) (Nat.le_refl _) W l o o' hl h h1 h2)) (Below.refl _ _) (fun _ => rfl)
    (fun pre W => MI wB w1.heap.size (w1.heap.size + 1 + 1) (w1.heap.size + 1 + 1 + 1) (w1.heap.size + 1) A1 c1 r q pre W) (fun _ _ _ => False) (MI.own _ _ _ _ _ _ _ _ _) (fun _ _ _ _ _ hs _ _ => hs)
    M0.out
    (fun x a' W => a' = { tmps := #[.slice A n c, .slice A2 n c2, undef, undef, .slice none 0 0, .int .i64 0, .pointer (some ⟨w1.heap.size, 0, none⟩), .int .i64 0, .pointer (some ⟨w1.heap.size + 1 + 1, 0, none⟩), .pointer (some ⟨w1.heap.size + 1 + 1 + 1, 0, none⟩), .int .i64 x.1, .int .i64 x.2, undef,
      .tuple #[.slice A1 q c1, .int .i64 0], .slice A n c, .slice A2 n c2, .tuple #[.slice A1 q c1, .int .i64 0], .slice A1 q c1, .int .i64 0, .int .i64 0, .bool false, .bool false, .slice A1 q c1, .int .i64 q, .slice A2 n c2, .int .i64 n, .bool false, .bool false, undef, .slice A2 n c2, .int .i64 n, .slice A1 q c1, .int .i64 q, .int .i64 ((n : Int) - q),
      .slice (some ⟨w1.heap.size + 1, 0, none⟩) 0 (n - q), .slice A2 n c2, .func (.func 133) #[] #[.pointer (some ⟨w1.heap.size + 1 + 1 + 1 + 1, 0, none⟩)], .int .i64 x.1, .int .i64 x.2,
      undef, undef, undef, undef, undef, undef, undef, undef, undef, undef, undef, undef, undef, undef, undef, undef, undef, undef, undef, undef, undef, undef, undef, undef, undef], defers := [] })
    (fun x a' _ X Y row hs hg hr => hs)
    ?assign ?body ?done ?stop
  case assign =>
    rintro l pre x W K hM hK
    simp only [encB]
    gi_wp2
    exact hK _ _ (KeepsFrom.refl _ _) (Kz.refl _ _ _) hM rfl
  case body =>
    rintro l pre x a' W hl ⟨r', hr'⟩ hM rfl hlt
    clear hr'
    dsimp only
    obtain ⟨i, v⟩ := x
    obtain ⟨Ao, co, y1, y2, y3⟩ := hM.x8
    have x6 := hM.x6
    have x9 := hM.x9
    have KZ := Lib.hid hM.kz
    have hbd := mst_bd r q pre
    obtain ⟨⟨q', O, av⟩, ep⟩ : ∃ s, s = mst r q pre := ⟨_, rfl⟩
    have em : Hid (mst r q (pre ++ [(i, v)]) = mstep r (q', O, av) (i, v)) := by show _ = _; rw [mst_snoc, ← ep]
    rw [← ep] at y1 y2 x6 x9 hbd
    dsimp only at y1 y2 x6 x9 hbd
    clear hM ep
    obtain ⟨hb1, hb2⟩ := hbd
    have c6 := x6.cell
    have f6 := x6.frozen
    have c8 := y1.cell
    have f8 := y1.frozen
    have c9 := x9.cell
    have f9 := x9.frozen
    have l6 := x6.lt
    have l8 := y1.lt
    have l9 := x9.lt
    have n68 : ¬ w1.heap.size = w1.heap.size + 1 + 1 := by omega
    have n69 : ¬ w1.heap.size = w1.heap.size + 1 + 1 + 1 := by omega
    have n89 : ¬ w1.heap.size + 1 + 1 = w1.heap.size + 1 + 1 + 1 := by omega
    have n86 : ¬ w1.heap.size + 1 + 1 = w1.heap.size := by omega
    have n96 : ¬ w1.heap.size + 1 + 1 + 1 = w1.heap.size := by omega
    have n98 : ¬ w1.heap.size + 1 + 1 + 1 = w1.heap.size + 1 + 1 := by omega
    have PUT : ∀ (W2 : World) (A' : Option Addr) (c' : Nat), Fr (fun b => Ao.map (·.block) = some b) W W2 → Own W2 (w1.heap.size + 1) 69 2 (O.length + 1) c' A' (fun j => if j < O.length * 2 then spf O j else if j = O.length * 2 then .int .i64 v else .int .i64 av) → (A' = Ao ∨ ∃ g, A' = some ⟨g, 0, none⟩ ∧ W.heap.size ≤ g) → (¬ (0 < q' ∧ ((r (q' - 1) : Nat) : Int) = i)) →
        KeepsFrom wB.heap.size W ((W2.setCell ⟨w1.heap.size + 1 + 1, 0, none⟩ (.slice A' (O.length + 1) c')).setCell ⟨w1.heap.size + 1 + 1 + 1, 0, none⟩ (.int .i64 v)) ∧ Kz wB.heap.size (fun b => b = w1.heap.size ∨ b = w1.heap.size + 1 + 1 ∨ b = w1.heap.size + 1 + 1 + 1 ∨ b = w1.heap.size + 1) W ((W2.setCell ⟨w1.heap.size + 1 + 1, 0, none⟩ (.slice A' (O.length + 1) c')).setCell ⟨w1.heap.size + 1 + 1 + 1, 0, none⟩ (.int .i64 v)) ∧
        MI wB w1.heap.size (w1.heap.size + 1 + 1) (w1.heap.size + 1 + 1 + 1) (w1.heap.size + 1) A1 c1 r q (pre ++ [(i, v)]) ((W2.setCell ⟨w1.heap.size + 1 + 1, 0, none⟩ (.slice A' (O.length + 1) c')).setCell ⟨w1.heap.size + 1 + 1 + 1, 0, none⟩ (.int .i64 v)) := by
      intro W2 A' c' fr O2 ha hno
      have hAo : ∀ k, Ao.map (·.block) = some k → k ≠ w1.heap.size ∧ k ≠ w1.heap.size + 1 + 1 ∧ k ≠ w1.heap.size + 1 + 1 + 1 := fun k hk => by rcases y3 k hk with h | h <;> omega
      have hA' : ∀ k, A'.map (·.block) = some k → k = w1.heap.size + 1 ∨ wB.heap.size ≤ k := fun k hk => by
        rcases ha with rfl | ⟨g, rfl, hg⟩
        · exact y3 k hk
        · injection hk with hk
          have := KZ.out.size
          right; show wB.heap.size ≤ k; rw [← hk]; show wB.heap.size ≤ g; omega
      have z6 : Boxed W2 w1.heap.size 54 (.slice A1 q' c1) := (fr.block _ l6 (fun e => (hAo _ e).1 rfl)).trans x6
      have z8 : Boxed W2 (w1.heap.size + 1 + 1) 57 (.slice Ao O.length co) := (fr.block _ l8 (fun e => (hAo _ e).2.1 rfl)).trans y1
      have z9 : Boxed W2 (w1.heap.size + 1 + 1 + 1) 3 (.int .i64 av) := (fr.block _ l9 (fun e => (hAo _ e).2.2 rfl)).trans x9
      have F2 : Fr (fun b => (b = w1.heap.size + 1 + 1 ∨ b = w1.heap.size + 1 + 1 + 1) ∨ Ao.map (·.block) = some b) W ((W2.setCell ⟨w1.heap.size + 1 + 1, 0, none⟩ (.slice A' (O.length + 1) c')).setCell ⟨w1.heap.size + 1 + 1 + 1, 0, none⟩ (.int .i64 v)) :=
        Fr.setCell (S := fun b => (b = w1.heap.size + 1 + 1 ∨ b = w1.heap.size + 1 + 1 + 1) ∨ Ao.map (·.block) = some b) (Fr.setCell (S := fun b => (b = w1.heap.size + 1 + 1 ∨ b = w1.heap.size + 1 + 1 + 1) ∨ Ao.map (·.block) = some b) (fr.mono fun b h => .inr h) (p := ⟨w1.heap.size + 1 + 1, 0, none⟩) (.inl (.inl rfl)) _) (p := ⟨w1.heap.size + 1 + 1 + 1, 0, none⟩) (.inl (.inr rfl)) _
      have KF : Kz wB.heap.size (fun b => b = w1.heap.size ∨ b = w1.heap.size + 1 + 1 ∨ b = w1.heap.size + 1 + 1 + 1 ∨ b = w1.heap.size + 1) W ((W2.setCell ⟨w1.heap.size + 1 + 1, 0, none⟩ (.slice A' (O.length + 1) c')).setCell ⟨w1.heap.size + 1 + 1 + 1, 0, none⟩ (.int .i64 v)) :=
        Kz.of_fr F2 KZ.out.size fun b hb => by
          rcases hb with (h | h) | h
          · exact .inl (.inr (.inl h))
          · exact .inl (.inr (.inr (.inl h)))
          · rcases y3 b h with h | h
            · exact .inl (.inr (.inr (.inr h)))
            · exact .inr h
      have KW : KeepsFrom wB.heap.size W ((W2.setCell ⟨w1.heap.size + 1 + 1, 0, none⟩ (.slice A' (O.length + 1) c')).setCell ⟨w1.heap.size + 1 + 1 + 1, 0, none⟩ (.int .i64 v)) :=
        ⟨F2.size, fun k o hk ho hc => (F2.block k (Array.getElem?_eq_some_iff.1 ho).1 (fun h => by
          rcases h with (h | h) | h
          · omega
          · omega
          · rcases y2 with ⟨e, _⟩ | ⟨_, g, F', e, _, row, _⟩
            · rw [e] at h; cases h
            · rw [e] at h
              injection h with h
              obtain ⟨cs, e1, _⟩ := row
              rw [show g = k from h] at e1
              rw [e1] at ho
              cases ho
              cases hc)).trans ho⟩
      refine ⟨KW, KF, ?_, ?_, ?_, KZ.out.trans KF⟩
      · rw [em.out]; unfold mstep; rw [if_neg hno]
        exact (z6.other (by omega) _).other (by omega) _
      · rw [em.out]; unfold mstep; rw [if_neg hno]
        exact (z9.other (by omega) _).set _
      · rw [em.out]; unfold mstep; rw [if_neg hno]
        refine ⟨A', c', ?_, ?_, hA'⟩
        · show Boxed _ _ _ (.slice A' (O ++ [(v, av)]).length c')
          rw [List.length_append]
          exact (z8.set _).other (by omega) _
        · show Own _ _ _ _ (O ++ [(v, av)]).length _ _ (spf (O ++ [(v, av)]))
          rw [List.length_append]
          have hA'' : ∀ k, A'.map (·.block) = some k → k ≠ w1.heap.size + 1 + 1 ∧ k ≠ w1.heap.size + 1 + 1 + 1 := fun k hk => by rcases hA' k hk with h | h <;> omega
          refine Own.fr (S := fun b => b = w1.heap.size + 1 + 1 ∨ b = w1.heap.size + 1 + 1 + 1) (O2.congr fun j hj => spf_push1 j hj) (Fr.setCell (S := fun b => b = w1.heap.size + 1 + 1 ∨ b = w1.heap.size + 1 + 1 + 1) (Fr.setCell (S := fun b => b = w1.heap.size + 1 + 1 ∨ b = w1.heap.size + 1 + 1 + 1) (Fr.refl _ _) (p := ⟨w1.heap.size + 1 + 1, 0, none⟩) (.inl rfl) _) (p := ⟨w1.heap.size + 1 + 1 + 1, 0, none⟩) (.inr rfl) _) (fun b hb h => ?_)
          have := hA'' b hb
          rcases h with h | h
          · exact this.1 h
          · exact this.2 h
    have PUT := Lib.hid PUT
    obtain ⟨A2', c2', w2, run, O2, fr, ha, _⟩ := push_step W (w1.heap.size + 1) y2 (by omega) v av (by omega)
    have RUN := Lib.hid run
    have OO := Lib.hid O2
    have FF := Lib.hid fr
    have HA := Lib.hid ha
    obtain ⟨nO, enO⟩ : ∃ k, k = O.length := ⟨_, rfl⟩
    have ENO := Lib.hid enO
    rw [← enO] at c8 RUN
    have Z : Hid (∀ (W2 : World), Fr (fun b => Ao.map (·.block) = some b) W W2 → W2.cell? ⟨w1.heap.size + 1 + 1, 0, none⟩ = some (.slice Ao nO co) ∧ W2.frozen? ⟨w1.heap.size + 1 + 1, 0, none⟩ = false ∧ W2.cell? ⟨w1.heap.size + 1 + 1 + 1, 0, none⟩ = some (.int .i64 av) ∧ W2.frozen? ⟨w1.heap.size + 1 + 1 + 1, 0, none⟩ = false) := fun W2 fr => by
      have hAo : ∀ k, Ao.map (·.block) = some k → k ≠ w1.heap.size ∧ k ≠ w1.heap.size + 1 + 1 ∧ k ≠ w1.heap.size + 1 + 1 + 1 := fun k hk => by rcases y3 k hk with h | h <;> omega
      have z8 : Boxed W2 (w1.heap.size + 1 + 1) 57 (.slice Ao O.length co) := (fr.block _ l8 (fun e => (hAo _ e).2.1 rfl)).trans y1
      have z9 : Boxed W2 (w1.heap.size + 1 + 1 + 1) 3 (.int .i64 av) := (fr.block _ l9 (fun e => (hAo _ e).2.2 rfl)).trans x9
      rw [ENO.out]
      exact ⟨z8.cell, z8.frozen, z9.cell, z9.frozen⟩
    cases q' with
    | zero =>
      clear run O2 fr ha y1 y2 y3 enO x6 x9
      gi_wp2_with (gi_at_builtin; refine Hid.out ?_)
      refine Lib.hid (wpListIn_append_run _ rfl _ _ _ _ rfl _ _ rfl rfl _ _ (RUN.out _) ?_)
      obtain ⟨u1, u2, u3, u4⟩ := Z.out w2 FF.out
      gi_wp2_with fail
      have FIN := PUT.out w2 A2' c2' FF.out OO.out HA.out (by omega)
      rw [← ENO.out] at FIN
      exact FIN
    | succ p =>
      have hk : ∃ b o, A1 = some ⟨b, o, none⟩ ∧ W.cell? ⟨b, o + p, none⟩ = some (.int .i64 (r p)) := by
        obtain ⟨b, o, e, hb, hc⟩ := K3.out.at_ (k := p) (by omega)
        refine ⟨b, o, e, ?_⟩
        rw [i64s_at] at hc
        exact (KZ.out.cell (p := ⟨b, o + p, none⟩) (by show b < _; omega) (by show ¬ (b = w1.heap.size ∨ b = w1.heap.size + 1 + 1 ∨ b = w1.heap.size + 1 + 1 + 1 ∨ b = w1.heap.size + 1); omega)).trans ((BB.cell (p := ⟨b, o + p, none⟩) hb).trans hc)
      obtain ⟨b, o, eA, ck⟩ := hk
      have hpi : (p : Int) < (p : Int) + 1 := by omega
      have hp0 : (0 : Int) < (p : Int) + 1 := by omega
      by_cases hri : ((r p : Nat) : Int) = i
      · have hsl : ∀ wx, (Instr.sliceAt 54 (.slice A1 (p + 1) c1) none (some (.int .i64 p)) none).run Tryz.prog wx = .ok (.slice A1 p c1) wx := fun wx => by
          have hb : ∀ wx, (Instr.sliceBounds true (p + 1) c1 none (some (.int .i64 p)) none).run Tryz.prog wx = .ok (0, p, c1) wx := slice_bounds_h p c1 (p + 1) (by omega)
          have := slice_of_bounds (P := Tryz.prog) (sz := 1) Tryz.underlying54 szInt' A1 (p + 1) c1 none (some (.int .i64 p)) none hb wx
          rw [subA_zero] at this
          exact this
        have FIN : Hid (KeepsFrom wB.heap.size W ((W.setCell ⟨w1.heap.size, 0, none⟩ (.slice A1 p c1)).setCell ⟨w1.heap.size + 1 + 1 + 1, 0, none⟩ (.int .i64 v)) ∧ Kz wB.heap.size (fun b => b = w1.heap.size ∨ b = w1.heap.size + 1 + 1 ∨ b = w1.heap.size + 1 + 1 + 1 ∨ b = w1.heap.size + 1) W ((W.setCell ⟨w1.heap.size, 0, none⟩ (.slice A1 p c1)).setCell ⟨w1.heap.size + 1 + 1 + 1, 0, none⟩ (.int .i64 v)) ∧
            MI wB w1.heap.size (w1.heap.size + 1 + 1) (w1.heap.size + 1 + 1 + 1) (w1.heap.size + 1) A1 c1 r q (pre ++ [(i, v)]) ((W.setCell ⟨w1.heap.size, 0, none⟩ (.slice A1 p c1)).setCell ⟨w1.heap.size + 1 + 1 + 1, 0, none⟩ (.int .i64 v))) := by
          have F2 : Fr (fun b => b = w1.heap.size ∨ b = w1.heap.size + 1 + 1 + 1) W ((W.setCell ⟨w1.heap.size, 0, none⟩ (.slice A1 p c1)).setCell ⟨w1.heap.size + 1 + 1 + 1, 0, none⟩ (.int .i64 v)) :=
            Fr.setCell (S := fun b => b = w1.heap.size ∨ b = w1.heap.size + 1 + 1 + 1) (Fr.setCell (S := fun b => b = w1.heap.size ∨ b = w1.heap.size + 1 + 1 + 1) (Fr.refl _ _) (p := ⟨w1.heap.size, 0, none⟩) (.inl rfl) _) (p := ⟨w1.heap.size + 1 + 1 + 1, 0, none⟩) (.inr rfl) _
          have KF : Kz wB.heap.size (fun b => b = w1.heap.size ∨ b = w1.heap.size + 1 + 1 ∨ b = w1.heap.size + 1 + 1 + 1 ∨ b = w1.heap.size + 1) W _ := Kz.of_fr F2 KZ.out.size fun b hb => by
            rcases hb with h | h
            · exact .inl (.inl h)
            · exact .inl (.inr (.inr (.inl h)))
          have hAo : ∀ k, Ao.map (·.block) = some k → k ≠ w1.heap.size ∧ k ≠ w1.heap.size + 1 + 1 ∧ k ≠ w1.heap.size + 1 + 1 + 1 := fun k hk => by rcases y3 k hk with h | h <;> omega
          have ep : mstep r (p + 1, O, av) (i, v) = (p, O, v) := by
            unfold mstep
            rw [if_pos ⟨by show 0 < p + 1; omega, by show ((r (p + 1 - 1) : Nat) : Int) = i; rw [Nat.add_sub_cancel]; exact hri⟩]
            show (p + 1 - 1, O, v) = _
            rw [Nat.add_sub_cancel]
          refine ⟨⟨F2.size, fun k o hk ho hc => (F2.block k (Array.getElem?_eq_some_iff.1 ho).1 (fun h => by omega)).trans ho⟩, KF, ?_, ?_, ?_, KZ.out.trans KF⟩
          · rw [em.out, ep]
            exact (x6.set _).other (by omega) _
          · rw [em.out, ep]
            exact (x9.other (by omega) _).set _
          · rw [em.out, ep]
            refine ⟨Ao, co, (y1.other (by omega) _).other (by omega) _, Own.fr y2 F2 (fun b hb h => ?_), y3⟩
            have := hAo b hb
            rcases h with h | h
            · exact this.1 h
            · exact this.2.2 h
        clear run O2 fr ha y1 y2 y3 enO x6 x9 PUT
        subst eA
        generalize r p = rp at *
        subst hri
        gi_wp2_with fail
        exact FIN.out
      · have hno : ¬ (0 < p + 1 ∧ ((r (p + 1 - 1) : Nat) : Int) = i) := by rw [Nat.add_sub_cancel]; exact fun h => hri h.2
        have HNO := Lib.hid hno
        clear run O2 fr ha y1 y2 y3 enO x6 x9 hno
        subst eA
        generalize r p = rp at *
        gi_wp2_with (gi_at_builtin; refine Hid.out ?_)
        refine Lib.hid (wpListIn_append_run _ rfl _ _ _ _ rfl _ _ rfl rfl _ _ (RUN.out _) ?_)
        obtain ⟨u1, u2, u3, u4⟩ := Z.out w2 FF.out
        gi_wp2_with fail
        have FIN := PUT.out w2 A2' c2' FF.out OO.out HA.out HNO.out
        rw [← ENO.out] at FIN
        exact FIN
  case done =>
    rintro D ys W hD rfl hM hK
    obtain ⟨Ao, co, y1, y2, y3⟩ := hM.x8
    have c8 := y1.cell
    have KZ := Lib.hid hM.kz
    have HK := Lib.hid hK
    have OO := Lib.hid y2
    have lD := (Array.getElem?_eq_some_iff.1 hK).1
    obtain ⟨O, eO⟩ : ∃ O, O = (mst r q (bk m n n)).2.1 := ⟨_, rfl⟩
    rw [← eO] at c8 OO
    have EO := Lib.hid eO
    clear hM hK y1 y2 y3 eO
    go_wp2_with fail
    refine ⟨by simp, .inl ⟨_, _, rfl, run_takeDeferred HK.out, ?_⟩⟩
    have FW : Fr (fun b => (b = w1.heap.size ∨ b = w1.heap.size + 1 + 1 ∨ b = w1.heap.size + 1 + 1 + 1 ∨ b = w1.heap.size + 1) ∨ wB.heap.size ≤ b) wB W := ⟨KZ.out.os, KZ.out.tape, KZ.out.output, KZ.out.size, fun k hk hn => KZ.out.block k hk (fun h => hn (.inl h))⟩
    have BW : Below w.heap.size w W := B1.out.trans ((BB.mono (by omega)).trans (FW.below (by omega) (fun b h => by omega)))
    have FD : Fr (fun b => b = D) W (W.putObj D (.deferred none)) := ⟨rfl, rfl, rfl, by simp [World.putObj], fun k _ hn => World.putObj_heap_other (fun e => hn e)⟩
    have SW : Sees (W.putObj D (.deferred none)) (W.putObj D (.deferred none)).heap.size Ao (O.length * 2) (spf O) := by
      refine Own.sees (B := w1.heap.size + 1) (e := 69) (c := co) (Own.fr OO.out FD (fun b hb h => ?_))
      rcases OO.out with ⟨e, _⟩ | ⟨_, g, F', e, _, row, _⟩
      · rw [e] at hb; cases hb
      · rw [e] at hb
        injection hb with hb
        obtain ⟨cs, e1, _⟩ := row
        have e2 := HK.out
        rw [← h, ← show g = b from hb, e1] at e2
        cases e2
    refine ⟨.tuple #[.slice Ao O.length co, .int .i64 0], ?_, q, r, O, Ao, co, rfl, K1.out, .inl EO.out, SW, BW.trans (FD.below (by omega) (fun b h => by omega))⟩
    simp [results, Tryz.results22, go_sem]
  case stop =>
    rintro D c pre W _ _ h _
    exact h.elim
end Go.Proofs.YtfmfmeiaekknbaaGreat
end

section
/-
  Contracts of package gaps at elements of type int.
-/
namespace Go.Proofs.YtfmfmeiaekknbaaGreat
namespace GapI
open Go.RowKit
set_option linter.unusedVariables false

/-- The buffer's three cells. -/
def bufCells (A : Option Addr) (m at_ gap : Nat) : Nat → Value := fun j => if j = 0 then .slice A m m else if j = 1 then .int .i64 at_ else .int .i64 gap

/-- A buffer at p, its elements in block g: the list l of n elements, its gap at at_. -/
structure BG (w : World) (p g m n at_ gap : Nat) (A : Option Addr) (F : Nat → Value) (l : Nat → Int) : Prop where
  hp : w.rowIs p 139 3 (bufCells A m at_ gap)
  hA : 0 < m → A = some ⟨g, 0, none⟩ ∧ g ≠ p ∧ w.rowIs g 3 m F
  hm : m = n + gap
  hat : at_ ≤ n
  lo : ∀ j, j < at_ → F j = .int .i64 (l j)
  hi : ∀ j, at_ ≤ j → j < n → F (j + gap) = .int .i64 (l j)
  hn : n ≤ 4096
  hm2 : m ≤ 20000
  one : ∀ j, (F j).oneCell' = true

/-- The same; its memory lies from block B on. -/
def Buf (w : World) (B p n at_ : Nat) (l : Nat → Int) : Prop :=
  ∃ (g m gap : Nat) (A : Option Addr) (F : Nat → Value), BG w p g m n at_ gap A F l ∧ B ≤ p ∧ (0 < m → B ≤ g)

theorem Buf.le {w : World} {B p n at_ : Nat} {l : Nat → Int} (h : Buf w B p n at_ l) : B ≤ p ∧ at_ ≤ n ∧ n ≤ 4096 := by
  obtain ⟨g, m, gap, A, F, h1, h2, h3⟩ := h
  exact ⟨h2, h1.hat, h1.hn⟩
theorem BG.congr {w : World} {p g m n at_ gap : Nat} {A : Option Addr} {F : Nat → Value} {l l' : Nat → Int} (h : BG w p g m n at_ gap A F l) (e : ∀ j, j < n → l j = l' j) : BG w p g m n at_ gap A F l' :=
  ⟨h.hp, h.hA, h.hm, h.hat, fun j hj => by rw [h.lo j hj, e j (by have := h.hat; omega)], fun j a b => by rw [h.hi j a b, e j b], h.hn, h.hm2, h.one⟩
theorem Buf.congr {w : World} {B p n at_ : Nat} {l l' : Nat → Int} (h : Buf w B p n at_ l) (e : ∀ j, j < n → l j = l' j) : Buf w B p n at_ l' := by
  obtain ⟨g, m, gap, A, F, h1, h2, h3⟩ := h
  exact ⟨g, m, gap, A, F, h1.congr e, h2, h3⟩
theorem BG.keep {w w' : World} {p g m n at_ gap : Nat} {A : Option Addr} {F : Nat → Value} {l : Nat → Int} (h : BG w p g m n at_ gap A F l) (k1 : w'.heap[p]? = w.heap[p]?) (k2 : 0 < m → w'.heap[g]? = w.heap[g]?) : BG w' p g m n at_ gap A F l :=
  ⟨h.hp.of_block k1, fun hm => ⟨(h.hA hm).1, (h.hA hm).2.1, (h.hA hm).2.2.of_block (k2 hm)⟩, h.hm, h.hat, h.lo, h.hi, h.hn, h.hm2, h.one⟩
/-- Kept where the blocks of the buffer are kept. -/
theorem Buf.keep {w w' : World} {B p n at_ : Nat} {l : Nat → Int} (h : Buf w B p n at_ l) (k : ∀ b, B ≤ b → b < w.heap.size → w'.heap[b]? = w.heap[b]?) : Buf w' B p n at_ l := by
  obtain ⟨g, m, gap, A, F, h1, h2, h3⟩ := h
  exact ⟨g, m, gap, A, F, h1.keep (k p h2 h1.hp.lt) (fun hm => k g (h3 hm) (h1.hA hm).2.2.lt), h2, h3⟩
theorem Buf.below {w w' : World} {B p n at_ : Nat} {l : Nat → Int} (h : Buf w B p n at_ l) (hb : Below w.heap.size w w') : Buf w' B p n at_ l := h.keep fun b _ hb' => hb.block b hb'
theorem Buf.drawn {w w' : World} {B p n at_ : Nat} {l : Nat → Int} (h : Buf w B p n at_ l) (hd : Drawn w w') : Buf w' B p n at_ l := by obtain ⟨q, rfl⟩ := hd; exact h.keep fun _ _ _ => rfl
theorem BG.drawn {w w' : World} {p g m n at_ gap : Nat} {A : Option Addr} {F : Nat → Value} {l : Nat → Int} (h : BG w p g m n at_ gap A F l) (hd : Drawn w w') : BG w' p g m n at_ gap A F l := by obtain ⟨q, rfl⟩ := hd; exact h.keep rfl fun _ => rfl

/-- Nothing but blocks p and g, and new ones, has turned. -/
structure Only2 (w w' : World) (p g : Nat) : Prop where
  os : w'.os = w.os
  tape : w'.tape = w.tape
  output : w'.output = w.output
  size : w.heap.size ≤ w'.heap.size
  block : ∀ b, b < w.heap.size → b ≠ p → b ≠ g → w'.heap[b]? = w.heap[b]?
theorem Only2.refl (w : World) (p g : Nat) : Only2 w w p g := ⟨rfl, rfl, rfl, Nat.le_refl _, fun _ _ _ _ => rfl⟩
theorem Only2.trans {a b c : World} {p g g' : Nat} (h : Only2 a b p g) (k : Only2 b c p g') (e : g' = g ∨ g' = p ∨ a.heap.size ≤ g') : Only2 a c p g :=
  ⟨k.os.trans h.os, k.tape.trans h.tape, k.output.trans h.output, Nat.le_trans h.size k.size, fun x hx h1 h2 => (k.block x (Nat.lt_of_lt_of_le hx h.size) h1 (by omega)).trans (h.block x hx h1 h2)⟩
theorem Only2.of_only {a b : World} {p g q : Nat} (h : Only a b q) (hq : q = p ∨ q = g) : Only2 a b p g :=
  ⟨h.os, h.tape, h.output, h.size, fun x hx h1 h2 => h.block x hx (fun e => by injection e with e; omega)⟩
theorem Only2.of_drawn {a b : World} {p g : Nat} (h : Drawn a b) : Only2 a b p g := by obtain ⟨q, rfl⟩ := h; exact ⟨rfl, rfl, rfl, Nat.le_refl _, fun _ _ _ _ => rfl⟩
theorem Only2.drew {a b : World} {p g : Nat} (h : Only2 a b p g) : Only2 a b.drew p g := ⟨h.os, h.tape, h.output, h.size, h.block⟩
theorem Only2.drewN {a b : World} {p g : Nat} (h : Only2 a b p g) (n : Nat) : Only2 a (b.drewN n) p g := ⟨h.os, h.tape, h.output, h.size, h.block⟩
theorem Only2.drewL {a b : World} {p g : Nat} (h : Only2 a.drew b p g) : Only2 a b p g := ⟨h.os, h.tape, h.output, h.size, h.block⟩
theorem Only2.setCell {a b : World} {p g : Nat} (h : Only2 a b p g) (q i : Nat) (hq : q = p ∨ q = g ∨ a.heap.size ≤ q) (v : Value) : Only2 a (b.setCell ⟨q, i, none⟩ v) p g :=
  ⟨h.os, h.tape, h.output, by simpa [World.setCell] using h.size, fun x hx h1 h2 => (Below.heap_setCell b ⟨q, i, none⟩ v x (by show x ≠ q; omega)).trans (h.block x hx h1 h2)⟩
theorem Only2.alloc {a b : World} {p g : Nat} (h : Only2 a b p g) (o : Obj) : Only2 a (b.alloc o) p g :=
  ⟨h.os, h.tape, h.output, by have := h.size; simp; omega, fun x hx h1 h2 => (Below.heap_alloc b o x (Nat.lt_of_lt_of_le hx h.size)).trans (h.block x hx h1 h2)⟩
theorem Only2.below {a b : World} {p g B : Nat} (h : Only2 a b p g) (hp : B ≤ p) (hg : B ≤ g) (hs : B ≤ a.heap.size) : Below B a b :=
  ⟨h.os, h.tape, h.output, h.size, fun x hx => h.block x (by omega) (by omega) (by omega)⟩

/-- The cells of the buffer as the walk reads them. -/
structure Cells (w : World) (p m at_ gap : Nat) (A : Option Addr) : Prop where
  c0 : w.cell? ⟨p, 0, none⟩ = some (.slice A m m)
  c1 : w.cell? ⟨p, 1, none⟩ = some (.int .i64 at_)
  c2 : w.cell? ⟨p, 2, none⟩ = some (.int .i64 gap)
  fz : ∀ i, w.frozen? ⟨p, i, none⟩ = false
theorem Cells.drewN {w : World} {p m at_ gap : Nat} {A : Option Addr} (h : Cells w p m at_ gap A) (q : Nat) : Cells (w.drewN q) p m at_ gap A := ⟨h.c0, h.c1, h.c2, h.fz⟩
theorem cells_of {w : World} {p m at_ gap : Nat} {A : Option Addr} (h : w.rowIs p 139 3 (bufCells A m at_ gap)) : Cells w p m at_ gap A :=
  ⟨h.cell (i := 0) (by omega), h.cell (i := 1) (by omega), h.cell (i := 2) (by omega), fun i => h.frozen i⟩

set_option maxHeartbeats 400000 in
theorem len_any (w : World) (B p n at_ : Nat) (l : Nat → Int) (h : Buf w B p n at_ l) :
    Calls Tryz.prog 77 #[.pointer (some ⟨p, 0, none⟩)] w fun e w' => e = .returned (.int .i64 n) ∧ Drawn w w' := by
  obtain ⟨g, m, gap, A, F, h1, h2, h3⟩ := h
  obtain ⟨c0, c1, c2, fz⟩ := cells_of h1.hp
  have H4 := Lib.hid h1.hm
  have b1 : gap ≤ m := by have := H4.out; omega
  have b2 := h1.hm2
  clear fz h1 h3
  go_enter Tryz.func77, Tryz.ntmps77
  go_wp2_with fail
  go_quiet (fail)
  go_wp2_with fail
  go_ret
  exact ⟨ret_int (by have := H4.out; omega), ⟨_, rfl⟩⟩

/-- The error of check. -/
def chkErr (n : Nat) (i k : Int) : Int := if i < 0 ∨ k < 0 ∨ (n : Int) < i ∨ (n : Int) - i < k then 4 else 0

set_option maxHeartbeats 800000 in
theorem check_any (w : World) (B p n at_ : Nat) (l : Nat → Int) (h : Buf w B p n at_ l) (i k : Int) (hi : Fits i) (hk : Fits k) :
    Calls Tryz.prog 81 #[.pointer (some ⟨p, 0, none⟩), .int .i64 i, .int .i64 k] w fun e w' => e = .returned (.int .i64 (chkErr n i k)) ∧ Drawn w w' := by
  have HB := Lib.hid h
  have hn := h.le.2.2
  clear h
  obtain ⟨i1, i2⟩ := hi
  obtain ⟨k1, k2⟩ := hk
  by_cases d1 : i < 0
  · have H : Hid (4 = chkErr n i k) := by show _ = _; unfold chkErr; rw [if_pos (by omega)]
    go_enter Tryz.func81, Tryz.ntmps81
    go_wp2_with fail
    go_ret
    exact ⟨ret_int H.out, Drawn.refl _⟩
  · by_cases d2 : k < 0
    · have H : Hid (4 = chkErr n i k) := by show _ = _; unfold chkErr; rw [if_pos (by omega)]
      go_enter Tryz.func81, Tryz.ntmps81
      go_wp2_with fail
      go_ret
      exact ⟨ret_int H.out, Drawn.refl _⟩
    · by_cases d3 : (n : Int) < i
      · have H : Hid (4 = chkErr n i k) := by show _ = _; unfold chkErr; rw [if_pos (by omega)]
        go_enter Tryz.func81, Tryz.ntmps81
        go_wp2_with fail
        refine (len_any w B p n at_ l HB.out).mono ?_
        rintro e w1 ⟨rfl, hd⟩
        go_wp2_with fail
        go_ret
        exact ⟨ret_int H.out, hd⟩
      · by_cases d4 : (n : Int) - i < k
        · have H : Hid (4 = chkErr n i k) := by show _ = _; unfold chkErr; rw [if_pos (by omega)]
          go_enter Tryz.func81, Tryz.ntmps81
          go_wp2_with fail
          refine (len_any w B p n at_ l HB.out).mono ?_
          rintro e w1 ⟨rfl, hd⟩
          go_wp2_with fail
          refine (len_any w1 B p n at_ l (HB.out.drawn hd)).mono ?_
          rintro e w2 ⟨rfl, hd2⟩
          go_wp2_with fail
          go_ret
          exact ⟨ret_int H.out, hd.trans hd2⟩
        · have H : Hid (0 = chkErr n i k) := by show _ = _; unfold chkErr; rw [if_neg (by omega)]
          go_enter Tryz.func81, Tryz.ntmps81
          go_wp2_with fail
          refine (len_any w B p n at_ l HB.out).mono ?_
          rintro e w1 ⟨rfl, hd⟩
          go_wp2_with fail
          refine (len_any w1 B p n at_ l (HB.out.drawn hd)).mono ?_
          rintro e w2 ⟨rfl, hd2⟩
          go_wp2_with fail
          go_ret
          exact ⟨ret_int H.out, hd.trans hd2⟩

set_option maxHeartbeats 400000 in
theorem place_lt (w : World) (p m at_ gap : Nat) (A : Option Addr) (h : Cells w p m at_ gap A) (i : Nat) (hi : i < at_) :
    Calls Tryz.prog 82 #[.pointer (some ⟨p, 0, none⟩), .int .i64 i] w fun e w' => e = .returned (.int .i64 i) ∧ w = w' := by
  obtain ⟨c0, c1, c2, fz⟩ := h
  have hi' : (i : Int) < (at_ : Int) := by omega
  go_enter Tryz.func82, Tryz.ntmps82
  go_wp2_with fail
  go_ret
  exact ⟨rfl, rfl⟩
set_option maxHeartbeats 400000 in
theorem place_ge (w : World) (p m at_ gap : Nat) (A : Option Addr) (h : Cells w p m at_ gap A) (i : Nat) (hi : at_ ≤ i) (b1 : i ≤ 20000) (b2 : gap ≤ 20000) :
    Calls Tryz.prog 82 #[.pointer (some ⟨p, 0, none⟩), .int .i64 i] w fun e w' => e = .returned (.int .i64 (i + gap : Nat)) ∧ w = w' := by
  obtain ⟨c0, c1, c2, fz⟩ := h
  have hi' : (at_ : Int) ≤ (i : Int) := by omega
  go_enter Tryz.func82, Tryz.ntmps82
  go_wp2_with fail
  go_ret
  exact ⟨ret_int (by omega), rfl⟩

/-- Where element i stands. -/
def stands (at_ gap i : Nat) : Nat := if i < at_ then i else i + gap
theorem place_any (w : World) (p m at_ gap : Nat) (A : Option Addr) (h : Cells w p m at_ gap A) (i : Nat) (b1 : i ≤ 20000) (b2 : gap ≤ 20000) :
    Calls Tryz.prog 82 #[.pointer (some ⟨p, 0, none⟩), .int .i64 i] w fun e w' => e = .returned (.int .i64 (stands at_ gap i : Nat)) ∧ w = w' := by
  unfold stands
  by_cases hi : i < at_
  · rw [if_pos hi]; exact place_lt w p m at_ gap A h i hi
  · rw [if_neg hi]; exact place_ge w p m at_ gap A h i (by omega) b1 b2
theorem BG.stands {w : World} {p g m n at_ gap : Nat} {A : Option Addr} {F : Nat → Value} {l : Nat → Int} (h : BG w p g m n at_ gap A F l) {i : Nat} (hi : i < n) : stands at_ gap i < m ∧ F (stands at_ gap i) = .int .i64 (l i) := by
  have h1 := h.hm
  have h2 := h.hat
  unfold GapI.stands
  by_cases hx : i < at_
  · rw [if_pos hx]; exact ⟨by omega, h.lo i hx⟩
  · rw [if_neg hx]; exact ⟨by omega, h.hi i (by omega) hi⟩

end GapI
end Go.Proofs.YtfmfmeiaekknbaaGreat
end

section
/-
  Contracts of package gaps at elements of type int: what moves memory.
-/
namespace Go.Proofs.YtfmfmeiaekknbaaGreat
namespace GapI
open Go.RowKit
set_option linter.unusedVariables false

theorem infoSize : (Tryz.prog.info? 3).map (·.size) = some 1 := by kernel_rfl
theorem zeroE (W : World) : (zeroValue 3).run Tryz.prog W = .ok (.int .i64 0) W := by kernel_rfl

/-- The row behind the moving of the gap. -/
def moved (F : Nat → Value) (at_ gap at' : Nat) : Nat → Value :=
  if at' < at_ then spliced F (at' + gap) (at_ - at') (fun j => F (at' + j)) else spliced F at_ (at' - at_) (fun j => F (at_ + gap + j))
theorem moved_lo {w : World} {p g m n at_ gap : Nat} {A : Option Addr} {F : Nat → Value} {l : Nat → Int} (h : BG w p g m n at_ gap A F l) {at' : Nat} (ha : at' ≤ n) : ∀ j, j < at' → moved F at_ gap at' j = .int .i64 (l j) := by
  intro j hj
  have hat := h.hat
  unfold moved
  by_cases c : at' < at_
  · rw [if_pos c]; unfold spliced; rw [if_neg (by omega)]; exact h.lo j (by omega)
  · rw [if_neg c]; unfold spliced
    by_cases d : j < at_
    · rw [if_neg (by omega)]; exact h.lo j d
    · rw [if_pos (by omega)]; show F (at_ + gap + (j - at_)) = _; rw [show at_ + gap + (j - at_) = j + gap from by omega]; exact h.hi j (by omega) (by omega)
theorem moved_hi {w : World} {p g m n at_ gap : Nat} {A : Option Addr} {F : Nat → Value} {l : Nat → Int} (h : BG w p g m n at_ gap A F l) {at' : Nat} (ha : at' ≤ n) : ∀ j, at' ≤ j → j < n → moved F at_ gap at' (j + gap) = .int .i64 (l j) := by
  intro j hj hn
  have hat := h.hat
  unfold moved
  by_cases c : at' < at_
  · rw [if_pos c]; unfold spliced
    by_cases d : j < at_
    · rw [if_pos (by omega)]; show F (at' + (j + gap - (at' + gap))) = _; rw [show at' + (j + gap - (at' + gap)) = j from by omega]; exact h.lo j d
    · rw [if_neg (by omega)]; exact h.hi j (by omega) hn
  · rw [if_neg c]; unfold spliced; rw [if_neg (by omega)]; exact h.hi j (by omega) hn
theorem spliced_one {f cs : Nat → Value} {off k : Nat} (h1 : ∀ j, (f j).oneCell' = true) (h2 : ∀ j, (cs j).oneCell' = true) : ∀ j, (spliced f off k cs j).oneCell' = true := by
  intro j; unfold spliced; split
  · exact h2 _
  · exact h1 _
/-- Places inside the gap don't matter. -/
theorem clear_lo {F : Nat → Value} {at' gap : Nat} {z : Value} {j : Nat} (hj : j < at') : spliced F at' gap (fun _ => z) j = F j := by unfold spliced; rw [if_neg (by omega)]
theorem clear_hi {F : Nat → Value} {at' gap : Nat} {z : Value} {j : Nat} (hj : at' ≤ j) : spliced F at' gap (fun _ => z) (j + gap) = F (j + gap) := by unfold spliced; rw [if_neg (by omega)]

theorem bufCells_at {A : Option Addr} {m at_ gap at' : Nat} : (fun j => if j = 1 then Value.int .i64 at' else bufCells A m at_ gap j) = bufCells A m at' gap := by
  funext j
  unfold bufCells
  by_cases h1 : j = 1
  · subst h1; simp
  · simp [h1]
/-- What bring leaves. -/
def BringPost (w : World) (p g m n at' gap : Nat) (A : Option Addr) (l : Nat → Int) (e : Ending) (w' : World) : Prop :=
  e = .returned (.tuple #[]) ∧ (∃ F', BG w' p g m n at' gap A F' l) ∧ Only2 w w' p g

set_option maxRecDepth 100000 in
set_option maxHeartbeats 1600000 in
theorem bring_any (w : World) (p g m n at_ gap : Nat) (A : Option Addr) (F : Nat → Value) (l : Nat → Int) (h : BG w p g m n at_ gap A F l) (at' : Nat) (ha : at' ≤ n) :
    Calls Tryz.prog 134 #[.pointer (some ⟨p, 0, none⟩), .int .i64 at'] w (BringPost w p g m n at' gap A l) := by
  have HB := Lib.hid h
  obtain ⟨c0, c1, c2, fz⟩ := cells_of h.hp
  have hm := h.hm
  have hm2 := h.hm2
  have hn := h.hn
  have hat := h.hat
  have HM := Lib.hid hm
  have b1 : gap ≤ m := by omega
  have b2 : at' + gap ≤ m := by omega
  have b3 : at_ + gap ≤ m := by omega
  clear h hm
  by_cases c : at' < at_
  · have mp : 0 < m := by have := HM.out; omega
    obtain ⟨rfl, hgp, hrow⟩ := HB.out.hA mp
    obtain ⟨w1, hcp, hrow1, ho1⟩ := copy_row (P := Tryz.prog) w.drew (dT := 54) (sT := 54) Tryz.underlying54 infoSize (show w.drew.rowIs g 3 m F from hrow) (at' + gap) (m - (at' + gap)) (m - (at' + gap))
      (B := w.heap.size) (A := some ⟨g, at', none⟩) (sLen := at_ - at') (sCap := m - at') (cs := fun j => F (at' + j))
      (fun _ => ⟨g, at', rfl, hrow.lt, fun j hj => hrow.cell (by omega)⟩) (fun j => HB.out.one _) (at_ - at') (by have := HM.out; simp only [Nat.min_def]; rw [if_pos (by omega)]) (by have := HM.out; omega)
    have ne1 : ¬ m = at' + gap := by have := HM.out; omega
    have ne2 : ¬ m = at' := by omega
    go_enter Tryz.func134, Tryz.ntmps134
    have plt : p < w.drew.heap.size := HB.out.hp.lt
    have hgp' : p ≠ g := fun e => hgp e.symm
    have q0 : w1.cell? ⟨p, 0, none⟩ = some (.slice (some ⟨g, 0, none⟩) m m) := (ho1.cell plt hgp' 0).trans c0
    have q1 : w1.cell? ⟨p, 1, none⟩ = some (.int .i64 at_) := (ho1.cell plt hgp' 1).trans c1
    have q2 : w1.cell? ⟨p, 2, none⟩ = some (.int .i64 gap) := (ho1.cell plt hgp' 2).trans c2
    have qz : ∀ i, w1.frozen? ⟨p, i, none⟩ = false := fun i => (ho1.frozen plt hgp' i).trans (fz i)
    have hp1 : w1.rowIs p 139 3 (bufCells (some ⟨g, 0, none⟩) m at_ gap) := ho1.row (show w.drew.rowIs p _ 3 _ from HB.out.hp) hgp'
    obtain ⟨w2, hcl, hrow2, ho2⟩ := clear_row (P := Tryz.prog) (w1.setCell ⟨p, 1, none⟩ (.int .i64 at')).drew Tryz.underlying54 zeroE rfl rfl (show (w1.setCell ⟨p, 1, none⟩ (.int .i64 at')).drew.rowIs g 3 m _ from hrow1.setOther hgp _)
      (some ⟨g, at', none⟩) at' gap (m - at') (fun _ => rfl) b2
    have hp2 : w2.rowIs p 139 3 (bufCells (some ⟨g, 0, none⟩) m at' gap) := ho2.row (by have := hp1.set 1 (.int .i64 (at' : Int)); rw [bufCells_at] at this; exact this) hgp'
    have H : BringPost w p g m n at' gap (some ⟨g, 0, none⟩) l (.returned (.tuple #[])) w2 := by
      refine ⟨rfl, ⟨_, hp2, fun _ => ⟨rfl, hgp, hrow2⟩, HM.out, ha, fun j hj => ?_, fun j h1 h2 => ?_, hn, hm2, spliced_one (spliced_one HB.out.one fun j => HB.out.one _) fun _ => rfl⟩, ?_⟩
      · rw [clear_lo hj]
        have := moved_lo HB.out ha j hj
        unfold moved at this; rwa [if_pos c] at this
      · rw [clear_hi h1]
        have := moved_hi HB.out ha j h1 h2
        unfold moved at this; rwa [if_pos c] at this
      · exact ((Only2.of_only ho1 (.inr rfl)).drewL.setCell p 1 (.inl rfl) _).drew.trans (Only2.of_only ho2 (.inr rfl)) (.inl rfl)
    have HH := Lib.hid H
    clear H hp1 hp2 hrow1 hrow2 ho1 ho2
    go_wp2_with fail
    go_region
    go_wp2_with fail
    clear hcp
    go_region
    go_wp2_with fail
    go_end0
    exact HH.out
  · by_cases c' : at_ < at'
    · have mp : 0 < m := by have := HM.out; omega
      obtain ⟨rfl, hgp, hrow⟩ := HB.out.hA mp
      obtain ⟨w1, hcp, hrow1, ho1⟩ := copy_row (P := Tryz.prog) w.drew (dT := 54) (sT := 54) Tryz.underlying54 infoSize (show w.drew.rowIs g 3 m F from hrow) at_ (m - at_) (m - at_)
        (B := w.heap.size) (A := some ⟨g, at_ + gap, none⟩) (sLen := at' + gap - (at_ + gap)) (sCap := m - (at_ + gap)) (cs := fun j => F (at_ + gap + j))
        (fun _ => ⟨g, at_ + gap, rfl, hrow.lt, fun j hj => hrow.cell (by omega)⟩) (fun j => HB.out.one _) (at' - at_) (by simp only [Nat.min_def]; rw [if_pos (by omega)]; omega) (by omega)
      have ne1 : ¬ m = at_ := by have := HM.out; omega
      have ne2 : ¬ m = at_ + gap := by have := HM.out; omega
      have cc : (at_ : Int) ≤ (at' : Int) := by omega
      have plt : p < w.drew.heap.size := HB.out.hp.lt
      have hgp' : p ≠ g := fun e => hgp e.symm
      have q0 : w1.cell? ⟨p, 0, none⟩ = some (.slice (some ⟨g, 0, none⟩) m m) := (ho1.cell plt hgp' 0).trans c0
      have q1 : w1.cell? ⟨p, 1, none⟩ = some (.int .i64 at_) := (ho1.cell plt hgp' 1).trans c1
      have q2 : w1.cell? ⟨p, 2, none⟩ = some (.int .i64 gap) := (ho1.cell plt hgp' 2).trans c2
      have qz : ∀ i, w1.frozen? ⟨p, i, none⟩ = false := fun i => (ho1.frozen plt hgp' i).trans (fz i)
      have hp1 : w1.rowIs p 139 3 (bufCells (some ⟨g, 0, none⟩) m at_ gap) := ho1.row (show w.drew.rowIs p _ 3 _ from HB.out.hp) hgp'
      have fin : ∀ X : Option Addr, (0 < gap → X = some ⟨g, at', none⟩) → ∃ w2, (∀ ty, (Builtin.clear_ #[54] ty #[.slice X gap (m - at')]).run Tryz.prog (w1.setCell ⟨p, 1, none⟩ (.int .i64 at')).drew = .ok (.tuple #[]) w2) ∧
          BringPost w p g m n at' gap (some ⟨g, 0, none⟩) l (.returned (.tuple #[])) w2 := by
        intro X hX
        obtain ⟨w2, hcl, hrow2, ho2⟩ := clear_row (P := Tryz.prog) (w1.setCell ⟨p, 1, none⟩ (.int .i64 at')).drew Tryz.underlying54 zeroE rfl rfl (show (w1.setCell ⟨p, 1, none⟩ (.int .i64 at')).drew.rowIs g 3 m _ from hrow1.setOther hgp _)
          X at' gap (m - at') hX b2
        have hp2 : w2.rowIs p 139 3 (bufCells (some ⟨g, 0, none⟩) m at' gap) := ho2.row (by have := hp1.set 1 (.int .i64 (at' : Int)); rw [bufCells_at] at this; exact this) hgp'
        refine ⟨w2, hcl, rfl, ⟨_, hp2, fun _ => ⟨rfl, hgp, hrow2⟩, HM.out, ha, fun j hj => ?_, fun j h1 h2 => ?_, hn, hm2, spliced_one (spliced_one HB.out.one fun j => HB.out.one _) fun _ => rfl⟩, ?_⟩
        · rw [clear_lo hj]
          have := moved_lo HB.out ha j hj
          unfold moved at this; rwa [if_neg c] at this
        · rw [clear_hi h1]
          have := moved_hi HB.out ha j h1 h2
          unfold moved at this; rwa [if_neg c] at this
        · exact ((Only2.of_only ho1 (.inr rfl)).drewL.setCell p 1 (.inl rfl) _).drew.trans (Only2.of_only ho2 (.inr rfl)) (.inl rfl)
      by_cases ne3 : m = at'
      · obtain ⟨w2, hcl, HB2⟩ := fin (some ⟨g, 0, none⟩) (fun hg => by have := HM.out; omega)
        have HH := Lib.hid HB2
        obtain rfl : gap = 0 := by have := HM.out; omega
        clear HB2 fin hp1 hrow1 ho1
        subst ne3
        simp only [Nat.add_zero, Nat.sub_self] at hcp hcl ne2 b3 b2
        go_enter Tryz.func134, Tryz.ntmps134
        go_wp2_with fail
        go_region
        go_wp2_with fail
        clear hcp
        go_region
        go_wp2_with fail
        go_end0
        exact HH.out
      · obtain ⟨w2, hcl, HB2⟩ := fin (some ⟨g, at', none⟩) (fun hg => rfl)
        have HH := Lib.hid HB2
        clear HB2 fin hp1 hrow1 ho1
        go_enter Tryz.func134, Tryz.ntmps134
        go_wp2_with fail
        go_region
        go_wp2_with fail
        clear hcp
        go_region
        go_wp2_with fail
        go_end0
        exact HH.out
    · obtain rfl : at_ = at' := by omega
      have hcp : ∀ (W : World) (dp sp : Option Addr) (dLen dCap sCap : Nat) ty, (Builtin.copy_ #[54, 54] ty #[.slice dp dLen dCap, .slice sp 0 sCap]).run Tryz.prog W = .ok (goInt 0) W :=
        fun W dp sp dLen dCap sCap => copy_nothing W Tryz.underlying54 infoSize dp sp dLen dCap 0 sCap (.inl rfl)
      by_cases m0 : m = 0
      · obtain rfl : gap = 0 := by omega
        obtain rfl : at_ = 0 := by omega
        subst m0
        have hcl : ∀ (W : World) (sp : Option Addr) (sCap : Nat) ty, (Builtin.clear_ #[54] ty #[.slice sp 0 sCap]).run Tryz.prog W = .ok (.tuple #[]) W := by
          intro W sp sCap ty
          rcases sp with _ | a <;> simp [Builtin.clear_, run_underlying Tryz.underlying54]
        have H : ∀ q, BringPost w p g 0 n 0 0 A l (.returned (.tuple #[])) ((w.setCell ⟨p, 1, none⟩ (.int .i64 0)).drewN q) := by
          intro q
          refine ⟨rfl, ⟨F, ?_, fun h => absurd h (by omega), HM.out, ha, HB.out.lo, HB.out.hi, hn, hm2, HB.out.one⟩, ((Only2.refl w p g).setCell p 1 (.inl rfl) _).drewN q⟩
          have := HB.out.hp.set 1 (.int .i64 ((0 : Nat) : Int))
          rw [bufCells_at] at this
          exact this
        have HH := Lib.hid H
        clear H
        go_enter Tryz.func134, Tryz.ntmps134
        go_wp2_with fail
        go_region
        go_wp2_with fail
        go_region
        go_wp2_with fail
        go_end0
        exact HH.out 2
      · obtain ⟨rfl, hgp, hrow⟩ := HB.out.hA (by omega)
        have plt : p < w.drew.heap.size := HB.out.hp.lt
        have hgp' : p ≠ g := fun e => hgp e.symm
        have hp1 : w.rowIs p 139 3 (bufCells (some ⟨g, 0, none⟩) m at_ gap) := HB.out.hp
        have fin : ∀ X : Option Addr, (0 < gap → X = some ⟨g, at_, none⟩) → ∃ w2, (∀ ty, (Builtin.clear_ #[54] ty #[.slice X gap (m - at_)]).run Tryz.prog (w.setCell ⟨p, 1, none⟩ (.int .i64 at_)).drew.drew = .ok (.tuple #[]) w2) ∧
            BringPost w p g m n at_ gap (some ⟨g, 0, none⟩) l (.returned (.tuple #[])) w2 := by
          intro X hX
          obtain ⟨w2, hcl, hrow2, ho2⟩ := clear_row (P := Tryz.prog) (w.setCell ⟨p, 1, none⟩ (.int .i64 at_)).drew.drew Tryz.underlying54 zeroE rfl rfl (show (w.setCell ⟨p, 1, none⟩ (.int .i64 at_)).drew.drew.rowIs g 3 m _ from hrow.setOther hgp _)
            X at_ gap (m - at_) hX b2
          have hp2 : w2.rowIs p 139 3 (bufCells (some ⟨g, 0, none⟩) m at_ gap) := ho2.row (by have := hp1.set 1 (.int .i64 (at_ : Int)); rw [bufCells_at] at this; exact this) hgp'
          refine ⟨w2, hcl, rfl, ⟨_, hp2, fun _ => ⟨rfl, hgp, hrow2⟩, HM.out, ha, fun j hj => ?_, fun j h1 h2 => ?_, hn, hm2, spliced_one HB.out.one fun _ => rfl⟩, ?_⟩
          · rw [clear_lo hj]; exact HB.out.lo j hj
          · rw [clear_hi h1]; exact HB.out.hi j h1 h2
          · exact ((Only2.refl w p g).setCell p 1 (.inl rfl) _).drew.drew.trans (Only2.of_only ho2 (.inr rfl)) (.inl rfl)
        by_cases ne3 : m = at_
        · obtain ⟨w2, hcl, HB2⟩ := fin (some ⟨g, 0, none⟩) (fun hg => by have := HM.out; omega)
          have HH := Lib.hid HB2
          obtain rfl : gap = 0 := by have := HM.out; omega
          clear HB2 fin hp1 hrow
          subst ne3
          simp only [Nat.sub_self] at hcl
          go_enter Tryz.func134, Tryz.ntmps134
          go_wp2_with fail
          go_region
          go_wp2_with fail
          clear hcp
          go_region
          go_wp2_with fail
          go_end0
          exact HH.out
        · obtain ⟨w2, hcl, HB2⟩ := fin (some ⟨g, at_, none⟩) (fun hg => rfl)
          have HH := Lib.hid HB2
          clear HB2 fin hp1 hrow
          by_cases ne4 : m = at_ + gap
          · subst ne4
            have e4 : at_ + gap - at_ = gap := by omega
            simp only [e4] at hcl
            go_enter Tryz.func134, Tryz.ntmps134
            go_wp2_with fail
            go_region
            go_wp2_with fail
            clear hcp
            go_region
            go_wp2_with fail
            go_end0
            exact HH.out
          · go_enter Tryz.func134, Tryz.ntmps134
            go_wp2_with fail
            go_region
            go_wp2_with fail
            clear hcp
            go_region
            go_wp2_with fail
            go_end0
            exact HH.out
end GapI
end Go.Proofs.YtfmfmeiaekknbaaGreat
end

section
/-
  Contracts of package gaps at elements of type int: widen, Insert, Remove, List, New.
-/
namespace Go.Proofs.YtfmfmeiaekknbaaGreat
namespace GapI
open Go.RowKit
set_option linter.unusedVariables false

theorem infoE : (Tryz.prog.info? 3).map (fun i => (i.zero, i.size, i.bytes)) = some (some (.int .i64 0), 1, 8) := by kernel_rfl
theorem make_e (n : Nat) (x : Int) (hx : x = (n : Int)) (hn : n ≤ 1000000) (W : World) :
    (Instr.makeSlice 54 (.int .i64 x) (.int .i64 x)).run Tryz.prog W = .ok (.slice (some ⟨W.heap.size, 0, none⟩) n n) (W.alloc (.cells (madeCells #[.int .i64 0] n) 3)) := by
  subst hx
  exact run_make_row' 54 3 (.int .i64 0) 8 Tryz.underlying54 infoE rfl .i64 .i64 n (by omega) (by omega) W

/-- What List returns. -/
def ListPost (w : World) (n : Nat) (l : Nat → Int) (e : Ending) (w' : World) : Prop :=
  ∃ A, e = .returned (.slice A n n) ∧ (0 < n → ∃ g, A = some ⟨g, 0, none⟩ ∧ w.heap.size ≤ g ∧ w'.rowIs g 3 n (fun j => .int .i64 (l j))) ∧ Below w.heap.size w w' ∧ (n = 0 → A = none)

set_option maxRecDepth 100000 in
set_option maxHeartbeats 1600000 in
theorem list_any (w : World) (B p n at_ : Nat) (l : Nat → Int) (h : Buf w B p n at_ l) :
    Calls Tryz.prog 25 #[.pointer (some ⟨p, 0, none⟩)] w (ListPost w n l) := by
  have HB := Lib.hid h
  have hn := h.le.2.2
  have hat := h.le.2.1
  clear h
  by_cases n0 : n = 0
  · subst n0
    go_enter Tryz.func25, Tryz.ntmps25
    go_wp2_with fail
    refine (len_any w B p 0 at_ l HB.out).mono ?_
    rintro e w1 ⟨rfl, hd⟩
    have H : ListPost w 0 l (.returned (.slice none 0 0)) w1 := ⟨none, rfl, fun h => absurd h (by omega), hd.below _, fun _ => rfl⟩
    have HH := Lib.hid H
    clear H
    go_wp2_with fail
    go_ret
    exact HH.out
  · have hne : ((n : Int) == 0) = false := by simp; omega
    go_enter Tryz.func25, Tryz.ntmps25
    go_wp2_with fail
    refine (len_any w B p n at_ l HB.out).mono ?_
    rintro e w1 ⟨rfl, hd1⟩
    go_wp2_with fail
    refine (len_any w1 B p n at_ l (HB.out.drawn hd1)).mono ?_
    rintro e w2 ⟨rfl, hd2⟩
    have hd := hd1.trans hd2
    obtain ⟨g, m, gap, A, F, h1, _, _⟩ := HB.out.drawn hd
    have HBG := Lib.hid h1
    clear h1 hd1 hd2
    have hmk := make_e n n rfl (by omega)
    have hm : 0 < m := by have := HBG.out.hm; omega
    obtain ⟨rfl, hgp, hrow⟩ := HBG.out.hA hm
    obtain ⟨c0, c1, c2, fz⟩ := cells_of HBG.out.hp
    have plt : p < w2.heap.size := HBG.out.hp.lt
    have glt : g < w2.heap.size := hrow.lt
    have a1 : at_ ≤ m := by have := HBG.out.hm; omega
    have a2 : at_ + gap ≤ m := by have := HBG.out.hm; omega
    have a3 := HBG.out.hm2
    have k1 : Nat.min at_ n = at_ := by simp only [Nat.min_def]; rw [if_pos hat]
    have k2 : m - (at_ + gap) = n - at_ := by have := HBG.out.hm; omega
    -- the new row, and what is copied into it
    have hw : (w2.alloc (.cells (madeCells #[.int .i64 0] n) 3)).drew.heap.size = w2.heap.size + 1 := by simp
    obtain ⟨w3, hcp, hrow3, ho3⟩ := copy_row (P := Tryz.prog) (w2.alloc (.cells (madeCells #[.int .i64 0] n) 3)).drew (dT := 54) (sT := 54) Tryz.underlying54 infoSize
      (show (w2.alloc (.cells (madeCells #[.int .i64 0] n) 3)).drew.rowIs w2.heap.size 3 n (fun _ => .int .i64 0) from World.rowIs_made w2 _ n _) 0 n n
      (B := w2.heap.size) (A := some ⟨g, 0, none⟩) (sLen := at_) (sCap := m) (cs := F) (fun _ => ⟨g, 0, rfl, glt, fun j hj => by rw [Nat.zero_add]; exact (hrow.alloc _).cell (by omega)⟩) HBG.out.one at_ k1.symm (by omega)
    have q0 : w3.cell? ⟨p, 0, none⟩ = some (.slice (some ⟨g, 0, none⟩) m m) := (ho3.cell (by rw [hw]; omega) (by omega) 0).trans ((World.cell?_alloc_past _ p 0 plt).trans c0)
    have q1 : w3.cell? ⟨p, 1, none⟩ = some (.int .i64 at_) := (ho3.cell (by rw [hw]; omega) (by omega) 1).trans ((World.cell?_alloc_past _ p 1 plt).trans c1)
    have q2 : w3.cell? ⟨p, 2, none⟩ = some (.int .i64 gap) := (ho3.cell (by rw [hw]; omega) (by omega) 2).trans ((World.cell?_alloc_past _ p 2 plt).trans c2)
    have hrg : w3.rowIs g 3 m F := ho3.row (hrow.alloc _) (by omega)
    have e3 : w2.heap.size ≤ w3.heap.size := by have := ho3.size; rw [hw] at this; omega
    obtain ⟨w4, hcp2, hrow4, ho4⟩ := copy_row (P := Tryz.prog) w3.drew (dT := 54) (sT := 54) Tryz.underlying54 infoSize (show w3.drew.rowIs w2.heap.size 3 n _ from hrow3) at_ (n - at_) (n - at_)
      (B := w2.heap.size) (A := some ⟨g, at_ + gap, none⟩) (sLen := m - (at_ + gap)) (sCap := m - (at_ + gap)) (cs := fun j => F (at_ + gap + j)) (fun _ => ⟨g, at_ + gap, rfl, glt, fun j hj => hrg.cell (by omega)⟩) (fun j => HBG.out.one _) (n - at_)
      (by rw [k2]; simp only [Nat.min_def]; rw [if_pos (Nat.le_refl _)]) (by omega)
    have hcn : ∀ (W : World) (dp sp : Option Addr) (dLen dCap : Nat) ty, (Builtin.copy_ #[54, 54] ty #[.slice dp dLen dCap, .slice sp 0 0]).run Tryz.prog W = .ok (goInt 0) W :=
      fun W dp sp dLen dCap => copy_nothing W Tryz.underlying54 infoSize dp sp dLen dCap 0 0 (.inl rfl)
    have hb3 : Below w2.heap.size w2 w3 := ((Below.refl _ _).alloc (Nat.le_refl _) _).drew.trans (ho3.below (Nat.le_refl _) (by rw [hw]; omega))
    have H : ListPost w n l (.returned (.slice (some ⟨w2.heap.size, 0, none⟩) n n)) w4 := by
      refine ⟨_, rfl, fun _ => ⟨w2.heap.size, rfl, by rw [hd.size]; exact Nat.le_refl _, hrow4.congr fun j hj => ?_⟩, ?_, fun h => absurd h n0⟩
      · unfold spliced
        by_cases c : j < at_
        · rw [if_neg (by omega), if_pos (by omega)]
          exact HBG.out.lo j c
        · rw [if_pos (by omega)]
          show F (at_ + gap + (j - at_)) = _
          rw [show at_ + gap + (j - at_) = j + gap from by omega]
          exact HBG.out.hi j (by omega) hj
      · have hb4 : Below w2.heap.size w3 w4 := (Go.below_drewN (Below.refl _ w3) 1).trans (ho4.below (Nat.le_refl _) e3)
        exact (hd.below _).trans ((hb3.trans hb4).mono (by rw [hd.size]; exact Nat.le_refl _))
    have H' : n = at_ → ListPost w n l (.returned (.slice (some ⟨w2.heap.size, 0, none⟩) n n)) w3.drew := by
      intro e
      refine ⟨_, rfl, fun _ => ⟨w2.heap.size, rfl, by rw [hd.size]; exact Nat.le_refl _, World.rowIs.drew (hrow3.congr fun j hj => ?_)⟩, ?_, fun h => absurd h n0⟩
      · unfold spliced
        rw [if_pos (by omega)]
        exact HBG.out.lo j (by omega)
      · exact (hd.below _).trans ((hb3.drew).mono (by rw [hd.size]; exact Nat.le_refl _))
    have HH := Lib.hid H
    have HH' := Lib.hid H'
    have K2 := Lib.hid k2
    clear H H' hrow hrow3 hrow4 ho3 ho4 hrg hw hb3 k1 k2
    go_wp2_with fail
    clear hmk
    go_region
    go_wp2_with fail
    clear hcp
    by_cases e1 : n = at_
    · subst e1
      have z1 : m - (n + gap) = 0 := by have := K2.out; omega
      simp only [z1, Nat.sub_self] at hcp2
      clear hcp2
      by_cases e2 : m = n + gap
      · subst e2
        go_region
        go_wp2_with fail
        go_ret
        exact HH'.out (by first | rfl | trivial)
      · exact absurd (HBG.out.hm) e2
    · have e2 : ¬ m = at_ + gap := by have := HBG.out.hm; omega
      clear hcn
      go_region
      go_wp2_with fail
      go_ret
      exact HH.out
end GapI
end Go.Proofs.YtfmfmeiaekknbaaGreat
end

section
/-
  Contracts of package gaps at elements of type int: widen, Insert, Remove, New.
-/
namespace Go.Proofs.YtfmfmeiaekknbaaGreat
namespace GapI
open Go.RowKit
set_option linter.unusedVariables false

/-- What widen leaves. -/
def WidenPost (w : World) (p g n at_ k : Nat) (l : Nat → Int) (e : Ending) (w' : World) : Prop :=
  e = .returned (.tuple #[]) ∧ (∃ g' m' gap' A' F', BG w' p g' m' n at_ gap' A' F' l ∧ k ≤ gap' ∧ (g' = g ∨ w.heap.size ≤ g')) ∧ Only2 w w' p p

set_option maxRecDepth 100000 in
set_option maxHeartbeats 1600000 in
theorem widen_any (w : World) (p g m n at_ gap : Nat) (A : Option Addr) (F : Nat → Value) (l : Nat → Int) (h : BG w p g m n at_ gap A F l) (k : Nat) (hk : k ≤ 4096) :
    Calls Tryz.prog 135 #[.pointer (some ⟨p, 0, none⟩), .int .i64 k] w (WidenPost w p g n at_ k l) := by
  have HB := Lib.hid h
  obtain ⟨c0, c1, c2, fz⟩ := cells_of h.hp
  have hm2 := h.hm2
  have hn := h.hn
  have hat := h.hat
  have HM := Lib.hid h.hm
  have b0 : gap ≤ m := by have := HM.out; omega
  clear h
  by_cases ck : k ≤ gap
  · have H : WidenPost w p g n at_ k l (.returned (.tuple #[])) w := ⟨rfl, ⟨g, m, gap, A, F, HB.out, ck, .inl rfl⟩, Only2.refl _ _ _⟩
    have HH := Lib.hid H
    clear H
    go_enter Tryz.func135, Tryz.ntmps135
    go_wp2_with fail
    go_end0
    exact HH.out
  · obtain ⟨G, hG⟩ : ∃ G : Nat, G = k + m / 2 + 8 := ⟨_, rfl⟩
    have g1 : ((k : Int) + (m : Int) / 2 + 8) = (G : Int) := by omega
    have g2 : k ≤ G := by omega
    have g3 : n + G ≤ 20000 := by omega
    have g4 : G ≤ 20000 := by omega
    have HG := Lib.hid hG
    clear hG
    have HL := Lib.hid (show Buf w 0 p n at_ l from ⟨g, m, gap, A, F, HB.out, Nat.zero_le _, fun _ => Nat.zero_le _⟩)
    have ck' : ¬ (k : Int) ≤ (gap : Int) := by omega
    go_enter Tryz.func135, Tryz.ntmps135
    go_wp2_with fail
    refine (len_any w 0 p n at_ l HL.out).mono ?_
    rintro e w2 ⟨rfl, hd⟩
    have HBG := Lib.hid (HB.out.drawn hd)
    have hmk := make_e (n + G) ((n : Int) + (G : Int)) (by omega) (by omega)
    have d0 : w2.cell? ⟨p, 0, none⟩ = some (.slice A m m) := (hd.cell _).trans c0
    have d1 : w2.cell? ⟨p, 1, none⟩ = some (.int .i64 at_) := (hd.cell _).trans c1
    have d2 : w2.cell? ⟨p, 2, none⟩ = some (.int .i64 gap) := (hd.cell _).trans c2
    have dz : ∀ i, w2.frozen? ⟨p, i, none⟩ = false := fun i => HBG.out.hp.frozen i
    have plt : p < w2.heap.size := HBG.out.hp.lt
    have a1 : at_ ≤ m := by have := HM.out; omega
    have a2 : at_ + gap ≤ m := by have := HM.out; omega
    have k1 : Nat.min at_ (n + G) = at_ := by simp only [Nat.min_def]; rw [if_pos (by omega)]
    have k2 : m - (at_ + gap) = n - at_ := by have := HM.out; omega
    have hw : (w2.alloc (.cells (madeCells #[.int .i64 0] (n + G)) 3)).drew.heap.size = w2.heap.size + 1 := by simp
    have sees1 : Sees (w2.alloc (.cells (madeCells #[.int .i64 0] (n + G)) 3)).drew w2.heap.size A at_ F := by
      intro hp
      obtain ⟨rfl, _, hrow⟩ := HBG.out.hA (by omega)
      exact ⟨g, 0, rfl, hrow.lt, fun j hj => by rw [Nat.zero_add]; exact (hrow.alloc _).cell (by omega)⟩
    obtain ⟨w3, hcp, hrow3, ho3⟩ := copy_row (P := Tryz.prog) (w2.alloc (.cells (madeCells #[.int .i64 0] (n + G)) 3)).drew (dT := 54) (sT := 54) Tryz.underlying54 infoSize
      (show (w2.alloc (.cells (madeCells #[.int .i64 0] (n + G)) 3)).drew.rowIs w2.heap.size 3 (n + G) (fun _ => .int .i64 0) from World.rowIs_made w2 _ (n + G) _) 0 (n + G) (n + G)
      (B := w2.heap.size) (A := A) (sLen := at_) (sCap := m) (cs := F) sees1 HBG.out.one at_ k1.symm (by omega)
    have q0 : w3.cell? ⟨p, 0, none⟩ = some (.slice A m m) := (ho3.cell (by rw [hw]; omega) (by omega) 0).trans ((World.cell?_alloc_past _ p 0 plt).trans d0)
    have q1 : w3.cell? ⟨p, 1, none⟩ = some (.int .i64 at_) := (ho3.cell (by rw [hw]; omega) (by omega) 1).trans ((World.cell?_alloc_past _ p 1 plt).trans d1)
    have q2 : w3.cell? ⟨p, 2, none⟩ = some (.int .i64 gap) := (ho3.cell (by rw [hw]; omega) (by omega) 2).trans ((World.cell?_alloc_past _ p 2 plt).trans d2)
    have qz : ∀ i, w3.frozen? ⟨p, i, none⟩ = false := fun i => (ho3.frozen (by rw [hw]; omega) (by omega) i).trans ((World.frozen?_alloc_past _ p i plt).trans (dz i))
    have hp3 : w3.rowIs p 139 3 (bufCells A m at_ gap) := ho3.row (HBG.out.hp.alloc _) (by omega)
    have e3 : w2.heap.size ≤ w3.heap.size := by have := ho3.size; rw [hw] at this; omega
    have hb3 : Only2 w w3 p w2.heap.size := by
      have x1 : Only2 w (w2.alloc (.cells (madeCells #[.int .i64 0] (n + G)) 3)).drew p w2.heap.size := ((Only2.of_drawn hd).alloc _).drew
      exact x1.trans (Only2.of_only ho3 (.inr rfl)) (.inl rfl)
    -- the second copy: from at_ + G on
    have fin : ∀ X : Option Addr, (at_ < n → X = some ⟨g, at_ + gap, none⟩) → ∃ w4, (∀ ty, (Builtin.copy_ #[54, 54] ty #[.slice (some ⟨w2.heap.size, at_ + G, none⟩) (n + G - (at_ + G)) (n + G - (at_ + G)), .slice X (m - (at_ + gap)) (m - (at_ + gap))]).run Tryz.prog w3.drew = .ok (goInt (n - at_ : Nat)) w4) ∧
        w4.rowIs w2.heap.size 3 (n + G) (spliced (spliced (fun _ => .int .i64 0) 0 at_ F) (at_ + G) (n - at_) fun j => F (at_ + gap + j)) ∧ Only w3.drew w4 w2.heap.size := by
      intro X hX
      refine copy_row (P := Tryz.prog) w3.drew (dT := 54) (sT := 54) Tryz.underlying54 infoSize (show w3.drew.rowIs w2.heap.size 3 (n + G) _ from hrow3) (at_ + G) (n + G - (at_ + G)) (n + G - (at_ + G))
        (B := w2.heap.size) (A := X) (sLen := m - (at_ + gap)) (sCap := m - (at_ + gap)) (cs := fun j => F (at_ + gap + j)) ?_ (fun j => HBG.out.one _) (n - at_) (by rw [k2, show n + G - (at_ + G) = n - at_ from by omega]; simp only [Nat.min_def]; rw [if_pos (Nat.le_refl _)]) (by omega)
      intro hp
      have hlt : at_ < n := by omega
      obtain ⟨_, _, hrow⟩ := HBG.out.hA (by omega)
      have hrg : w3.rowIs g 3 m F := ho3.row (hrow.alloc _) (by have := hrow.lt; omega)
      exact ⟨g, at_ + gap, hX hlt, hrow.lt, fun j hj => hrg.cell (by omega)⟩
    have done : ∀ w4, w4.rowIs w2.heap.size 3 (n + G) (spliced (spliced (fun _ => .int .i64 0) 0 at_ F) (at_ + G) (n - at_) fun j => F (at_ + gap + j)) → Only w3.drew w4 w2.heap.size →
        WidenPost w p g n at_ k l (.returned (.tuple #[])) ((w4.setCell ⟨p, 0, none⟩ (.slice (some ⟨w2.heap.size, 0, none⟩) (n + G) (n + G))).setCell ⟨p, 2, none⟩ (.int .i64 G)) := by
      intro w4 hrow4 ho4
      have hp4 : w4.rowIs p 139 3 (bufCells A m at_ gap) := ho4.row (show w3.drew.rowIs p _ 3 _ from hp3) (by omega)
      refine ⟨rfl, ⟨w2.heap.size, n + G, G, some ⟨w2.heap.size, 0, none⟩, _, ⟨?_, fun _ => ⟨rfl, by omega, (hrow4.setOther (by show w2.heap.size ≠ p; omega) _).setOther (by show w2.heap.size ≠ p; omega) _⟩, rfl, hat, fun j hj => ?_, fun j h1 h2 => ?_, hn, by omega, ?_⟩, g2, .inr (by rw [hd.size]; exact Nat.le_refl _)⟩, ?_⟩
      · refine ((hp4.set 0 (.slice (some ⟨w2.heap.size, 0, none⟩) (n + G) (n + G))).set 2 (.int .i64 (G : Int))).congr (fun j hj => ?_)
        match j, hj with
        | 0, _ => rfl
        | 1, _ => rfl
        | 2, _ => rfl
      · unfold spliced
        rw [if_neg (by omega), if_pos (by omega)]
        exact HBG.out.lo j hj
      · unfold spliced
        rw [if_pos (by omega)]
        show F (at_ + gap + (j + G - (at_ + G))) = _
        rw [show at_ + gap + (j + G - (at_ + G)) = j + gap from by omega]
        exact HBG.out.hi j h1 h2
      · exact spliced_one (spliced_one (fun _ => rfl) HBG.out.one) fun j => HBG.out.one _
      · have x := hb3.trans (Only2.of_only ho4 (.inr rfl)).drewL (.inr (.inr (by rw [hd.size]; exact Nat.le_refl _)))
        have y := (x.setCell p 0 (.inl rfl) (.slice (some ⟨w2.heap.size, 0, none⟩) (n + G) (n + G))).setCell p 2 (.inl rfl) (.int .i64 (G : Int))
        exact ⟨y.os, y.tape, y.output, y.size, fun b hb h1 _ => y.block b hb h1 (by rw [hd.size]; omega)⟩
    have done0 : n = at_ → WidenPost w p g n at_ k l (.returned (.tuple #[])) ((w3.drew.setCell ⟨p, 0, none⟩ (.slice (some ⟨w2.heap.size, 0, none⟩) (n + G) (n + G))).setCell ⟨p, 2, none⟩ (.int .i64 G)) := by
      intro e
      refine done w3.drew (World.rowIs.drew (hrow3.congr fun j hj => ?_)) (Only.refl _ _)
      unfold spliced
      rw [if_neg (show ¬ (at_ + G ≤ j ∧ j < at_ + G + (n - at_)) by omega)]
    have HDONE := Lib.hid done
    have HDONE0 := Lib.hid done0
    have HO3 := Lib.hid ho3
    clear done done0 hrow3 hp3 hb3 hw k1 sees1 ho3
    by_cases e1 : n = at_
    · subst e1
      -- nothing stands behind the gap
      have HD := Lib.hid (HDONE0.out rfl)
      obtain rfl : m = n + gap := HM.out
      have hcn : ∀ (W : World) (dp sp : Option Addr) (dLen dCap sCap : Nat) ty, (Builtin.copy_ #[54, 54] ty #[.slice dp dLen dCap, .slice sp 0 sCap]).run Tryz.prog W = .ok (goInt 0) W :=
        fun W dp sp dLen dCap sCap => copy_nothing W Tryz.underlying54 infoSize dp sp dLen dCap 0 sCap (.inl rfl)
      clear fin HDONE HDONE0 k2
      go_wp2_with fail
      clear hmk
      go_region
      go_wp2_with fail
      clear hcp
      go_region
      go_wp2_with fail
      go_end0
      exact HD.out
    · have hA := HBG.out.hA (by omega)
      obtain ⟨rfl, hgp, _⟩ := hA
      obtain ⟨w4, hcp2, hr4, ho4⟩ := fin (some ⟨g, at_ + gap, none⟩) (fun _ => rfl)
      have HD := Lib.hid (HDONE.out w4 hr4 ho4)
      have hw3 : w3.drew.heap.size = w3.heap.size := rfl
      have r0 : w4.cell? ⟨p, 0, none⟩ = some (.slice (some ⟨g, 0, none⟩) m m) := (ho4.cell (by rw [hw3]; omega) (by omega) 0).trans q0
      have r2 : w4.cell? ⟨p, 2, none⟩ = some (.int .i64 gap) := (ho4.cell (by rw [hw3]; omega) (by omega) 2).trans q2
      have rz : ∀ i, w4.frozen? ⟨p, i, none⟩ = false := fun i => (ho4.frozen (by rw [hw3]; omega) (by omega) i).trans (qz i)
      have ne1 : ¬ n + G = at_ + G := by omega
      have ne2 : ¬ m = at_ + gap := by have := HM.out; omega
      clear hr4 ho4 fin HDONE HDONE0 hw3 k2
      go_wp2_with fail
      clear hmk
      go_region
      go_wp2_with fail
      clear hcp
      go_region
      go_wp2_with fail
      go_end0
      exact HD.out
end GapI
end Go.Proofs.YtfmfmeiaekknbaaGreat
end

section
/-
  Contracts of package gaps at elements of type int: Insert, Remove, Move, New.
-/
namespace Go.Proofs.YtfmfmeiaekknbaaGreat
namespace GapI
open Go.RowKit
set_option linter.unusedVariables false

/-- The list with k elements more, from place i on. -/
def ins (l : Nat → Int) (i k : Nat) (f : Nat → Int) : Nat → Int := fun j => if j < i then l j else if j < i + k then f (j - i) else l (j - k)
/-- The list without k elements. -/
def rem (l : Nat → Int) (i k : Nat) : Nat → Int := fun j => if j < i then l j else l (j + k)

theorem chk_ok {n i k : Nat} (h : i + k ≤ n) : chkErr n i k = 0 := by unfold chkErr; rw [if_neg (by omega)]

/-- check on a range that there is. -/
theorem check_ok (w : World) (B p n at_ : Nat) (l : Nat → Int) (h : Buf w B p n at_ l) (i k : Nat) (hi : i + k ≤ n) :
    Calls Tryz.prog 81 #[.pointer (some ⟨p, 0, none⟩), .int .i64 i, .int .i64 k] w fun e w' => e = .returned (.int .i64 0) ∧ Drawn w w' := by
  have hn := h.le.2.2
  have := check_any w B p n at_ l h i k ⟨by omega, by omega⟩ ⟨by omega, by omega⟩
  rwa [chk_ok hi] at this
theorem BG.buf0 {w : World} {p g m n at_ gap : Nat} {A : Option Addr} {F : Nat → Value} {l : Nat → Int} (h : BG w p g m n at_ gap A F l) : Buf w 0 p n at_ l := ⟨g, m, gap, A, F, h, Nat.zero_le _, fun _ => Nat.zero_le _⟩

/-- What Insert leaves. -/
def InsPost (w : World) (p g n i k : Nat) (l' : Nat → Int) (e : Ending) (w' : World) : Prop :=
  e = .returned (.int .i64 0) ∧ (∃ g' m' gap' A' F', BG w' p g' m' (n + k) (i + k) gap' A' F' l' ∧ (g' = g ∨ w.heap.size ≤ g')) ∧ Only2 w w' p g

set_option maxRecDepth 100000 in
set_option maxHeartbeats 1600000 in
theorem insert_raw (w : World) (p g m n at_ gap : Nat) (A : Option Addr) (F : Nat → Value) (l : Nat → Int) (h : BG w p g m n at_ gap A F l) (i k : Nat) (x : Int) (hx : x = (i : Int)) (hi : i ≤ n) (hk : 0 < k) (hnk : n + k ≤ 4096)
    (b o c' : Nat) (f : Nat → Int) (hb : b < w.heap.size) (hbp : b ≠ p) (hbg : b ≠ g) (hc : ∀ j, j < k → w.cell? ⟨b, o + j, none⟩ = some (.int .i64 (f j))) :
    Calls Tryz.prog 73 #[.pointer (some ⟨p, 0, none⟩), .int .i64 x, .slice (some ⟨b, o, none⟩) k c'] w (InsPost w p g n i k (ins l i k f)) := by
  subst hx
  have HB := Lib.hid h
  clear h
  have hne : ((k : Int) == 0) = false := by simp; omega
  have HC := Lib.hid hc
  clear hc
  go_enter Tryz.func73, Tryz.ntmps73
  go_wp2_with fail
  refine (check_ok w 0 p n at_ l HB.out.buf0 i 0 (by omega)).mono ?_
  rintro e w1 ⟨rfl, hd1⟩
  go_wp2_with fail
  refine (len_any w1 0 p n at_ l (HB.out.drawn hd1).buf0).mono ?_
  rintro e w2 ⟨rfl, hd2⟩
  have hd := hd1.trans hd2
  have h2 := HB.out.drawn hd
  have HB2 := Lib.hid h2
  clear h2 hd1 hd2
  go_wp2_with fail
  refine (bring_any w2 p g m n at_ gap A F l HB2.out i hi).mono ?_
  rintro e w3 ⟨rfl, ⟨F3, h3⟩, o3⟩
  have HB3 := Lib.hid h3
  have HO3 := Lib.hid o3
  clear h3 o3
  go_wp2_with fail
  refine (widen_any w3 p g m n i gap A F3 l HB3.out k (by omega)).mono ?_
  rintro e w4 ⟨rfl, ⟨g4, m4, gap4, A4, F4, h4, hgap, hg4⟩, o4⟩
  have b0 : gap4 ≤ m4 := by have := h4.hm; omega
  have b1 : n + gap4 = m4 := h4.hm.symm
  have b2 := h4.hm2
  obtain ⟨rfl, hgp, hrow⟩ := h4.hA (by omega)
  obtain ⟨c0, c1, c2, fz⟩ := cells_of h4.hp
  have hbs : b < w4.heap.size := by have := HO3.out.size; have := o4.size; rw [hd.size] at *; omega
  have s2 : w2.heap.size = w.heap.size := hd.size
  have hcell : ∀ j, j < k → w4.cell? ⟨b, o + j, none⟩ = some (.int .i64 (f j)) := by
    intro j hj
    have e4 : w4.heap[b]? = w3.heap[b]? := o4.block b (by have := HO3.out.size; omega) hbp hbp
    have e3 : w3.heap[b]? = w2.heap[b]? := HO3.out.block b (by omega) hbp hbg
    have := HC.out j hj
    rw [← hd.cell] at this
    rw [World.cell?_of_block (w := w3) (a := ⟨b, o + j, none⟩) e4, World.cell?_of_block (w := w2) (a := ⟨b, o + j, none⟩) e3]
    exact this
  have hbg4 : b ≠ g4 := by
    rcases hg4 with e | e
    · rw [e]; exact hbg
    · have := HO3.out.size; omega
  obtain ⟨w5, hcp, hrow5, ho5⟩ := copy_row (P := Tryz.prog) w4.drew (dT := 54) (sT := 54) Tryz.underlying54 infoSize (show w4.drew.rowIs g4 3 m4 F4 from hrow) i (m4 - i) (m4 - i)
    (B := w4.heap.size) (A := some ⟨b, o, none⟩) (sLen := k) (sCap := c') (cs := fun j => .int .i64 (f j)) (fun _ => ⟨b, o, rfl, hbs, fun j hj => hcell j hj⟩) (fun _ => rfl) k (by simp only [Nat.min_def]; rw [if_pos (by omega)]) (by omega)
  have plt : p < w4.drew.heap.size := h4.hp.lt
  have hgp' : p ≠ g4 := fun e => hgp e.symm
  have q0 : w5.cell? ⟨p, 0, none⟩ = some (.slice (some ⟨g4, 0, none⟩) m4 m4) := (ho5.cell plt hgp' 0).trans c0
  have q1 : w5.cell? ⟨p, 1, none⟩ = some (.int .i64 i) := (ho5.cell plt hgp' 1).trans c1
  have q2 : w5.cell? ⟨p, 2, none⟩ = some (.int .i64 gap4) := (ho5.cell plt hgp' 2).trans c2
  have qz : ∀ i, w5.frozen? ⟨p, i, none⟩ = false := fun i => (ho5.frozen plt hgp' i).trans (fz i)
  have hp5 : w5.rowIs p 139 3 (bufCells (some ⟨g4, 0, none⟩) m4 i gap4) := ho5.row (show w4.drew.rowIs p _ 3 _ from h4.hp) hgp'
  have fin : InsPost w p g n i k (ins l i k f) (.returned (.int .i64 0)) ((w5.setCell ⟨p, 1, none⟩ (.int .i64 ((i : Int) + (k : Int)))).setCell ⟨p, 2, none⟩ (.int .i64 ((gap4 : Int) - (k : Int)))) := by
    have hg40 : g4 = g ∨ w.heap.size ≤ g4 := by
      rcases hg4 with e | e
      · exact .inl e
      · right; have := HO3.out.size; omega
    refine ⟨rfl, ⟨g4, m4, gap4 - k, some ⟨g4, 0, none⟩, _, ⟨?_, fun _ => ⟨rfl, hgp, (hrow5.setOther (by show g4 ≠ p; exact hgp) _).setOther (by show g4 ≠ p; exact hgp) _⟩, by omega, by omega, fun j hj => ?_, fun j h1 h2 => ?_, hnk, b2, ?_⟩, hg40⟩, ?_⟩
    · refine ((hp5.set 1 (.int .i64 ((i : Int) + (k : Int)))).set 2 (.int .i64 ((gap4 : Int) - (k : Int)))).congr (fun j hj => ?_)
      match j, hj with
      | 0, _ => rfl
      | 1, _ => show Value.int .i64 ((i : Int) + (k : Int)) = .int .i64 ((i + k : Nat) : Int); rw [Int.natCast_add]
      | 2, _ => show Value.int .i64 ((gap4 : Int) - (k : Int)) = .int .i64 ((gap4 - k : Nat) : Int); congr 1; omega
    · unfold spliced ins
      by_cases d : j < i
      · rw [if_neg (by omega), if_pos d]; exact h4.lo j d
      · rw [if_pos (by omega), if_neg d, if_pos hj]
    · unfold spliced ins
      rw [if_neg (by omega), if_neg (by omega), if_neg (by omega), show j + (gap4 - k) = j - k + gap4 from by omega]
      exact h4.hi (j - k) (by omega) (by omega)
    · exact spliced_one h4.one fun _ => rfl
    · have x2 : Only2 w w3 p g := (Only2.of_drawn hd).trans HO3.out (.inl rfl)
      have x3 : Only2 w w4 p g := x2.trans o4 (.inr (.inl rfl))
      have x4 : Only2 w w5 p g := by
        rcases hg40 with e | e
        · subst e; exact x3.trans (Only2.of_only ho5 (.inr rfl)).drewL (.inl rfl)
        · exact x3.trans (Only2.of_only (p := p) (g := g4) ho5 (.inr rfl)).drewL (.inr (.inr e))
      exact (x4.setCell p 1 (.inl rfl) _).setCell p 2 (.inl rfl) _
  have HH := Lib.hid fin
  have ne1 : ¬ m4 = i := by omega
  have j1 : (i : Int) + (k : Int) ≤ 4096 := by omega
  have j2 : (0 : Int) ≤ (gap4 : Int) - (k : Int) := by omega
  have j3 : i ≤ m4 := by omega
  clear fin hrow hrow5 ho5 hp5 o4 hcell b1
  go_wp2_with fail
  go_region
  go_wp2_with fail
  go_ret
  exact HH.out

theorem BG.zero_g {w : World} {p g n at_ gap : Nat} {A : Option Addr} {F : Nat → Value} {l : Nat → Int} (h : BG w p g 0 n at_ gap A F l) : BG w p p 0 n at_ gap A F l :=
  ⟨h.hp, fun h => absurd h (by omega), h.hm, h.hat, h.lo, h.hi, h.hn, h.hm2, h.one⟩
/-- A buffer by its blocks, both at B or above. -/
theorem Buf.open_ {w : World} {B p n at_ : Nat} {l : Nat → Int} (h : Buf w B p n at_ l) : ∃ g m gap A F, BG w p g m n at_ gap A F l ∧ B ≤ p ∧ B ≤ g ∧ g < w.heap.size := by
  obtain ⟨g, m, gap, A, F, h1, h2, h3⟩ := h
  by_cases m0 : 0 < m
  · exact ⟨g, m, gap, A, F, h1, h2, h3 m0, (h1.hA m0).2.2.lt⟩
  · obtain rfl : m = 0 := by omega
    exact ⟨p, 0, gap, A, F, h1.zero_g, h2, h2, h1.hp.lt⟩

/-- What a change of the buffer leaves. -/
def ChgPost (w : World) (B p n' at' : Nat) (l' : Nat → Int) (e : Ending) (w' : World) : Prop :=
  e = .returned (.int .i64 0) ∧ Buf w' B p n' at' l' ∧ Below B w w'

/-- Insert, the source apart from the buffer's blocks. -/
theorem insert_ok (w : World) (B p n at_ : Nat) (l : Nat → Int) (h : Buf w B p n at_ l) (i k : Nat) (x : Int) (hx : x = (i : Int)) (hi : i ≤ n) (hk : 0 < k) (hnk : n + k ≤ 4096) (A' : Option Addr) (c' : Nat) (f : Nat → Int)
    (hs : Sees w B A' k fun j => .int .i64 (f j)) :
    Calls Tryz.prog 73 #[.pointer (some ⟨p, 0, none⟩), .int .i64 x, .slice A' k c'] w (ChgPost w B p (n + k) (i + k) (ins l i k f)) := by
  obtain ⟨g, m, gap, A, F, h1, h2, h3, h4⟩ := h.open_
  obtain ⟨b, o, rfl, hb, hc⟩ := hs hk
  have plt := h1.hp.lt
  refine (insert_raw w p g m n at_ gap A F l h1 i k x hx hi hk hnk b o c' f (by omega) (by omega) (by omega) hc).mono ?_
  rintro e w' ⟨rfl, ⟨g', m', gap', A'', F', q1, q2⟩, q3⟩
  exact ⟨rfl, ⟨g', m', gap', A'', F', q1, h2, fun _ => by omega⟩, q3.below h2 h3 (by omega)⟩

set_option maxHeartbeats 800000 in
theorem insert_none (w : World) (B p n at_ : Nat) (l : Nat → Int) (h : Buf w B p n at_ l) (i : Nat) (x : Int) (hx : x = (i : Int)) (hi : i ≤ n) (A' : Option Addr) (c' : Nat) :
    Calls Tryz.prog 73 #[.pointer (some ⟨p, 0, none⟩), .int .i64 x, .slice A' 0 c'] w fun e w' => e = .returned (.int .i64 0) ∧ Drawn w w' := by
  subst hx
  have HB := Lib.hid h
  have hn := h.le.2.2
  clear h
  go_enter Tryz.func73, Tryz.ntmps73
  go_wp2_with fail
  refine (check_ok w B p n at_ l HB.out i 0 (by omega)).mono ?_
  rintro e w1 ⟨rfl, hd1⟩
  go_wp2_with fail
  refine (len_any w1 B p n at_ l (HB.out.drawn hd1)).mono ?_
  rintro e w2 ⟨rfl, hd2⟩
  go_wp2_with fail
  go_ret
  exact ⟨rfl, hd1.trans hd2⟩
end GapI
end Go.Proofs.YtfmfmeiaekknbaaGreat
end

section
/-
  Contracts of package gaps at elements of type int: Remove, Move, New.
-/
namespace Go.Proofs.YtfmfmeiaekknbaaGreat
namespace GapI
open Go.RowKit
set_option linter.unusedVariables false

/-- What Remove leaves, by the blocks. -/
def RemPost (w : World) (p g m n i k gap : Nat) (A : Option Addr) (l' : Nat → Int) (e : Ending) (w' : World) : Prop :=
  e = .returned (.int .i64 0) ∧ (∃ F', BG w' p g m (n - k) i (gap + k) A F' l') ∧ Only2 w w' p g

set_option maxRecDepth 100000 in
set_option maxHeartbeats 1600000 in
theorem remove_raw (w : World) (p g m n at_ gap : Nat) (A : Option Addr) (F : Nat → Value) (l : Nat → Int) (h : BG w p g m n at_ gap A F l) (i k : Nat) (hk : 0 < k) (hi : i + k ≤ n) :
    Calls Tryz.prog 83 #[.pointer (some ⟨p, 0, none⟩), .int .i64 i, .int .i64 k] w (RemPost w p g m n i k gap A (rem l i k)) := by
  have HB := Lib.hid h
  have hn := h.hn
  clear h
  have hne : ((k : Int) == 0) = false := by simp; omega
  go_enter Tryz.func83, Tryz.ntmps83
  go_wp2_with fail
  refine (check_ok w 0 p n at_ l HB.out.buf0 i k hi).mono ?_
  rintro e w1 ⟨rfl, hd⟩
  have HB1 := Lib.hid (HB.out.drawn hd)
  go_wp2_with fail
  refine (bring_any w1 p g m n at_ gap A F l HB1.out i (by omega)).mono ?_
  rintro e w3 ⟨rfl, ⟨F3, h3⟩, o3⟩
  have hm := h3.hm
  have hm2 := h3.hm2
  obtain ⟨rfl, hgp, hrow⟩ := h3.hA (by omega)
  obtain ⟨c0, c1, c2, fz⟩ := cells_of h3.hp
  obtain ⟨w4, hcl, hrow4, ho4⟩ := clear_row (P := Tryz.prog) w3.drew Tryz.underlying54 zeroE rfl rfl (show w3.drew.rowIs g 3 m F3 from hrow) (some ⟨g, i + gap, none⟩) (i + gap) k (m - (i + gap)) (fun _ => rfl) (by omega)
  have plt : p < w3.drew.heap.size := h3.hp.lt
  have hgp' : p ≠ g := fun e => hgp e.symm
  have q0 : w4.cell? ⟨p, 0, none⟩ = some (.slice (some ⟨g, 0, none⟩) m m) := (ho4.cell plt hgp' 0).trans c0
  have q1 : w4.cell? ⟨p, 1, none⟩ = some (.int .i64 i) := (ho4.cell plt hgp' 1).trans c1
  have q2 : w4.cell? ⟨p, 2, none⟩ = some (.int .i64 gap) := (ho4.cell plt hgp' 2).trans c2
  have qz : ∀ i, w4.frozen? ⟨p, i, none⟩ = false := fun i => (ho4.frozen plt hgp' i).trans (fz i)
  have hp4 : w4.rowIs p 139 3 (bufCells (some ⟨g, 0, none⟩) m i gap) := ho4.row (show w3.drew.rowIs p _ 3 _ from h3.hp) hgp'
  have fin : RemPost w p g m n i k gap (some ⟨g, 0, none⟩) (rem l i k) (.returned (.int .i64 0)) (w4.setCell ⟨p, 2, none⟩ (.int .i64 ((gap : Int) + (k : Int)))) := by
    refine ⟨rfl, ⟨_, ⟨?_, fun _ => ⟨rfl, hgp, hrow4.setOther (by show g ≠ p; exact hgp) _⟩, by omega, by omega, fun j hj => ?_, fun j h1 h2 => ?_, by omega, hm2, ?_⟩⟩, ?_⟩
    · refine (hp4.set 2 (.int .i64 ((gap : Int) + (k : Int)))).congr (fun j hj => ?_)
      match j, hj with
      | 0, _ => rfl
      | 1, _ => rfl
      | 2, _ => show Value.int .i64 ((gap : Int) + (k : Int)) = .int .i64 ((gap + k : Nat) : Int); rw [Int.natCast_add]
    · unfold spliced rem
      rw [if_neg (by omega), if_pos hj]; exact h3.lo j hj
    · unfold spliced rem
      rw [if_neg (by omega), if_neg (by omega), show j + (gap + k) = j + k + gap from by omega]
      exact h3.hi (j + k) (by omega) (by omega)
    · exact spliced_one h3.one fun _ => rfl
    · exact (((Only2.of_drawn hd).trans o3 (.inl rfl)).trans (Only2.of_only ho4 (.inr rfl)).drewL (.inl rfl)).setCell p 2 (.inl rfl) _
  have HH := Lib.hid fin
  have ne1 : ¬ m = i + gap := by omega
  have e1 : i + gap + k - (i + gap) = k := by omega
  have j1 : i + gap + k ≤ m := by omega
  have E1 := e1
  clear fin hrow hrow4 ho4 hp4 o3 hm h3
  go_wp2_with fail
  go_region
  go_wp2_with fail
  go_ret
  exact HH.out

/-! ### Move -/
/-- The elements that are taken so far. -/
def takenTo (l : Nat → Int) (i r : Nat) : Nat → Value := fun j => if j < r then .int .i64 (l (i + j)) else .int .i64 0

set_option maxRecDepth 100000 in
set_option maxHeartbeats 1600000 in
theorem move_raw (w : World) (p g m n at_ gap : Nat) (A : Option Addr) (F : Nat → Value) (l : Nat → Int) (h : BG w p g m n at_ gap A F l) (hgl : g < w.heap.size) (i k t : Nat) (hk : 0 < k) (hi : i + k ≤ n) (ht : t + k ≤ n) :
    Calls Tryz.prog 27 #[.pointer (some ⟨p, 0, none⟩), .int .i64 i, .int .i64 k, .int .i64 t] w (InsPost w p g (n - k) t k (ins (rem l i k) t k fun j => l (i + j))) := by
  have HB := Lib.hid h
  have hn := h.hn
  clear h
  have hne : ((k : Int) == 0) = false := by simp; omega
  have htk : ¬ (n : Int) - (k : Int) < (t : Int) := by omega
  go_enter Tryz.func27, Tryz.ntmps27
  go_wp2_with fail
  refine (check_ok w 0 p n at_ l HB.out.buf0 i k hi).mono ?_
  rintro e w1 ⟨rfl, hd1⟩
  go_wp2_with fail
  refine (len_any w1 0 p n at_ l (HB.out.drawn hd1).buf0).mono ?_
  rintro e w2 ⟨rfl, hd2⟩
  have hd := hd1.trans hd2
  have HB2 := Lib.hid (HB.out.drawn hd)
  have hmk := make_e k k rfl (by omega)
  clear hd1 hd2
  go_wp2_with fail
  clear hmk
  obtain ⟨s, hs⟩ : ∃ s, s = w2.heap.size := ⟨_, rfl⟩
  go_loopw [35] (fun c wr => ∃ r : Nat, r ≤ k ∧ c = .int .i64 r ∧ wr.rowIs w2.heap.size 3 k (takenTo l i r) ∧ Below w2.heap.size w2 wr) (fun c _ => k - (intOf c).toNat)
  case atStart =>
    refine ⟨0, Nat.zero_le _, rfl, (World.rowIs_made w2 _ k _).congr (fun j hj => ?_), (Below.refl _ _).alloc (Nat.le_refl _) _⟩
    unfold takenTo
    rw [if_neg (by omega)]
  case round =>
    obtain ⟨r, hr, rfl, hrow, hb⟩ := hrel
    by_cases hlt : r < k
    · have hbw : BG wr p g m n at_ gap A F l := HB2.out.keep (hb.block p HB2.out.hp.lt) (fun hm => hb.block g (HB2.out.hA hm).2.2.lt)
      have b3 := hbw.hm2
      have b4 := hbw.hm
      obtain ⟨s1, s2⟩ := hbw.stands (i := i + r) (by omega)
      obtain ⟨rfl, hgp, hrg⟩ := hbw.hA (by omega)
      have hcs := cells_of hbw.hp
      obtain ⟨c0, c1, c2, fz⟩ := cells_of hbw.hp
      obtain ⟨q, hq⟩ : ∃ q, q = stands at_ gap (i + r) := ⟨_, rfl⟩
      have hcell := hrg.cell s1
      rw [s2, ← hq] at hcell
      rw [← hq] at s1
      have HP : ∀ d : Nat, Calls Tryz.prog 82 #[.pointer (some ⟨p, 0, none⟩), .int .i64 ((i : Int) + (r : Int))] (wr.drewN d) fun e w' => e = .returned (.int .i64 q) ∧ wr.drewN d = w' := by
        intro d
        have := place_any (wr.drewN d) p m at_ gap (some ⟨g, 0, none⟩) (hcs.drewN d) (i + r) (by omega) (by omega)
        rw [← hq, Int.natCast_add] at this
        exact this
      have HPP : Hid (Calls Tryz.prog 82 #[.pointer (some ⟨p, 0, none⟩), .int .i64 ((i : Int) + (r : Int))] wr.drew fun e w' => e = .returned (.int .i64 q) ∧ w' = wr.drew) := (HP 1).mono fun _ _ ⟨he, hw⟩ => ⟨he, hw.symm⟩
      have hcr : wr.cell? ⟨w2.heap.size, r, none⟩ = some (.int .i64 0) := by
        have := hrow.cell (i := r) hlt
        unfold takenTo at this
        rwa [if_neg (by omega)] at this
      have hfr : wr.frozen? ⟨w2.heap.size, r, none⟩ = false := hrow.frozen _
      have s3 : (q : Int) < (m : Int) := by omega
      have r3 : (r : Int) < (k : Int) := by omega
      have hrow' : (wr.setCell ⟨w2.heap.size, r, none⟩ (.int .i64 (l (i + r)))).rowIs w2.heap.size 3 k (takenTo l i (r + 1)) := by
        refine (hrow.set r _).congr (fun j hj => ?_)
        unfold takenTo
        by_cases hj : j = r
        · subst hj; rw [if_pos rfl, if_pos (by omega)]
        · rw [if_neg hj]
          by_cases hj2 : j < r
          · rw [if_pos hj2, if_pos (by omega)]
          · rw [if_neg hj2, if_neg (by omega)]
      have HR := Lib.hid hrow'
      clear HP hrow' hq s2 b4 hbw hrg hcs fz hs
      go_wp2_with fail
      have hsum : IntKind.i64.wrap ((i : Int) + (r : Int)) = (i : Int) + (r : Int) := IntWalk.i64_in _ (by omega)
      refine wp_region_still_tail 14 (by kernel_rfl) (by kernel_rfl) ?_
      change wpStill _ _ wr.drew (fun a' => wpList _ _ _ _ a' wr.drew) _ _
      simp only [List.take_succ_cons, List.take_zero, List.drop_succ_cons, List.drop_zero]
      repeat still_step
      refine wpStill_step (fun K hK => ?_)
      go_simp
      refine ⟨_, HPP.out, hK _ ?_⟩
      clear hK K
      repeat still_step
      try refine wpStill_nil ?_
      clear hsum
      go_wp2_with fail
      go_roundw
      case rel => exact ⟨r + 1, by omega, by go_num, HR.out, (hb.setCell (Nat.le_refl _) _).drew⟩
      case measure => simp [intOf]; omega
    · obtain rfl : r = k := by omega
      have hbw : BG wr p g m n at_ gap A F l := HB2.out.keep (hb.block p HB2.out.hp.lt) (fun hm => hb.block g (HB2.out.hA hm).2.2.lt)
      have HBW := Lib.hid hbw
      have HROW := Lib.hid hrow
      clear hbw hrow
      go_wp2_with fail
      refine (remove_raw wr p g m n at_ gap A F l HBW.out i r hk hi).mono ?_
      rintro e w3 ⟨rfl, ⟨F3, h3⟩, o3⟩
      have HB3 := Lib.hid h3
      have HO3 := Lib.hid o3
      have s2 : w2.heap.size = w.heap.size := hd.size
      have s3 : w2.heap.size < wr.heap.size := HROW.out.lt
      have plt : p < w.heap.size := HB.out.hp.lt
      have hrow3 : w3.rowIs w2.heap.size 3 r (takenTo l i r) := HROW.out.of_block (HO3.out.block _ s3 (by omega) (by omega))
      have HR3 := Lib.hid hrow3
      have S2 := Lib.hid s2
      clear h3 o3 hrow3 s2
      go_wp2_with fail
      refine (insert_raw w3 p g m (n - r) i (gap + r) A F3 (rem l i r) HB3.out t r t rfl (by omega) hk (by omega) w2.heap.size 0 r (fun j => l (i + j)) (by have := HO3.out.size; omega) (by have := S2.out; omega) (by have := S2.out; omega) (fun j hj => ?_)).mono ?_
      · rw [Nat.zero_add, HR3.out.cell hj]
        unfold takenTo
        rw [if_pos hj]
      rintro e w4 ⟨rfl, h4, o4⟩
      have H : InsPost w p g (n - r) t r (ins (rem l i r) t r fun j => l (i + j)) (.returned (.int .i64 0)) w4 := by
        have x1 : Only2 w wr p g := (Only2.of_drawn hd).trans (g' := g) ⟨hb.os, hb.tape, hb.output, hb.size, fun b hb' h1 h2 => hb.block b hb'⟩ (.inl rfl)
        have x2 := (x1.trans HO3.out (.inl rfl)).trans o4 (.inl rfl)
        obtain ⟨g', m', gap', A', F', y1, y2⟩ := h4
        refine ⟨rfl, ⟨g', m', gap', A', F', y1, ?_⟩, x2⟩
        rcases y2 with e | e
        · exact .inl e
        · right; have := (x1.trans HO3.out (.inl rfl)).size; omega
      have HH := Lib.hid H
      clear H
      go_wp2_with fail
      go_ret
      exact HH.out

set_option maxHeartbeats 800000 in
theorem move_none (w : World) (B p n at_ : Nat) (l : Nat → Int) (h : Buf w B p n at_ l) (i t : Nat) (x z : Int) (hx : x = (i : Int)) (hz : z = (t : Int)) (hi : i ≤ n) (ht : t ≤ n) :
    Calls Tryz.prog 27 #[.pointer (some ⟨p, 0, none⟩), .int .i64 x, .int .i64 0, .int .i64 z] w fun e w' => e = .returned (.int .i64 0) ∧ Drawn w w' := by
  subst hx hz
  have HB := Lib.hid h
  have hn := h.le.2.2
  have htk : ¬ (n : Int) < (t : Int) := by omega
  clear h
  go_enter Tryz.func27, Tryz.ntmps27
  go_wp2_with fail
  refine (check_ok w B p n at_ l HB.out i 0 (by omega)).mono ?_
  rintro e w1 ⟨rfl, hd1⟩
  go_wp2_with fail
  refine (len_any w1 B p n at_ l (HB.out.drawn hd1)).mono ?_
  rintro e w2 ⟨rfl, hd2⟩
  go_wp2_with fail
  go_ret
  exact ⟨rfl, hd1.trans hd2⟩
/-! ### New -/
theorem buf_zero (w : World) (l : Nat → Int) : Buf (w.alloc (.cells #[.slice none 0 0, .int .i64 0, .int .i64 0] 139)) w.heap.size w.heap.size 0 0 l := by
  refine ⟨0, 0, 0, none, fun _ => .int .i64 0, ⟨(World.rowIs_alloc w _ _ _ ?_), fun h => absurd h (by omega), rfl, Nat.le_refl _, fun j h => absurd h (by omega), fun j _ h => absurd h (by omega), by omega, by omega, fun _ => rfl⟩, Nat.le_refl _, fun h => absurd h (by omega)⟩
  intro i hi
  match i, hi with
  | 0, _ => rfl
  | 1, _ => rfl
  | 2, _ => rfl

/-- What New leaves. -/
def NewPost (w : World) (k : Nat) (f : Nat → Int) (e : Ending) (w' : World) : Prop :=
  ∃ p, e = .returned (.tuple #[.pointer (some ⟨p, 0, none⟩), .int .i64 0]) ∧ Buf w' w.heap.size p k k f ∧ Below w.heap.size w w'
set_option maxHeartbeats 800000 in
theorem new_ok (w : World) (k c' : Nat) (A' : Option Addr) (f : Nat → Int) (hs : Sees w w.heap.size A' k fun j => .int .i64 (f j)) (hk : k ≤ 4096) :
    Calls Tryz.prog 23 #[.slice A' k c'] w (NewPost w k f) := by
  by_cases k0 : k = 0
  · subst k0
    go_enter Tryz.func23, Tryz.ntmps23
    go_wp2_with fail
    refine (insert_none _ w.heap.size w.heap.size 0 0 f (buf_zero w f) 0 0 rfl (Nat.le_refl _) A' c').mono ?_
    rintro e w1 ⟨rfl, hd⟩
    have H : NewPost w 0 f (.returned (.tuple #[.pointer (some ⟨w.heap.size, 0, none⟩), .int .i64 0])) w1 :=
      ⟨_, rfl, (buf_zero w f).drawn hd, ((Below.refl _ w).alloc (Nat.le_refl _) _).trans (hd.below _)⟩
    have HH := Lib.hid H
    clear H
    go_wp2_with fail
    go_ret2
    exact HH.out
  · have HS := Lib.hid hs
    clear hs
    go_enter Tryz.func23, Tryz.ntmps23
    go_wp2_with fail
    refine (insert_ok _ w.heap.size w.heap.size 0 0 f (buf_zero w f) 0 k 0 rfl (Nat.le_refl _) (by omega) (by omega) A' c' f (HS.out.below ((Below.refl _ w).alloc (Nat.le_refl _) _))).mono ?_
    rintro e w1 ⟨rfl, hB, hb⟩
    have H : NewPost w k f (.returned (.tuple #[.pointer (some ⟨w.heap.size, 0, none⟩), .int .i64 0])) w1 := by
      refine ⟨_, rfl, ?_, ((Below.refl _ w).alloc (Nat.le_refl _) _).trans hb⟩
      rw [Nat.zero_add] at hB
      refine hB.congr fun j hj => ?_
      unfold ins
      rw [if_neg (by omega), if_pos (by omega), Nat.sub_zero]
    have HH := Lib.hid H
    clear H hB
    go_wp2_with fail
    go_ret2
    exact HH.out
end GapI
end Go.Proofs.YtfmfmeiaekknbaaGreat
end

section
/-
  For the laws of the orders and the moves: two orders of the same numbers, the places that the moves name, gap buffers with their blocks named.
-/
namespace Go.Proofs.YtfmfmeiaekknbaaGreat
open Go.RowKit
set_option linter.unusedVariables false
set_option linter.unusedSimpArgs false

theorem Two.pinj {l m : Nat → Int} {n : Nat} {pos : Nat → Nat} (h : Two l m n pos) : ∀ i k, i < n → k < n → pos i = pos k → i = k := fun i k hi hk e => by
  refine h.om.inj i k hi hk ?_
  rw [← (h.pos i hi).2, ← (h.pos k hk).2, e]
/-- The steps of Moves, by places. -/
theorem moves_idx {l m : Nat → Int} {n q : Nat} {pos r : Nat → Nat} {O : Sp} (ht : Two l m n pos) (hL : Longest (fun i => (pos i : Int)) n q r) (hO : O = (mst r q (bk m n n)).2.1 ∨ q = n ∧ O = []) :
    ∃ I : List Nat, O = I.map (stOf m n) ∧ (∀ i ∈ I, i < n) ∧ (∀ i, i < n → (runF n pos I).1 i = pos i) ∧ I.length + q = n := by
  have hp : ∀ i, i < n → pos i < n := fun i hi => (ht.pos i hi).1
  obtain ⟨h1, h2⟩ := run_all hL.rise hp ht.pinj
  have R := Rounds.all hL.rise hp ht.pinj n (Nat.le_refl _)
  rcases hO with hO | ⟨rfl, rfl⟩
  · rw [mst_idx m r q n n (Nat.le_refl _)] at hO
    exact ⟨_, hO, R.inI, h1, h2⟩
  · have : (idx r q q q).2 = [] := List.eq_nil_of_length_eq_zero (by omega)
    rw [this] at h1 h2
    exact ⟨[], rfl, fun i hi => (nomatch hi), h1, by simp⟩
theorem ins_mov (l : Nat → Int) (a m t j : Nat) : GapI.ins (GapI.rem l a m) t m (fun j => l (a + j)) j = l (movF a m t j) := by
  unfold GapI.ins GapI.rem movF restF
  by_cases h1 : j < t
  · rw [if_pos h1, if_pos h1]
    by_cases h2 : j < a
    · rw [if_pos h2, if_pos h2]
    · rw [if_neg h2, if_neg h2]
  · rw [if_neg h1, if_neg h1]
    by_cases h2 : j < t + m
    · rw [if_pos h2, if_pos h2]
      show l (a + (j - t)) = l (a + j - t)
      rw [show a + (j - t) = a + j - t by omega]
    · rw [if_neg h2, if_neg h2]
      by_cases h3 : j - m < a
      · rw [if_pos h3, if_pos h3]
      · rw [if_neg h3, if_neg h3]
/-- A gap buffer of n numbers at block p, its elements in block g. -/
def GB (w : World) (p g n : Nat) (l : Nat → Int) : Prop := (∃ m at_ gap A F, GapI.BG w p g m n at_ gap A F l) ∧ p < w.heap.size ∧ g < w.heap.size
theorem GB.below {w w' : World} {p g n : Nat} {l : Nat → Int} (h : GB w p g n l) (hb : Below w.heap.size w w') : GB w' p g n l := by
  obtain ⟨⟨m, at_, gap, A, F, h⟩, h2, h3⟩ := h
  exact ⟨⟨m, at_, gap, A, F, h.keep (hb.block _ h2) (fun _ => hb.block _ h3)⟩, Nat.lt_of_lt_of_le h2 hb.size, Nat.lt_of_lt_of_le h3 hb.size⟩
theorem GB.congr {w : World} {p g n : Nat} {l u : Nat → Int} (h : GB w p g n l) (e : ∀ j, j < n → l j = u j) : GB w p g n u := by
  obtain ⟨⟨m, at_, gap, A, F, h⟩, h2, h3⟩ := h
  exact ⟨⟨m, at_, gap, A, F, h.congr e⟩, h2, h3⟩
theorem GB.buf {w : World} {p g n : Nat} {l : Nat → Int} (h : GB w p g n l) : ∃ at_, GapI.Buf w 0 p n at_ l := by
  obtain ⟨⟨m, at_, gap, A, F, h⟩, _⟩ := h
  exact ⟨at_, h.buf0⟩
theorem gb_new (w : World) (k c' : Nat) (A' : Option Addr) (f : Nat → Int) (hs : Sees w w.heap.size A' k (i64s f)) (hk : k ≤ 4096) :
    Calls Tryz.prog 23 #[.slice A' k c'] w fun e w' => ∃ p g, e = .returned (.tuple #[.pointer (some ⟨p, 0, none⟩), .int .i64 0]) ∧ GB w' p g k f ∧ w.heap.size ≤ p ∧ w.heap.size ≤ g ∧ Below w.heap.size w w' := by
  refine (GapI.new_ok w k c' A' f hs hk).mono ?_
  rintro e w' ⟨p, rfl, h, hb⟩
  obtain ⟨g, m, gap, A, F, h1, h2, h3, h4⟩ := h.open_
  exact ⟨p, g, rfl, ⟨⟨m, _, gap, A, F, h1⟩, h1.hp.lt, h4⟩, h2, h3, hb⟩
theorem gb_list (w : World) (p g n : Nat) (l : Nat → Int) (h : GB w p g n l) :
    Calls Tryz.prog 25 #[.pointer (some ⟨p, 0, none⟩)] w fun e w' => ∃ A, e = .returned (.slice A n n) ∧ Sees w' w'.heap.size A n (i64s l) ∧ Below w.heap.size w w' := by
  obtain ⟨at_, hB⟩ := h.buf
  refine (GapI.list_any w 0 p n at_ l hB).mono ?_
  rintro e w' ⟨A, rfl, h1, h2, _⟩
  refine ⟨A, rfl, fun hn => ?_, h2⟩
  obtain ⟨g', rfl, _, hr⟩ := h1 hn
  exact ⟨g', 0, rfl, hr.lt, fun j hj => by rw [Nat.zero_add]; exact hr.cell hj⟩
theorem gb_move (w : World) (p g n : Nat) (l : Nat → Int) (h : GB w p g n l) (a k t : Nat) (hk : 0 < k) (ha : a + k ≤ n) (ht : t + k ≤ n) :
    Calls Tryz.prog 27 #[.pointer (some ⟨p, 0, none⟩), .int .i64 a, .int .i64 k, .int .i64 t] w fun e w' => e = .returned (.int .i64 0) ∧ ∃ g', GB w' p g' n (fun j => l (movF a k t j)) ∧ (g' = g ∨ w.heap.size ≤ g') ∧ Fr (fun b => b = p ∨ b = g) w w' := by
  obtain ⟨⟨m, at_, gap, A, F, h1⟩, h2, h3⟩ := h
  refine (GapI.move_raw w p g m n at_ gap A F l h1 h3 a k t hk ha ht).mono ?_
  rintro e w' ⟨rfl, ⟨g', m', gap', A', F', q1, q2⟩, q3⟩
  rw [show n - k + k = n from by omega] at q1
  have hsz := q3.size
  have hm' : 0 < m' := by have := q1.hm; omega
  refine ⟨rfl, g', ⟨⟨m', _, gap', A', F', q1.congr fun j _ => ins_mov l a k t j⟩, by omega, (q1.hA hm').2.2.lt⟩, q2, ⟨q3.os, q3.tape, q3.output, q3.size, fun b hb hn => q3.block b hb (fun e => hn (.inl e)) (fun e => hn (.inr e))⟩⟩
/-- A move of no element. -/
theorem gb_none (w : World) (p g n : Nat) (l : Nat → Int) (h : GB w p g n l) (a t : Nat) (ha : a ≤ n) (ht : t ≤ n) :
    Calls Tryz.prog 27 #[.pointer (some ⟨p, 0, none⟩), .int .i64 a, .int .i64 (0 : Nat), .int .i64 t] w fun e w' => e = .returned (.int .i64 0) ∧ Drawn w w' := by
  obtain ⟨at_, hB⟩ := h.buf
  exact GapI.move_none w 0 p n at_ l hB a t _ _ rfl rfl ha ht
end Go.Proofs.YtfmfmeiaekknbaaGreat
end

section
/-
  Law package 06: I.Of.
-/
namespace Go.Proofs.YtfmfmeiaekknbaaGreat
open Go.RowKit
set_option linter.unusedVariables false
set_option linter.unusedSimpArgs false

theorem insR_end (R : Rws) {k : Nat} (h : k < R.length) : insR (R.take k) k [(rg R k).1] (rg R k).2 = R.take (k + 1) := by
  have hl : (R.take k).length = k := by rw [List.length_take]; omega
  unfold insR
  rw [List.take_of_length_le (by omega), List.drop_eq_nil_of_le (by omega), List.take_succ_eq_append_getElem h, ← rg_get R h]
  simp
theorem iins_one (R : Rws) (ok : IOk R) {k : Nat} (h : k < R.length) : iinsErr (R.take k) k [(rg R k).1] = 0 ∧ iinsTo (R.take k) k [(rg R k).1] (rg R k).2 = R.take (k + 1) := by
  have hl : (R.take k).length = k := by rw [List.length_take]; omega
  have hk := ok.len
  have hr := rg_fst R h
  have hp := ok.ps (rg R k).1 (by rw [hr]; exact lf_mem _ (by rw [szs_len]; exact h))
  have e : iinsErr (R.take k) k [(rg R k).1] = 0 := by
    unfold iinsErr
    rw [if_neg (by omega), if_neg (by rw [hl]; show ¬ 1024 < k + 1; omega)]
    have hz : ckZ (lf [(rg R k).1]) ([(rg R k).1] : List Int).length = 0 := by
      show ckZ (lf [(rg R k).1]) 1 = 0
      unfold ckZ
      have e1 : ckZ (lf [(rg R k).1]) 0 = 0 := rfl
      have e2 : lf [(rg R k).1] 0 = (rg R k).1 := rfl
      have e3 : psum (lf [(rg R k).1]) 0 = 0 := rfl
      rw [if_pos e1, e2, e3, if_neg (by omega), if_neg (by omega)]
    rw [hz, if_neg (by simp), if_neg]
    have hs := sum_take_succ (szs R) (k := k) (by rw [szs_len]; exact h)
    have hb := (sum_take_bd ok.ok (k + 1)).2
    rw [szs_take]
    have : ([(rg R k).1] : List Int).sum = (rg R k).1 := by simp
    rw [this, hr]
    omega
  refine ⟨e, ?_⟩
  unfold iinsTo
  rw [if_pos e, Int.toNat_natCast, insR_end R h]
theorem lit_i64 (w : World) (x : Int) : SeesL (w.alloc (.cells #[.int .i64 x] 2)) (w.heap.size + 1) (some ⟨w.heap.size, 0, none⟩) [x] := by
  have := Sees.lit w #[.int .i64 x] 2 (i64s (lf [x])) 1 rfl (fun j hj => by
    have h0 : j = 0 := Nat.lt_one_iff.1 hj
    subst h0; rfl)
  rw [World.size_alloc] at this
  exact this
theorem irow_fit {R : Rws} (ok : IOk R) {k : Nat} (h : k < R.length) : Fits (rg R k).1 := by
  have := ok.ps (rg R k).1 (by rw [rg_fst R h]; exact lf_mem _ (by rw [szs_len]; exact h))
  exact ⟨by omega, by omega⟩
set_option maxRecDepth 100000 in
set_option maxHeartbeats 6400000 in
theorem Of_any (w : World) (A : Option Addr) (m c : Nat) (f : Nat → Int) (g : Bool) (hs : Sees w w.heap.size A m (u8r f)) (hf : ∀ j, j < m → 0 ≤ f j ∧ f j ≤ 255) (hm : m ≤ maxLen) :
    Calls Tryz.prog 7 #[.agg #[.slice A m c, .bool g]] w fun e w' => ∃ a' A' S', e = .returned (ixv a' A' S'.length) ∧ Ix w' a' A' S' (irows f m g) ∧ Below w.heap.size w w' := by
  have OK := Lib.hid (irows_ok f m g)
  have b0 : Below w.heap.size w (w.alloc (.cells #[.slice A m c, .bool g] 24)) := (Below.refl _ w).alloc (Nat.le_refl _) _
  have V0 := Lib.hid ((LX.start b0).cons (Ix.new _))
  have KR := Lib.hid (Rows_any ((w.alloc (.cells #[.slice A m c, .bool g] 24)).alloc (.cells #[.pointer none, .slice none 0 0] 32)) A m c f g ((hs.below (b0.alloc (by rw [World.size_alloc]; omega) _)).more (by rw [World.size_alloc, World.size_alloc]; omega)) hf hm)
  clear hs hf b0
  rw [World.size_alloc] at V0
  generalize irows f m g = R at KR OK ⊢
  go_enter Tryz.func7, Tryz.ntmps7
  go_wp2_with fail
  refine (KR.out).mono ?_
  rintro e w1 ⟨A1, c1, rfl, p1, p2, p3, p4⟩
  have V1 := Lib.hid ((V0.out.below p2).add p1)
  have hlen := OK.out.len
  obtain ⟨n, en⟩ : ∃ n, n = R.length := ⟨_, rfl⟩
  have EN := Lib.hid en
  rw [← en] at hlen p3 ⊢
  clear p1 p2 en V0
  go_wp2_with fail
  refine (new_any w1).mono ?_
  rintro e w2 ⟨rfl, hb⟩
  have V2 := Lib.hid ((V1.out.below hb).cons (Ix.new _))
  have l0 := Nat.lt_of_lt_of_le (V1.out.get (.head _)).lt hb.size
  clear hb V1
  go_wp2_with fail
  go_loopw [5] (fun i wr => ∃ (k : Nat) (a : Option Addr) (A' : Option Addr) (S : Sp), k ≤ n ∧ i = .int .i64 k ∧ Hid (LX w wr [(w2.heap.size, a, A', S, R.take k), (w.heap.size + 1, none, none, [], [])] [(A1, R)])) (fun i _ => n - (intOf i).toNat)
  case atStart => exact ⟨0, none, none, [], Nat.zero_le _, rfl, V2⟩
  case round =>
    obtain ⟨k, a, A', S, hk, rfl, V3⟩ := hrel
    clear V2
    by_cases hlt : k < n
    · have hkR : k < R.length := by rw [← EN.out]; exact hlt
      obtain ⟨b, o, rfl, hb0, c0, c1⟩ := (V3.out.see (.head _)).cells hkR
      obtain ⟨x1, x2, f1, f2, ix, l1⟩ := V3.out.get (.head _)
      obtain ⟨i1, i2⟩ := iins_one R OK.out hkR
      have hp := irow_fit OK.out hkR
      have KI := Lib.hid (fun W Al (hW : Below wr.heap.size wr W) (h : SeesL W W.heap.size Al [(rg R k).1]) => iinsert_any W a A' S (R.take k) (ix.below hW) k Al 1 W.heap.size [(rg R k).1] (rg R k).2 ⟨by omega, by omega⟩ h (Nat.le_refl _) (Nat.le_refl _) (by unfold maxLen; decide) (by show 1 ≤ 1000000000000000; decide) (fun x hx => by rw [List.mem_singleton.1 hx]; exact hp))
      rw [i1, i2] at KI
      obtain ⟨vs, hvs⟩ : ∃ v, v = (rg R k).1 := ⟨_, rfl⟩
      obtain ⟨vk, hvk⟩ : ∃ v, v = (rg R k).2 := ⟨_, rfl⟩
      rw [← hvs] at c0 KI
      rw [← hvk] at c1 KI
      obtain ⟨R1, hR1⟩ : ∃ r, r = R.take (k + 1) := ⟨_, rfl⟩
      rw [← hR1] at KI
      have HR1 := Lib.hid hR1
      clear hvs hvk hkR i1 i2 hp ix hR1
      have S1 : Hid (Below wr.heap.size wr wr.drew) := (Below.refl _ _).drew
      have S2 : Hid (∀ o, Below wr.heap.size wr (wr.drew.alloc o)) := fun o => S1.out.alloc (Nat.le_refl _) _
      have S3 : Hid (∀ o o', Below wr.heap.size wr ((wr.drew.alloc o).alloc o')) := fun o o' => (S2.out o).alloc (by rw [World.size_alloc]; show wr.heap.size ≤ wr.heap.size + 1; omega) _
      have S4 : Hid (∀ o, Below wr.heap.size wr ((wr.alloc o).drew)) := fun o => ((Below.refl _ wr).alloc (Nat.le_refl _) _).drew
      have S6 : Hid (∀ o o', Below wr.heap.size wr (((wr.alloc o).alloc o').drew)) := fun o o' => (((Below.refl _ wr).alloc (Nat.le_refl _) _).alloc (by rw [World.size_alloc]; exact Nat.le_succ _) _).drew
      have L3 : Hid (SeesL (((wr.alloc (.cells #[.pointer none, .slice none 0 0] 32)).alloc (.cells #[.int .i64 vs] 2)).drew) (((wr.alloc (.cells #[.pointer none, .slice none 0 0] 32)).alloc (.cells #[.int .i64 vs] 2)).drew).heap.size (some ⟨wr.heap.size + 1, 0, none⟩) [vs]) := by
        have h1 := lit_i64 (wr.alloc (.cells #[.pointer none, .slice none 0 0] 32)) vs
        have h2 : (((wr.alloc (.cells #[.pointer none, .slice none 0 0] 32)).alloc (.cells #[.int .i64 vs] 2)).drew).heap.size = (wr.alloc (.cells #[.pointer none, .slice none 0 0] 32)).heap.size + 1 := World.size_alloc _ _
        rw [h2]
        rw [World.size_alloc] at h1 ⊢
        exact h1
      have V30 := Lib.hid (((V3.out.cons (Ix.new _)).alloc (.cells #[.int .i64 vs] 2)).drawn (w' := ((wr.alloc (.cells #[.pointer none, .slice none 0 0] 32)).alloc (.cells #[.int .i64 vs] 2)).drew) ⟨1, rfl⟩)
      have VD := Lib.hid (V3.out.drawn (w' := wr.drew) ⟨1, rfl⟩)
      go_wp2_with fail
      refine wp_region_tree ((PT.pures [0, 1, 2, 3, 4, 5, 6, 8, 9, 10, 11, 12] (.two 7 17 (.two 13 17 (.pures [14, 15, 16] (.mark 17 (.mark 18 (.pure 19 .fin)))) (.mark 13 (.pures [14, 15, 16] (.mark 18 (.pure 19 .fin))))) (.mark 7 (.mark 13 (.pures [14, 15, 16] (.mark 18 (.pure 19 .fin)))))))) (Below wr.heap.size wr) (by kernel_rfl) (by kernel_rfl) (S1.out) ?_
      repeat (refine HT.pure (by simp only [List.getElem?_toArray, List.getElem?_cons_succ, List.getElem?_cons_zero]; rfl) (fun K hK => ?_); first | (apply held_yes; (focus rfl); (focus (intro w' hw; obtain ⟨hc', hf'⟩ := below_cells hw; go_simp; rfl)); (go_simp; refine hK _ ?_; clear hK K)) | (refine ite_no (by decide) ?_; go_simp; refine hK _ ?_; clear hK K))
      refine HT.two (by simp only [List.getElem?_toArray, List.getElem?_cons_succ, List.getElem?_cons_zero]; rfl) (by simp only [List.getElem?_toArray, List.getElem?_cons_succ, List.getElem?_cons_zero]; rfl) ?_ ?_
      · go_wp2_with fail
        refine ⟨(S2.out _), ?_⟩
        repeat (refine HT.pure (by simp only [List.getElem?_toArray, List.getElem?_cons_succ, List.getElem?_cons_zero]; rfl) (fun K hK => ?_); first | (apply held_yes; (focus rfl); (focus (intro w' hw; obtain ⟨hc', hf'⟩ := below_cells hw; go_simp; rfl)); (go_simp; refine hK _ ?_; clear hK K)) | (refine ite_no (by decide) ?_; go_simp; refine hK _ ?_; clear hK K))
        refine HT.two (by simp only [List.getElem?_toArray, List.getElem?_cons_succ, List.getElem?_cons_zero]; rfl) (by simp only [List.getElem?_toArray, List.getElem?_cons_succ, List.getElem?_cons_zero]; rfl) ?_ ?_
        · go_wp2_with fail
          refine (KI.out _ _ (S2.out _) ((lit_i64 wr.drew vs).more (by rw [World.size_alloc]; exact Nat.le_refl _))).mono ?_
          rintro e w5 ⟨a5, A5, S5, rfl, q1, q2⟩
          have B5 : Hid (Below wr.heap.size wr w5) := (S2.out _).trans (q2.mono (by rw [World.size_alloc]; show wr.heap.size ≤ wr.heap.size + 1; omega))
          have B6 : Hid (∀ u, Below wr.heap.size wr (w5.alloc u)) := fun u => B5.out.alloc B5.out.size _
          have V6 := Lib.hid (((VD.out.alloc (.cells #[.int .i64 vs] 2)).below q2).cons q1)
          clear q1 q2
          go_wp2_with fail
          refine ⟨B5.out, ?_⟩
          repeat (refine HT.pure (by simp only [List.getElem?_toArray, List.getElem?_cons_succ, List.getElem?_cons_zero]; rfl) (fun K hK => ?_); first | (apply held_yes; (focus rfl); (focus (intro w' hw; obtain ⟨hc', hf'⟩ := below_cells hw; go_simp; rfl)); (go_simp; refine hK _ ?_; clear hK K)) | (refine ite_no (by decide) ?_; go_simp; refine hK _ ?_; clear hK K))
          refine HT.mark (by simp only [List.getElem?_toArray, List.getElem?_cons_succ, List.getElem?_cons_zero]; rfl) ?_
          go_wp2_with fail
          refine ⟨(B6.out _), ?_⟩
          repeat (refine HT.pure (by simp only [List.getElem?_toArray, List.getElem?_cons_succ, List.getElem?_cons_zero]; rfl) (fun K hK => ?_); first | (apply held_yes; (focus rfl); (focus (intro w' hw; obtain ⟨hc', hf'⟩ := below_cells hw; go_simp; rfl)); (go_simp; refine hK _ ?_; clear hK K)) | (refine ite_no (by decide) ?_; go_simp; refine hK _ ?_; clear hK K))
          refine HT.mark (by simp only [List.getElem?_toArray, List.getElem?_cons_succ, List.getElem?_cons_zero]; rfl) ?_
          go_wp2_with fail
          refine ⟨(B6.out _), ?_⟩
          repeat (refine HT.pure (by simp only [List.getElem?_toArray, List.getElem?_cons_succ, List.getElem?_cons_zero]; rfl) (fun K hK => ?_); first | (apply held_yes; (focus rfl); (focus (intro w' hw; obtain ⟨hc', hf'⟩ := below_cells hw; go_simp; rfl)); (go_simp; refine hK _ ?_; clear hK K)) | (refine ite_no (by decide) ?_; go_simp; refine hK _ ?_; clear hK K))
          -- V6 holds next, x and the result
          obtain ⟨x1, x2, f1, f2, ix6, l1⟩ := V6.out.get (.head _)
          obtain ⟨y1, y2, f3, f4, _, l2⟩ := V6.out.get (.tail _ (.head _))
          have V7 := Lib.hid (V6.out.put (.tail _ (.head _)) ix6 [(w.heap.size + 1, none, none, [], [])] (by
            intro z hz
            simp only [List.mem_cons, List.not_mem_nil, or_false] at hz
            subst hz
            exact ⟨.tail _ (.tail _ (.head _)), by show w.heap.size + 1 ≠ w2.heap.size; omega⟩))
          clear ix6
          refine HT.fin ?_
          go_wp2_with fail
          go_roundw
          case rel => exact ⟨k + 1, _, _, _, by omega, by go_num, by rw [← HR1.out]; exact V7⟩
          case measure => simp [intOf]; omega
        · go_wp2_with fail
          refine ⟨(S3.out _ _), ?_⟩
          repeat (refine HT.pure (by simp only [List.getElem?_toArray, List.getElem?_cons_succ, List.getElem?_cons_zero]; rfl) (fun K hK => ?_); first | (apply held_yes; (focus rfl); (focus (intro w' hw; obtain ⟨hc', hf'⟩ := below_cells hw; go_simp; rfl)); (go_simp; refine hK _ ?_; clear hK K)) | (refine ite_no (by decide) ?_; go_simp; refine hK _ ?_; clear hK K))
          refine HT.mark (by simp only [List.getElem?_toArray, List.getElem?_cons_succ, List.getElem?_cons_zero]; rfl) ?_
          go_wp2_with fail
          refine (KI.out _ _ (S3.out _ _) (((lit_i64 wr.drew vs).below ((Below.refl _ _).alloc (by rw [World.size_alloc]; exact Nat.le_refl _) _)).more (by rw [World.size_alloc, World.size_alloc]; exact Nat.le_succ _))).mono ?_
          rintro e w5 ⟨a5, A5, S5, rfl, q1, q2⟩
          have V5 : Hid (LX w w5 [(wr.heap.size + 1, none, none, [], []), (w2.heap.size, a, A', S, R.take k), (w.heap.size + 1, none, none, [], [])] [(some ⟨b, o, none⟩, R)]) := by
            have := ((VD.out.alloc (.cells #[.int .i64 vs] 2)).cons (Ix.new _)).below q2
            rw [World.size_alloc] at this
            exact this
          -- w5: behind the call, next's variable (wr.heap.size + 1) laid ahead of it; V5 holds it
          have B5 : Hid (Below wr.heap.size wr w5) := (S3.out _ _).trans (q2.mono (S3.out _ _).size)
          obtain ⟨y1, y2, y3, y4, l5⟩ := V5.out.get0 (.head _)
          have V6 := Lib.hid (V5.out.put (.head _) q1 [(w2.heap.size, a, A', S, R.take k), (w.heap.size + 1, none, none, [], [])] (by
            intro z hz
            simp only [List.mem_cons, List.not_mem_nil, or_false] at hz
            have h1 := (VD.out.get (.head _)).lt
            have h2 := (VD.out.get (.tail _ (.head _))).lt
            have h3 : wr.drew.heap.size = wr.heap.size := rfl
            rcases hz with rfl | rfl
            · refine ⟨.tail _ (.head _), ?_⟩
              show w2.heap.size ≠ _
              try rw [World.size_alloc]
              omega
            · refine ⟨.tail _ (.tail _ (.head _)), ?_⟩
              show w.heap.size + 1 ≠ _
              try rw [World.size_alloc]
              omega))
          have B6 : Hid (∀ v v', Below wr.heap.size wr ((w5.setCell ⟨wr.heap.size + 1, 0, none⟩ v).setCell ⟨wr.heap.size + 1, 1, none⟩ v')) := fun v v' => (B5.out.setCell (p := ⟨wr.heap.size + 1, 0, none⟩) (by show wr.heap.size ≤ wr.heap.size + 1; omega) v).setCell (p := ⟨wr.heap.size + 1, 1, none⟩) (by show wr.heap.size ≤ wr.heap.size + 1; omega) v'
          clear q1 q2
          go_wp2_with fail
          refine ⟨B5.out, ?_⟩
          repeat (refine HT.pure (by simp only [List.getElem?_toArray, List.getElem?_cons_succ, List.getElem?_cons_zero]; rfl) (fun K hK => ?_); first | (apply held_yes; (focus rfl); (focus (intro w' hw; obtain ⟨hc', hf'⟩ := below_cells hw; go_simp; rfl)); (go_simp; refine hK _ ?_; clear hK K)) | (refine ite_no (by decide) ?_; go_simp; refine hK _ ?_; clear hK K))
          refine HT.mark (by simp only [List.getElem?_toArray, List.getElem?_cons_succ, List.getElem?_cons_zero]; rfl) ?_
          go_wp2_with fail
          refine ⟨(B6.out _ _), ?_⟩
          repeat (refine HT.pure (by simp only [List.getElem?_toArray, List.getElem?_cons_succ, List.getElem?_cons_zero]; rfl) (fun K hK => ?_); first | (apply held_yes; (focus rfl); (focus (intro w' hw; obtain ⟨hc', hf'⟩ := below_cells hw; go_simp; rfl)); (go_simp; refine hK _ ?_; clear hK K)) | (refine ite_no (by decide) ?_; go_simp; refine hK _ ?_; clear hK K))
          -- V6 holds next, x and the result
          obtain ⟨x1, x2, f1, f2, ix6, l1⟩ := V6.out.get (.head _)
          obtain ⟨y1, y2, f3, f4, _, l2⟩ := V6.out.get (.tail _ (.head _))
          have V7 := Lib.hid (V6.out.put (.tail _ (.head _)) ix6 [(w.heap.size + 1, none, none, [], [])] (by
            intro z hz
            simp only [List.mem_cons, List.not_mem_nil, or_false] at hz
            subst hz
            exact ⟨.tail _ (.tail _ (.head _)), by show w.heap.size + 1 ≠ w2.heap.size; omega⟩))
          clear ix6
          refine HT.fin ?_
          go_wp2_with fail
          go_roundw
          case rel => exact ⟨k + 1, _, _, _, by omega, by go_num, by rw [← HR1.out]; exact V7⟩
          case measure => simp [intOf]; omega
      · go_wp2_with fail
        refine ⟨(S4.out _), ?_⟩
        repeat (refine HT.pure (by simp only [List.getElem?_toArray, List.getElem?_cons_succ, List.getElem?_cons_zero]; rfl) (fun K hK => ?_); first | (apply held_yes; (focus rfl); (focus (intro w' hw; obtain ⟨hc', hf'⟩ := below_cells hw; go_simp; rfl)); (go_simp; refine hK _ ?_; clear hK K)) | (refine ite_no (by decide) ?_; go_simp; refine hK _ ?_; clear hK K))
        refine HT.mark (by simp only [List.getElem?_toArray, List.getElem?_cons_succ, List.getElem?_cons_zero]; rfl) ?_
        go_wp2_with fail
        refine ⟨(S6.out _ _), ?_⟩
        repeat (refine HT.pure (by simp only [List.getElem?_toArray, List.getElem?_cons_succ, List.getElem?_cons_zero]; rfl) (fun K hK => ?_); first | (apply held_yes; (focus rfl); (focus (intro w' hw; obtain ⟨hc', hf'⟩ := below_cells hw; go_simp; rfl)); (go_simp; refine hK _ ?_; clear hK K)) | (refine ite_no (by decide) ?_; go_simp; refine hK _ ?_; clear hK K))
        refine HT.mark (by simp only [List.getElem?_toArray, List.getElem?_cons_succ, List.getElem?_cons_zero]; rfl) ?_
        go_wp2_with fail
        refine (KI.out _ _ (S6.out _ _) L3.out).mono ?_
        rintro e w5 ⟨a5, A5, S5, rfl, q1, q2⟩
        have V5 : Hid (LX w w5 [(wr.heap.size, none, none, [], []), (w2.heap.size, a, A', S, R.take k), (w.heap.size + 1, none, none, [], [])] [(some ⟨b, o, none⟩, R)]) := V30.out.below q2
        -- w5: behind the call, next's variable (wr.heap.size) laid ahead of it; V5 holds it
        have B5 : Hid (Below wr.heap.size wr w5) := (S6.out _ _).trans (q2.mono (S6.out _ _).size)
        obtain ⟨y1, y2, y3, y4, l5⟩ := V5.out.get0 (.head _)
        have V6 := Lib.hid (V5.out.put (.head _) q1 [(w2.heap.size, a, A', S, R.take k), (w.heap.size + 1, none, none, [], [])] (by
          intro z hz
          simp only [List.mem_cons, List.not_mem_nil, or_false] at hz
          have h1 := (VD.out.get (.head _)).lt
          have h2 := (VD.out.get (.tail _ (.head _))).lt
          have h3 : wr.drew.heap.size = wr.heap.size := rfl
          rcases hz with rfl | rfl
          · refine ⟨.tail _ (.head _), ?_⟩
            show w2.heap.size ≠ _
            try rw [World.size_alloc]
            omega
          · refine ⟨.tail _ (.tail _ (.head _)), ?_⟩
            show w.heap.size + 1 ≠ _
            try rw [World.size_alloc]
            omega))
        have B6 : Hid (∀ v v', Below wr.heap.size wr ((w5.setCell ⟨wr.heap.size, 0, none⟩ v).setCell ⟨wr.heap.size, 1, none⟩ v')) := fun v v' => (B5.out.setCell (p := ⟨wr.heap.size, 0, none⟩) (by show wr.heap.size ≤ wr.heap.size; omega) v).setCell (p := ⟨wr.heap.size, 1, none⟩) (by show wr.heap.size ≤ wr.heap.size; omega) v'
        clear q1 q2
        go_wp2_with fail
        refine ⟨B5.out, ?_⟩
        repeat (refine HT.pure (by simp only [List.getElem?_toArray, List.getElem?_cons_succ, List.getElem?_cons_zero]; rfl) (fun K hK => ?_); first | (apply held_yes; (focus rfl); (focus (intro w' hw; obtain ⟨hc', hf'⟩ := below_cells hw; go_simp; rfl)); (go_simp; refine hK _ ?_; clear hK K)) | (refine ite_no (by decide) ?_; go_simp; refine hK _ ?_; clear hK K))
        refine HT.mark (by simp only [List.getElem?_toArray, List.getElem?_cons_succ, List.getElem?_cons_zero]; rfl) ?_
        go_wp2_with fail
        refine ⟨(B6.out _ _), ?_⟩
        repeat (refine HT.pure (by simp only [List.getElem?_toArray, List.getElem?_cons_succ, List.getElem?_cons_zero]; rfl) (fun K hK => ?_); first | (apply held_yes; (focus rfl); (focus (intro w' hw; obtain ⟨hc', hf'⟩ := below_cells hw; go_simp; rfl)); (go_simp; refine hK _ ?_; clear hK K)) | (refine ite_no (by decide) ?_; go_simp; refine hK _ ?_; clear hK K))
        -- V6 holds next, x and the result
        obtain ⟨x1, x2, f1, f2, ix6, l1⟩ := V6.out.get (.head _)
        obtain ⟨y1, y2, f3, f4, _, l2⟩ := V6.out.get (.tail _ (.head _))
        have V7 := Lib.hid (V6.out.put (.tail _ (.head _)) ix6 [(w.heap.size + 1, none, none, [], [])] (by
          intro z hz
          simp only [List.mem_cons, List.not_mem_nil, or_false] at hz
          subst hz
          exact ⟨.tail _ (.tail _ (.head _)), by show w.heap.size + 1 ≠ w2.heap.size; omega⟩))
        clear ix6
        refine HT.fin ?_
        go_wp2_with fail
        go_roundw
        case rel => exact ⟨k + 1, _, _, _, by omega, by go_num, by rw [← HR1.out]; exact V7⟩
        case measure => simp [intOf]; omega
    · obtain rfl : k = n := by omega
      have hR : R.take k = R := List.take_of_length_le (by rw [← EN.out]; exact Nat.le_refl _)
      rw [hR] at V3
      obtain ⟨x1, x2, f1, f2, ix, l1⟩ := V3.out.get (.head _)
      obtain ⟨y1, y2, y3, y4, l2⟩ := V3.out.get0 (.tail _ (.head _))
      have V4 := Lib.hid (V3.out.put1 (.tail _ (.head _)) ix)
      obtain ⟨z1, z2, _, _, _, _⟩ := V4.out.get (.head _)
      clear ix hR
      go_wp2_with fail
      exact bodyPost_ret (v := ixv a A' S.length) (by simp [results, Tryz.results7, go_sem, z1, z2]) rfl ⟨a, A', S, rfl, (V4.out.get (.head _)).ix, V4.out.bl⟩
end Go.Proofs.YtfmfmeiaekknbaaGreat
end

/-
  Contracts of package spans, second: done, Has, Count, both, edge.
-/
import Derived.Test.YteodkmndghaidaaDoorSpaA
namespace Go.Proofs.YteodkmndghaidaaDoor
open Go.RowKit
set_option linter.unusedVariables false
set_option linter.unusedSimpArgs false

/-- What returns a set and an error. -/
def SPost (w : World) (R : Sp) (err : Int) (e : Ending) (w' : World) : Prop := ∃ A, e = .returned (.tuple #[.slice A R.length R.length, .int .i64 err]) ∧ SeesP w' w'.heap.size A R ∧ Below w.heap.size w w'
theorem seesP_nil (w : World) (B : Nat) : SeesP w B none [] := fun h => absurd h (by decide)
theorem SPost.none {w0 w : World} (hb : Below w0.heap.size w0 w) (x : Int) : SPost w0 [] x (.returned (.tuple #[.slice none 0 0, .int .i64 x])) w := ⟨Option.none, rfl, seesP_nil _ _, hb⟩
def dS (R : Sp) : Sp := if 4096 < R.length then [] else R
def dE (R : Sp) : Int := if 4096 < R.length then 3 else 0

theorem infoSp1 : (Tryd.prog.info? 63).map (·.size) = some 2 := by kernel_rfl
theorem clip_eq (A : Option Addr) (n c : Nat) (h : n ≤ c) : ∀ wx, (Instr.sliceAt 51 (.slice A n c) none (some (.int .i64 n)) (some (.int .i64 n))).run Tryd.prog wx = .ok (.slice A n n) wx := fun wx => by
  have := slice_of_bounds (P := Tryd.prog) Tryd.underlying51 infoSp1 A n c none (some (.int .i64 n)) (some (.int .i64 n)) (l := 0) (h := n) (m := n) (fun wx => by simp [Instr.sliceBounds, run_sliceBound, h]) wx
  rwa [subA_zero] at this
theorem clip_any (w : World) (A : Option Addr) (n c : Nat) (h : n ≤ c) : Calls Tryd.prog 48 #[.slice A n c] w fun e w' => e = .returned (.slice A n n) ∧ w = w' := by
  have hc := clip_eq A n c h
  go_enter Tryd.func48, Tryd.ntmps48
  go_wp2_with fail
  go_ret
  exact ⟨rfl, rfl⟩
theorem done_any (w0 w : World) (A : Option Addr) (c : Nat) (R : Sp) (hs : SeesP w w.heap.size A R) (hc : R.length ≤ c) (hl : R.length ≤ 1000000000) (hb : Below w0.heap.size w0 w) :
    Calls Tryd.prog 44 #[.slice A R.length c] w (SPost w0 (dS R) (dE R)) := by
  unfold dS dE
  by_cases h : 4096 < R.length
  · rw [if_pos h, if_pos h]
    have H := Lib.hid (SPost.none hb 3)
    obtain ⟨n, en⟩ : ∃ n, n = R.length := ⟨_, rfl⟩
    rw [← en] at h hl ⊢
    clear hs en hc
    go_enter Tryd.func44, Tryd.ntmps44
    go_wp2_with fail
    go_ret2
    exact H.out
  · rw [if_neg h, if_neg h]
    have H : Hid (SPost w0 R 0 (.returned (.tuple #[.slice A R.length R.length, .int .i64 0])) w) := ⟨A, rfl, hs, hb⟩
    obtain ⟨n, en⟩ : ∃ n, n = R.length := ⟨_, rfl⟩
    rw [← en] at h hl hc H ⊢
    have KC := Lib.hid (clip_any w A n c hc)
    clear hs en
    go_enter Tryd.func44, Tryd.ntmps44
    go_wp2_with fail
    refine (KC.out).mono ?_
    rintro e w' ⟨rfl, rfl⟩
    go_wp2_with fail
    go_ret2
    exact H.out

/-- A place is in one of the spans, told. -/
def anyS (L : Sp) (i : Int) : Bool := L.any fun s => decide (s.1 ≤ i) && decide (i < s.2)
theorem anyS_iff (L : Sp) (i : Int) : anyS L i = true ↔ memS L i := by
  unfold anyS memS
  rw [List.any_eq_true]
  simp
theorem anyS_nil (i : Int) : anyS [] i = false := rfl
theorem anyS_cons (s : Int × Int) (r : Sp) (i : Int) : anyS (s :: r) i = ((decide (s.1 ≤ i) && decide (i < s.2)) || anyS r i) := rfl

def hasS (L : Sp) (i : Int) : Bool := decide (chkS L = 0) && anyS L i
/-- How many places there are. -/
def cntS : Sp → Int
  | [] => 0
  | s :: r => s.2 - s.1 + cntS r
theorem NFfrom.cnt {lo : Int} {L : Sp} (h : NFfrom lo L) : 0 ≤ cntS L ∧ cntS L + lo ≤ endS lo L := by
  induction L generalizing lo with
  | nil => exact ⟨Int.le_refl _, by show 0 + lo ≤ lo; omega⟩
  | cons s r ih =>
    obtain ⟨h1, h2, h3, h4⟩ := h
    obtain ⟨q1, q2⟩ := ih h4
    show 0 ≤ s.2 - s.1 + cntS r ∧ s.2 - s.1 + cntS r + lo ≤ endS s.2 r
    omega
theorem NFfrom.drop {lo : Int} {L : Sp} (h : NFfrom lo L) (k : Nat) : ∃ lo', NFfrom lo' (L.drop k) := by
  have := h
  rw [← List.take_append_drop k L] at this
  exact ⟨_, (NFfrom.append.1 this).2⟩
def countS (L : Sp) : Int := if chkS L = 0 then cntS L else 0
end Go.Proofs.YteodkmndghaidaaDoor

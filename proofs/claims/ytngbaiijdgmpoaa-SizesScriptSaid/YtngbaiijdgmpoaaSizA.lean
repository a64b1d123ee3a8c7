/-
  Contracts of package sizes, first: Len, Top, Size, Known, At, wrong, with.
-/
import Derived.Test.YtngbaiijdgmpoaaSizP
namespace Go.Proofs.Ytngbaiijdgmpoaa
open Go.RowKit
set_option linter.unusedVariables false
set_option linter.unusedSimpArgs false

/-- The value of an index. -/
abbrev ixv (a A : Option Addr) (n : Nat) : Value := .agg #[.pointer a, .slice A n n]
/-- An index in memory. -/
structure Ix (w : World) (a A : Option Addr) (S : Sp) (R : Rws) : Prop where
  rp : Rp w a (szs R)
  sp : SeesP w w.heap.size A S
  ks : KnS S (kn R)
  ok : LOk (szs R)
  le : R.length ≤ 1024
  ps : ∀ x ∈ szs R, 1 ≤ x ∧ x ≤ 2305843009213693952
theorem Ix.below {w w' : World} {a A : Option Addr} {S : Sp} {R : Rws} (h : Ix w a A S R) (hb : Below w.heap.size w w') : Ix w' a A S R :=
  ⟨h.rp.below hb, (h.sp.below hb).more hb.size, h.ks, h.ok, h.le, h.ps⟩
theorem Ix.new (w : World) : Ix w Option.none Option.none [] [] := ⟨Rp.nil w, seesP_nil _ _, KnS.nil.congr (fun j => (kn_out (Nat.zero_le _)).symm), ⟨fun x hx => (nomatch hx), by decide, by decide⟩, by decide, fun x hx => (nomatch hx)⟩
theorem Ix.lt {w : World} {a A : Option Addr} {S : Sp} {R : Rws} (h : Ix w a A S R) : ∀ j, kn R j = true → j < R.length := fun j hj => kn_lt hj
theorem Ix.fits {w : World} {a A : Option Addr} {S : Sp} {R : Rws} (h : Ix w a A S R) : FitsS S := h.ks.nf.fits
theorem Ix.slen {w : World} {a A : Option Addr} {S : Sp} {R : Rws} (h : Ix w a A S R) : S.length ≤ 600 := by
  have := h.ks.len h.lt
  have := h.le
  omega
/-- What returns an index and an error. -/
def IPost (w : World) (R : Rws) (err : Int) (e : Ending) (w' : World) : Prop := ∃ a A S, e = .returned (.tuple #[ixv a A S.length, .int .i64 err]) ∧ Ix w' a A S R ∧ Below w.heap.size w w'
abbrev ixw (w : World) (a A : Option Addr) (n : Nat) : World := w.alloc (.cells #[.pointer a, .slice A n n] 34)
theorem ixw_b (w : World) (a A : Option Addr) (n : Nat) : Below w.heap.size w (ixw w a A n) := (Below.refl _ w).alloc (Nat.le_refl _) _

theorem ilen_any (w : World) (a A : Option Addr) (n : Nat) (R : Rws) (h : Rp w a (szs R)) : Calls Try.prog 29 #[ixv a A n] w fun e w' => e = .returned (.int .i64 R.length) ∧ Below w.heap.size w w' := by
  have B := Lib.hid (ixw_b w a A n)
  have C := Lib.hid (rlen_any _ a _ (h.below B.out))
  rw [szs_len] at C
  clear h
  go_enter Try.func29, Try.ntmps29
  go_wp2_with fail
  refine (C.out).mono ?_
  rintro e w' ⟨rfl, hb⟩
  have H := Lib.hid (B.out.trans (hb.mono B.out.size))
  clear hb
  go_wp2_with fail
  go_ret
  exact ⟨rfl, H.out⟩
theorem itop_any (w : World) (a A : Option Addr) (n : Nat) (R : Rws) (h : Rp w a (szs R)) (ok : LOk (szs R)) (x : Int) (fx : Fits x) : Calls Try.prog 11 #[ixv a A n, .int .i64 x] w fun e w' => e = .returned (.tuple #[.int .i64 (sumVal (szs R) x), .int .i64 (sumErr (szs R) x)]) ∧ Below w.heap.size w w' := by
  have B := Lib.hid (ixw_b w a A n)
  have C := Lib.hid (rsum_any _ a _ (h.below B.out) ok x fx)
  clear h
  go_enter Try.func11, Try.ntmps11
  go_wp2_with fail
  refine (C.out).mono ?_
  rintro e w' ⟨rfl, hb⟩
  have H := Lib.hid (B.out.trans (hb.mono B.out.size))
  clear hb
  go_wp2_with fail
  go_ret2
  exact ⟨rfl, H.out⟩
theorem isize_any (w : World) (a A : Option Addr) (n : Nat) (R : Rws) (h : Rp w a (szs R)) (hl : R.length ≤ 8192) (x : Int) (fx : Fits x) : Calls Try.prog 14 #[ixv a A n, .int .i64 x] w fun e w' => e = .returned (.tuple #[.int .i64 (atVal (szs R) x), .int .i64 (atErr (szs R) x)]) ∧ Below w.heap.size w w' := by
  have B := Lib.hid (ixw_b w a A n)
  have C := Lib.hid (rat_any _ a _ (h.below B.out) (by rw [szs_len]; exact hl) x fx)
  clear h
  go_enter Try.func14, Try.ntmps14
  go_wp2_with fail
  refine (C.out).mono ?_
  rintro e w' ⟨rfl, hb⟩
  have H := Lib.hid (B.out.trans (hb.mono B.out.size))
  clear hb
  go_wp2_with fail
  go_ret2
  exact ⟨rfl, H.out⟩
/-- Whether a row is known, and the error. -/
def knErr (R : Rws) (x : Int) : Int := if x < 0 ∨ (R.length : Int) ≤ x then 4 else 0
def knVal (R : Rws) (x : Int) : Bool := if x < 0 ∨ (R.length : Int) ≤ x then false else kn R x.toNat
set_option maxRecDepth 100000 in
set_option maxHeartbeats 800000 in
theorem iknown_any (w : World) (a A : Option Addr) (S : Sp) (R : Rws) (h : Ix w a A S R) (x : Int) (fx : Fits x) : Calls Try.prog 15 #[ixv a A S.length, .int .i64 x] w fun e w' => e = .returned (.tuple #[.bool (knVal R x), .int .i64 (knErr R x)]) ∧ Below w.heap.size w w' := by
  have B := Lib.hid (ixw_b w a A S.length)
  have C := Lib.hid (ilen_any _ a A S.length R (h.rp.below B.out))
  by_cases c0 : x < 0
  · have e1 : knVal R x = false := if_pos (.inl c0)
    have e2 : knErr R x = 4 := if_pos (.inl c0)
    rw [e1, e2]
    clear e1 e2 h
    go_enter Try.func15, Try.ntmps15
    go_wp2_with fail
    go_ret2
    exact ⟨rfl, B.out⟩
  by_cases c1 : (R.length : Int) ≤ x
  · have e1 : knVal R x = false := if_pos (.inr c1)
    have e2 : knErr R x = 4 := if_pos (.inr c1)
    rw [e1, e2]
    clear e1 e2 h
    go_enter Try.func15, Try.ntmps15
    go_wp2_with fail
    refine (C.out).mono ?_
    rintro e w' ⟨rfl, hb⟩
    have H := Lib.hid (B.out.trans (hb.mono B.out.size))
    clear hb
    go_wp2_with fail
    go_ret2
    exact ⟨rfl, H.out⟩
  obtain ⟨k, rfl⟩ : ∃ k : Nat, x = (k : Int) := ⟨x.toNat, by omega⟩
  have e1 : knVal R k = hasS S k := by
    rw [h.ks.has h.lt (by have := h.le; omega)]
    unfold knVal; rw [if_neg (by omega), Int.toNat_natCast]
  have e2 : knErr R k = 0 := if_neg (by omega)
  rw [e1, e2]
  have K : Hid (∀ W, Below (ixw w a A S.length).heap.size (ixw w a A S.length) W → _) := fun W (hW : Below (ixw w a A S.length).heap.size (ixw w a A S.length) W) =>
    has_any W _ A S.length S k ((h.sp.below B.out).below (hW.mono B.out.size)) (by have := hW.size; have := B.out.size; omega) h.fits (by have := h.slen; omega)
  have c3 : (ixw w a A S.length).cell? ⟨w.heap.size, 1, none⟩ = some (.slice A S.length S.length) := (World.rowIs_alloc w #[.pointer a, .slice A S.length S.length] 34 (fun j => if j = 0 then .pointer a else .slice A S.length S.length) (fun j hj => by
    have : j = 0 ∨ j = 1 := by simp at hj; omega
    rcases this with rfl | rfl <;> rfl)).cell (i := 1) (by simp)
  have C3 := Lib.hid c3
  have SZ : Hid ((ixw w a A S.length).heap.size = w.heap.size + 1) := by show _ = _; rw [World.size_alloc]
  clear c3
  obtain ⟨hv, ehv⟩ : ∃ hv, hv = hasS S k := ⟨_, rfl⟩
  rw [← ehv] at K ⊢
  obtain ⟨sn, esn⟩ : ∃ sn, sn = S.length := ⟨_, rfl⟩
  rw [← esn] at B C K C3 SZ ⊢
  clear ehv esn h e1 e2
  go_enter Try.func15, Try.ntmps15
  go_wp2_with fail
  refine (C.out).mono ?_
  rintro e w1 ⟨rfl, hb⟩
  have d1 := (hb.cell (p := ⟨w.heap.size, 1, none⟩) (by show w.heap.size < _; rw [SZ.out]; omega)).trans C3.out
  have H := Lib.hid (B.out.trans (hb.mono B.out.size))
  have K2 := Lib.hid (K.out w1 hb)
  clear hb
  go_wp2_with fail
  refine (K2.out).mono ?_
  rintro e w2 ⟨rfl, hb⟩
  have H2 := Lib.hid (H.out.trans (hb.mono H.out.size))
  clear hb
  go_wp2_with fail
  go_ret2
  exact ⟨rfl, H2.out⟩
theorem iat_ok (w : World) (a A : Option Addr) (n : Nat) (R : Rws) (h : Rp w a (szs R)) (ok : LOk (szs R)) (x : Int) (I : Nat) (rest : Int) (hp : Place (szs R) x I rest) (hx0 : 0 ≤ x) (hx1 : x < (szs R).sum) : Calls Try.prog 13 #[ixv a A n, .int .i64 x] w fun e w' => e = .returned (.tuple #[.int .i64 I, .int .i64 rest, .int .i64 0]) ∧ Below w.heap.size w w' := by
  have B := Lib.hid (ixw_b w a A n)
  have C := Lib.hid (rfind_ok _ a _ (h.below B.out) ok x I rest hp hx0 hx1)
  clear h hp hx1
  go_enter Try.func13, Try.ntmps13
  go_wp2_with fail
  refine (C.out).mono ?_
  rintro e w' ⟨rfl, hb⟩
  have H := Lib.hid (B.out.trans (hb.mono B.out.size))
  clear hb
  go_wp2_with fail
  exact bodyPost_ret (v := .tuple #[.int .i64 I, .int .i64 rest, .int .i64 0]) (by simp [results, Try.results13, go_sem]) rfl ⟨rfl, H.out⟩
theorem iat_bad (w : World) (a A : Option Addr) (n : Nat) (R : Rws) (h : Rp w a (szs R)) (ok : LOk (szs R)) (x : Int) (fx : Fits x) (hx : x < 0 ∨ (szs R).sum ≤ x) : Calls Try.prog 13 #[ixv a A n, .int .i64 x] w fun e w' => e = .returned (.tuple #[.int .i64 0, .int .i64 0, .int .i64 4]) ∧ Below w.heap.size w w' := by
  have B := Lib.hid (ixw_b w a A n)
  have C := Lib.hid (rfind_bad _ a _ (h.below B.out) ok x fx hx)
  clear h hx
  go_enter Try.func13, Try.ntmps13
  go_wp2_with fail
  refine (C.out).mono ?_
  rintro e w' ⟨rfl, hb⟩
  have H := Lib.hid (B.out.trans (hb.mono B.out.size))
  clear hb
  go_wp2_with fail
  exact bodyPost_ret (v := .tuple #[.int .i64 0, .int .i64 0, .int .i64 4]) (by simp [results, Try.results13, go_sem]) rfl ⟨rfl, H.out⟩
theorem new_any (w : World) : Calls Try.prog 19 #[] w fun e w' => e = .returned (ixv none none 0) ∧ Below w.heap.size w w' := by
  have B := Lib.hid (ixw_b w none none 0)
  go_enter Try.func19, Try.ntmps19
  go_wp2_with fail
  exact bodyPost_ret (v := ixv none none 0) (by simp [results, Try.results19, go_sem]) rfl ⟨rfl, B.out⟩
theorem wrong_any (w : World) (x : Int) (fx : Fits x) : Calls Try.prog 34 #[.int .i64 x] w fun e w' => e = .returned (.bool (decide (x < 1 ∨ 2305843009213693952 < x))) ∧ w = w' := by
  by_cases c1 : x < 1
  · rw [decide_eq_true (.inl c1)]
    go_enter Try.func34, Try.ntmps34
    go_wp2_with fail
    go_ret
    exact ⟨rfl, rfl⟩
  · by_cases c2 : 2305843009213693952 < x
    · rw [decide_eq_true (.inr c2)]
      go_enter Try.func34, Try.ntmps34
      go_wp2_with fail
      go_ret
      exact ⟨rfl, rfl⟩
    · rw [decide_eq_false (by omega)]
      go_enter Try.func34, Try.ntmps34
      go_wp2_with fail
      go_ret
      exact ⟨rfl, rfl⟩
/-- with, with an error and without. -/
theorem with_bad (w : World) (a A : Option Addr) (n : Nat) (x : Int) (hx : x ≠ 0) : Calls Try.prog 38 #[.agg #[.pointer a], .slice A n n, .int .i64 x] w (IPost w [] x) := by
  have xb : (x != 0) = true := by rw [bne_iff_ne]; exact hx
  have B : Hid (∀ u, Below w.heap.size w (((w.alloc (.cells #[.pointer a] 29)).alloc (.cells u 34)))) := fun u => ((Below.refl _ w).alloc (Nat.le_refl _) _).alloc (by rw [World.size_alloc]; omega) _
  go_enter Try.func38, Try.ntmps38
  go_wp2_with fail
  refine bodyPost_ret (v := .tuple #[ixv none none 0, .int .i64 x]) (by simp [results, Try.results38, go_sem]) rfl ⟨none, none, [], rfl, Ix.new _, ?_⟩
  exact B.out _
theorem with_ok (w : World) (a A : Option Addr) (S : Sp) (R : Rws) (h : Ix w a A S R) : Calls Try.prog 38 #[.agg #[.pointer a], .slice A S.length S.length, .int .i64 0] w (IPost w R 0) := by
  have B : Hid (∀ u, Below w.heap.size w (((w.alloc (.cells #[.pointer a] 29)).alloc (.cells u 34)))) := fun u => ((Below.refl _ w).alloc (Nat.le_refl _) _).alloc (by rw [World.size_alloc]; omega) _
  have H := Lib.hid h
  clear h
  obtain ⟨n, en⟩ : ∃ n, n = S.length := ⟨_, rfl⟩
  have EN := Lib.hid en
  rw [← en]
  clear en
  go_enter Try.func38, Try.ntmps38
  go_wp2_with fail
  refine bodyPost_ret (v := .tuple #[ixv a A n, .int .i64 0]) (by simp [results, Try.results38, go_sem]) rfl ⟨a, A, S, ?_, H.out.below ?_, ?_⟩
  · rw [← EN.out]
  · exact B.out _
  · exact B.out _
end Go.Proofs.Ytngbaiijdgmpoaa

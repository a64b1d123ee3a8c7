/-
  Contracts of package sizes: Set as a whole; Remove; Unknown.
-/
import Derived.Test.YtngbaiijdgmpoaaSizC
namespace Go.Proofs.Ytngbaiijdgmpoaa
open Go.RowKit
set_option linter.unusedVariables false
set_option linter.unusedSimpArgs false

theorem IPost.cast {w : World} {R R' : Rws} {x x' : Int} {e : Ending} {w' : World} (h : IPost w R x e w') (e1 : R = R') (e2 : x = x') : IPost w R' x' e w' := by subst e1; subst e2; exact h
theorem iset_any (w : World) (a A : Option Addr) (S : Sp) (R : Rws) (h : Ix w a A S R) (i v : Int) (b : Bool) (fi : Fits i) (fv : Fits v) :
    Calls Try.prog 22 #[ixv a A S.length, .int .i64 i, .int .i64 v, .bool b] w (IPost w (isetTo R i v b) (isetErr R i v)) := by
  unfold isetTo isetErr
  by_cases c1 : i < 0 ∨ (R.length : Int) ≤ i
  · rw [if_pos c1, if_neg (by decide)]
    exact iset_bad w a A S R h i v b fi fv c1
  rw [if_neg c1]
  by_cases c2 : v < 1 ∨ 2305843009213693952 < v
  · rw [if_pos c2, if_neg (by decide)]
    exact iset_wrong w a A S R h i v b fi fv (by omega) (by omega) c2
  rw [if_neg c2]
  by_cases c3 : 4611686018427387904 - ((szs R).sum - lf (szs R) i.toNat) < v
  · rw [if_pos c3, if_neg (by decide)]
    exact iset_over w a A S R h i v b fi fv (by omega) (by omega) c2 c3
  rw [if_neg c3, if_pos rfl]
  obtain ⟨k, rfl⟩ : ∃ k : Nat, i = (k : Int) := ⟨i.toNat, by omega⟩
  rw [Int.toNat_natCast] at c3 ⊢
  exact iset_ok w a A S R h k v b fv (by omega) c2 c3

theorem insF_lt {p : Nat → Bool} {m a n : Nat} (hm : ∀ j, p j = true → j < m) : ∀ j, insF p a n j = true → j < m + n := by
  intro j hj
  unfold insF at hj
  by_cases c1 : j < a
  · rw [if_pos c1] at hj; have := hm j hj; omega
  · rw [if_neg c1] at hj
    by_cases c2 : j < a + n
    · rw [if_pos c2] at hj; cases hj
    · rw [if_neg c2] at hj; have := hm _ hj; omega
theorem remF_lt {p : Nat → Bool} {m a n : Nat} (hm : ∀ j, p j = true → j < m) : ∀ j, remF p a n j = true → j < m := by
  intro j hj
  unfold remF at hj
  by_cases c1 : j < a
  · rw [if_pos c1] at hj; exact hm j hj
  · rw [if_neg c1] at hj; have := hm _ hj; omega
theorem remF_lt2 {p : Nat → Bool} {m a n : Nat} (hm : ∀ j, p j = true → j < m) (ha : a + n ≤ m) : ∀ j, remF p a n j = true → j < m - n := by
  intro j hj
  unfold remF at hj
  by_cases c1 : j < a
  · omega
  · rw [if_neg c1] at hj; have := hm _ hj; omega
theorem sins_small (w : World) (A : Option Addr) (B : Nat) (S : Sp) (p : Nat → Bool) (m a n : Nat) (h : SeesP w B A S) (hB : B ≤ w.heap.size) (hk : KnS S p) (hm : ∀ j, p j = true → j < m) (h8 : m + n ≤ 8000) (ha : a ≤ 8000) :
    Calls Try.prog 37 #[.slice A S.length S.length, .int .i64 a, .int .i64 n] w (KEPost w (insF p a n)) := by
  have hS := hk.len hm
  have hE := hk.end_le hm
  refine (insert_any w B A S.length S a n h hB hk.nf.fits (by omega) ⟨by omega, by omega⟩ ⟨by omega, by omega⟩).mono ?_
  have hr := rngS_ok hk hm (by omega) (a := a) (n := n) (by omega) (by omega)
  rintro e w' (⟨hx, _⟩ | ⟨_, hx, _⟩ | ⟨_, _, R, hi, A', h1, h2, h3⟩)
  · exact absurd hr hx
  · omega
  · have hkr := ins_kn hk hi
    have hl := hkr.len (insF_lt hm)
    obtain ⟨e1, e2⟩ := dE_ok (R := R) (by omega)
    rw [e1, e2] at h1
    rw [e2] at h2
    exact ⟨A', R, h1, h2, hkr, h3⟩
theorem srem_small (w : World) (A : Option Addr) (B : Nat) (S : Sp) (p : Nat → Bool) (m a n : Nat) (h : SeesP w B A S) (hB : B ≤ w.heap.size) (hk : KnS S p) (hm : ∀ j, p j = true → j < m) (h8 : m ≤ 8000) (ha : a ≤ 8000) (hn : n ≤ 8000) :
    Calls Try.prog 43 #[.slice A S.length S.length, .int .i64 a, .int .i64 n] w (KEPost w (remF p a n)) := by
  have hS := hk.len hm
  refine (remove_any w B A S.length S a n h hB hk.nf.fits (by omega) ⟨by omega, by omega⟩ ⟨by omega, by omega⟩).mono ?_
  have hr := rngS_ok hk hm (by omega) (a := a) (n := n) (by omega) (by omega)
  rintro e w' (⟨hx, _⟩ | ⟨_, R, hi, A', h1, h2, h3⟩)
  · exact absurd hr hx
  · have hkr := rem_kn hk hi
    have hl := hkr.len (remF_lt hm)
    obtain ⟨e1, e2⟩ := dE_ok (R := R) (by omega)
    rw [e1, e2] at h1
    rw [e2] at h2
    exact ⟨A', R, h1, h2, hkr, h3⟩

set_option maxRecDepth 100000 in
set_option maxHeartbeats 1600000 in
theorem iremove_bad (w : World) (a A : Option Addr) (S : Sp) (R : Rws) (h : Ix w a A S R) (i n : Int) (hc : cutErr (szs R) i n = 4) :
    Calls Try.prog 26 #[ixv a A S.length, .int .i64 i, .int .i64 n] w (IPost w [] 4) := by
  have V := Lib.hid (vI_x h)
  have g1 := V.out.get (.tail _ (.head _))
  have KS := Lib.hid (rremove_any _ a (szs R) g1.ix.rp h.ok i n)
  have e2 : remTo (szs R) i n = [] := by unfold remTo; rw [hc]; rfl
  rw [hc, e2] at KS
  obtain ⟨x1, x2, _, _, _, l1⟩ := g1
  obtain ⟨w0, e0⟩ : ∃ w0, w0 = vI w a A S.length := ⟨_, rfl⟩
  rw [← e0] at V KS x1 x2 l1
  clear h hc e2
  go_enter Try.func26, Try.ntmps26
  go_wp2_with fail
  change Calls Try.prog _ _ (vI w a A S.length) _
  rw [← e0]
  refine (KS.out).mono ?_
  rintro e w2 ⟨r, rfl, hr, hb⟩
  have V2 := Lib.hid (V.out.below hb)
  obtain ⟨d1', d2', k1', k2', l2'⟩ := V2.out.get0 (.head _)
  have V3 := Lib.hid ((V2.out.zero (.head _)).alloc (.cells #[.pointer r] 29))
  obtain ⟨y1, y2, _, _, _⟩ := V3.out.get0 (.head _)
  clear hb hr x1 x2 l1
  go_wp2_with fail
  exact bodyPost_ret (v := .tuple #[ixv none none 0, .int .i64 4]) (by simp [results, Try.results26, go_sem, y1, y2]) rfl (V3.out.bad 4)
set_option maxRecDepth 100000 in
set_option maxHeartbeats 1600000 in
theorem iremove_ok (w : World) (a A : Option Addr) (S : Sp) (R : Rws) (h : Ix w a A S R) (k m : Nat) (hc : k + m ≤ R.length) :
    Calls Try.prog 26 #[ixv a A S.length, .int .i64 k, .int .i64 m] w (IPost w (remR R k m) 0) := by
  have V := Lib.hid (vI_x h)
  have g1 := V.out.get (.tail _ (.head _))
  have hle := h.le
  have KS := Lib.hid (rremove_any _ a (szs R) g1.ix.rp h.ok k m)
  have hc0 : cutErr (szs R) k m = 0 := by unfold cutErr; rw [szs_len, if_neg (by omega)]
  have e2 : remTo (szs R) k m = szs (remR R k m) := by unfold remTo; rw [hc0, szs_remR]; rfl
  rw [hc0, e2] at KS
  have OK : Hid (LOk (szs (remR R k m))) := by rw [szs_remR]; exact remL_ok h.ok k m
  have PS : Hid (∀ x ∈ szs (remR R k m), 1 ≤ x ∧ x ≤ 2305843009213693952) := fun x hx => by
    rw [szs_remR] at hx
    unfold remL at hx
    rcases List.mem_append.1 hx with hx | hx
    · exact h.ps x (List.mem_of_mem_take hx)
    · exact h.ps x (List.mem_of_mem_drop (List.mem_of_mem_drop hx))
  have LE : Hid ((remR R k m).length ≤ 1024) := by show _ ≤ _; rw [len_remR R hc]; omega
  have KN : Hid (∀ T, KnS T (remF (kn R) k m) → KnS T (kn (remR R k m))) := fun T hT => hT.congr (fun j => (kn_remR R hc j).symm)
  have KM := Lib.hid (fun W (hW : Below (vI w a A S.length).heap.size (vI w a A S.length) W) => srem_small W A _ S (kn R) R.length k m (g1.ix.sp.below hW) hW.size h.ks h.lt (by omega) (by omega) (by omega))
  obtain ⟨x1, x2, _, _, _, l1⟩ := g1
  obtain ⟨R', eR⟩ : ∃ R', R' = remR R k m := ⟨_, rfl⟩
  rw [← eR] at OK PS LE KN KS ⊢
  obtain ⟨w0, e0⟩ : ∃ w0, w0 = vI w a A S.length := ⟨_, rfl⟩
  rw [← e0] at V KS KM x1 x2 l1
  clear h hc hc0 e2 eR
  go_enter Try.func26, Try.ntmps26
  go_wp2_with fail
  change Calls Try.prog _ _ (vI w a A S.length) _
  rw [← e0]
  refine (KS.out).mono ?_
  rintro e w3 ⟨r, rfl, hr, hb⟩
  have HB3 := Lib.hid (hb)
  have HR := Lib.hid hr
  have V3 := Lib.hid (V.out.below HB3.out)
  have V4 := Lib.hid (V3.out.alloc (.cells #[.pointer r] 29))
  have VR := Lib.hid (Var.mk w3 29 (.pointer r))
  have HR4 := Lib.hid (HR.out.below ((Below.refl _ w3).alloc (Nat.le_refl _) (.cells #[.pointer r] 29)))
  have HB4 := Lib.hid (HB3.out.alloc HB3.out.size (.cells #[.pointer r] 29))
  clear hb hr x1 x2 l1
  obtain ⟨x1, x2, _, _, _, l1⟩ := V3.out.get (.tail _ (.head _))
  go_wp2_with fail
  refine (KM.out _ HB4.out).mono ?_
  rintro e w5 ⟨A5, S5, rfl, p1, p2, p3⟩
  have KP := Lib.hid (with_ok w5 r A5 S5 R' ⟨HR4.out.below p3, p1, KN.out _ p2, OK.out, LE.out, PS.out⟩)
  have V5 := Lib.hid (V4.out.below p3)
  have VR5 := Lib.hid (VR.out.below p3)
  have v1 := VR5.out.c
  clear p1 p2 p3 x1 x2 l1
  go_wp2_with fail
  refine (KP.out).mono ?_
  rintro e w6 ⟨a6, A6, S6, rfl, q1, q2⟩
  have V6 := Lib.hid (V5.out.below q2)
  obtain ⟨y1, y2, y3, y4, l4⟩ := V6.out.get0 (.head _)
  have V7 := Lib.hid (V6.out.put1 (.head _) q1)
  obtain ⟨z1, z2, _, _, _, _⟩ := V7.out.get (.head _)
  clear q1 q2 v1
  go_wp2_with fail
  exact bodyPost_ret (v := .tuple #[ixv a6 A6 S6.length, .int .i64 0]) (by simp [results, Try.results26, go_sem, z1, z2]) rfl ⟨a6, A6, S6, rfl, (V7.out.get (.head _)).ix, V7.out.bl⟩
def iremErr (R : Rws) (i n : Int) : Int := cutErr (szs R) i n
def iremTo (R : Rws) (i n : Int) : Rws := if cutErr (szs R) i n = 0 then remR R i.toNat n.toNat else []
theorem iremove_any (w : World) (a A : Option Addr) (S : Sp) (R : Rws) (h : Ix w a A S R) (i n : Int) :
    Calls Try.prog 26 #[ixv a A S.length, .int .i64 i, .int .i64 n] w (IPost w (iremTo R i n) (iremErr R i n)) := by
  unfold iremTo iremErr
  rcases cutErr_cases (szs R) i n with ⟨hE, hc⟩ | ⟨hE, k, m, rfl, rfl, hkm⟩
  · rw [hE, if_neg (by decide)]
    exact iremove_bad w a A S R h i n hE
  · rw [hE, if_pos rfl]
    exact iremove_ok w a A S R h k m (by rwa [szs_len] at hkm)
end Go.Proofs.Ytngbaiijdgmpoaa

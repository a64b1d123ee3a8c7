/-
  Layer 1: the marks of an S, and its set.
-/
import Derived.Test.YtglgkbocmnkokaaSpaM
import Derived.Test.YtglgkbocmnkokaaSpaQ
namespace Go.Proofs.Ytglgkbocmnkokaa
open Go.RowKit
set_option linter.unusedVariables false
set_option linter.unusedSimpArgs false

theorem infoB1 : (Try.prog.info? 4).map (·.size) = some 1 := by kernel_rfl
theorem marks_any (w : World) (A : Option Addr) (n c : Nat) (hc : n ≤ c) (hM : c ≤ maxLen) :
    Calls Try.prog 19 #[.agg #[.slice A n c]] w fun e w' => e = .returned (.slice A (min n 300) c) ∧ Below w.heap.size w w' := by
  have SE : ∀ wx, (Instr.sliceAt 39 (.slice A n c) none (some (.int .i64 (min (n : Int) 300))) none).run Try.prog wx = .ok (.slice A (min n 300) c) wx := fun wx => by
    have := slice_h (P := Try.prog) Try.underlying39 infoB1 A n c (min n 300) (by omega) wx
    rwa [show ((min n 300 : Nat) : Int) = min (n : Int) 300 from by omega] at this
  have hm : n ≤ 9223372036854775807 := Nat.le_trans hc hM
  have B0 : Hid (Below w.heap.size w (w.alloc (.cells #[.slice A n c] 41))) := (Below.refl _ w).alloc (Nat.le_refl _) _
  have c0 : (w.alloc (.cells #[.slice A n c] 41)).cell? ⟨w.heap.size, 0, none⟩ = some (.slice A n c) := (World.rowIs_alloc w #[.slice A n c] 41 (fun _ => .slice A n c) (fun j hj => by
    have h0 : j = 0 := Nat.lt_one_iff.1 hj
    subst h0; rfl)).cell (i := 0) (by simp)
  clear hc hM
  go_enter Try.func19, Try.ntmps19
  go_wp2_with fail
  go_ret
  exact ⟨rfl, B0.out⟩

theorem sOf_any (w : World) (B : Nat) (A : Option Addr) (n c : Nat) (m : Nat → Bool) (h : Sees w B A n (bls m)) (hB : B ≤ w.heap.size) (hc : n ≤ c) (hM : c ≤ maxLen) :
    Calls Try.prog 18 #[.agg #[.slice A n c]] w fun e w' => ∃ R A' c', e = .returned (.slice A' R.length c') ∧ SpTo m (min n 300) R ∧ SeesP w' w'.heap.size A' R ∧ Below w.heap.size w w' ∧ R.length ≤ c' ∧ c' ≤ maxLen := by
  have B0 : Hid (Below w.heap.size w (w.alloc (.cells #[.slice A n c] 41))) := (Below.refl _ w).alloc (Nat.le_refl _) _
  have c0 : (w.alloc (.cells #[.slice A n c] 41)).cell? ⟨w.heap.size, 0, none⟩ = some (.slice A n c) := (World.rowIs_alloc w #[.slice A n c] 41 (fun _ => .slice A n c) (fun j hj => by
    have h0 : j = 0 := Nat.lt_one_iff.1 hj
    subst h0; rfl)).cell (i := 0) (by simp)
  have HS := Lib.hid (h.more hB)
  have K1 := Lib.hid (marks_any (w.alloc (.cells #[.slice A n c] 41)) A n c hc hM)
  clear h hc hM
  go_enter Try.func18, Try.ntmps18
  go_wp2_with fail
  refine (K1.out).mono ?_
  rintro e w1 ⟨rfl, hb⟩
  have D1 : Hid (Below w.heap.size w w1) := B0.out.trans (hb.mono B0.out.size)
  obtain ⟨k, ek⟩ : ∃ k, k = min n 300 := ⟨_, rfl⟩
  have hk : k ≤ n ∧ k ≤ 300 := by omega
  have EK := Lib.hid ek
  have K2 := Lib.hid (refSpans_any w1 w.heap.size A k c m (fun h0 => by
    obtain ⟨b, o, h1, h2, h3⟩ := (HS.out.below D1.out) (by omega)
    exact ⟨b, o, h1, h2, fun j hj => h3 j (by omega)⟩) D1.out.size (by omega))
  rw [← ek]
  clear hb K1 ek c0
  go_wp2_with fail
  refine (K2.out).mono ?_
  rintro e w2 ⟨R, A2, c2, rfl, hT, q1, hb⟩
  have D2 : Hid (Below w.heap.size w w2) := D1.out.trans (hb.mono D1.out.size)
  have HT := Lib.hid hT
  have hlen := NF.len hT.nf
  have hl2 : R.length ≤ 100000 := by
    have h1 := NFfrom.le_end hT.nf
    have h2 := hT.e1
    omega
  have K3 := Lib.hid (of_own w2 _ A2 c2 R q1 (Nat.le_refl _) hl2)
  clear hb q1 hT K2 D1
  go_wp2_with fail
  refine (K3.out).mono ?_
  rintro e w3 ⟨A3, c3, rfl, O3, hb, hc3⟩
  have D3 : Hid (Below w.heap.size w w3) := D2.out.trans (hb.mono D2.out.size)
  have H3 := Lib.hid O3
  have HC := Lib.hid hc3
  clear hb O3 hc3 K3 D2
  go_wp2_with fail
  go_ret
  exact ⟨R, A3, c3, rfl, by rw [← EK.out]; exact HT.out, H3.out.sees, D3.out, H3.out.le, HC.out⟩
end Go.Proofs.Ytglgkbocmnkokaa

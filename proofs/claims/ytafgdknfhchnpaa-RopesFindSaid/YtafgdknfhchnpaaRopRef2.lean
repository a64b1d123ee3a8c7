/-
  The reference of layer 5: Insert.
-/
import Derived.Test.YtafgdknfhchnpaaRopRef
namespace Go.Proofs.Ytafgdknfhchnpaa
open Go.RowKit
set_option linter.unusedVariables false
set_option linter.unusedSimpArgs false

set_option maxRecDepth 100000 in
set_option maxHeartbeats 3200000 in
theorem refInsert_any (w : World) (A A2 : Option Addr) (c c2 B B2 : Nat) (L S : List Int) (h : SeesL w B A L) (h2 : SeesL w B2 A2 S) (hB : B ≤ w.heap.size) (hB2 : B2 ≤ w.heap.size) (hnc : L.length ≤ c) (hc : c ≤ maxLen) (sf : SF A c) (ok : LOk L) (hn2 : S.length ≤ 1000000) (hf : ∀ x ∈ S, Fits x) (i : Int) (fi : Fits i) :
    Calls Try.prog 19 #[.slice A L.length c, .int .i64 i, .slice A2 S.length c2] w (LPost w (insTo L i S) (insErr L i S)) := by
  obtain ⟨fi1, fi2⟩ := fi
  have hl := ok.len
  have E : Hid (∀ (W : World), Below w.heap.size w W → ∀ x : Int, LPost w [] x (.returned (.tuple #[.slice none 0 0, .int .i64 x])) W) := fun W hb x => ⟨none, 0, rfl, seesL_nil _ _, hb, Nat.le_refl _, Nat.zero_le _, .inl ⟨rfl, rfl⟩⟩
  by_cases c1 : i < 0 ∨ (L.length : Int) < i
  · have hE : insErr L i S = 4 := by unfold insErr; rw [if_pos c1]
    unfold insTo
    rw [hE, if_neg (by decide)]
    obtain ⟨N, eN⟩ : ∃ N, N = L.length := ⟨_, rfl⟩
    rw [← eN] at c1 hl ⊢
    clear hE eN hnc h ok
    by_cases q1 : i < 0
    · clear c1
      go_enter Try.func19, Try.ntmps19
      go_wp2_with fail
      go_ret2
      exact E.out w (Below.refl _ _) 4
    · have q2 : (N : Int) < i := by omega
      clear c1
      go_enter Try.func19, Try.ntmps19
      go_wp2_with fail
      go_ret2
      exact E.out w (Below.refl _ _) 4
  obtain ⟨k, rfl⟩ : ∃ k : Nat, i = (k : Int) := ⟨i.toNat, by omega⟩
  have hk : k ≤ L.length := by omega
  have K1 := Lib.hid (check_any A2 S.length c2 (lf S) w B2 h2 (lf_fits hf) (by omega))
  rw [show chk (lf S) S.length = chkL S from rfl] at K1
  by_cases c2' : chkL S = 0
  · have OS := LOk.of_chk c2'
    have hE : insErr L k S = joinErr L S := by unfold insErr; rw [if_neg c1, if_neg (by rw [c2']; decide)]
    have KJ := Lib.hid (refJoin_any w A A2 c c2 B B2 L S h h2 hB hB2 ok OS)
    unfold insTo
    rw [hE, Int.toNat_natCast]
    rw [c2'] at K1
    have hk1 : ¬ (L.length : Int) < (k : Int) := by omega
    have hki : (k : Int) ≤ (c : Int) := by omega
    have hl2 := OS.len
    have l1 : (L.take k).length = k := by rw [List.length_take]; omega
    have l2 : (L.drop k).length = L.length - k := List.length_drop
    have RR : Hid (∀ w1, Below w.heap.size w w1 → ∃ Ac cc w2, (∀ ty, (Builtin.append_ #[22, 22] ty #[.slice (some ⟨w1.heap.size, 0, none⟩) 0 0, .slice A k c]).run Try.prog (w1.alloc (.cells #[] 2)) = .ok (.slice Ac k cc) w2) ∧
        ∃ Ad cd w3, (∀ ty, (Builtin.append_ #[22, 22] ty #[.slice Ac k cc, .slice A2 S.length c2]).run Try.prog w2 = .ok (.slice Ad (k + S.length) cd) w3) ∧
        ∀ A3 c3, SeesL w B A3 (L.drop k) → ∃ Af cf w4, (∀ ty, (Builtin.append_ #[22, 22] ty #[.slice Ad (k + S.length) cd, .slice A3 (L.length - k) c3]).run Try.prog w3 = .ok (.slice Af (k + S.length + (L.length - k)) cf) w4) ∧ LPost w (insL L k S) 0 (.returned (.tuple #[.slice Af (k + S.length + (L.length - k)) cf, .int .i64 0])) w4) := by
      intro w1 hb1
      obtain ⟨Ac, cc, w2, run, O, hb, hcm⟩ := clone_L w1 (A := A) (c := c) (L := L.take k) ((h.take k hk).below (hb1.mono hB)) (by have := hb1.size; omega) (by omega)
      rw [l1] at run
      have B2' := hb1.trans (hb.mono hb1.size)
      refine ⟨Ac, cc, w2, run, ?_⟩
      obtain ⟨Ad, cd, w3, run2, O2, hb2, hcm2⟩ := app_L w2 w1.heap.size O hb.size (c2 := c2) (h2.below (B2'.mono hB2)) (by omega)
      rw [l1] at run2
      have B3' := B2'.trans (hb2.mono hb1.size)
      refine ⟨Ad, cd, w3, run2, fun A3 c3 h3 => ?_⟩
      obtain ⟨Af, cf, w4, run3, O3, hb3, hcm3⟩ := app_L w3 w1.heap.size O2 (Nat.le_trans hb.size hb2.size) (c2 := c3) (h3.below (B3'.mono hB)) (by rw [List.length_append]; omega)
      rw [List.length_append, l1, l2] at run3
      refine ⟨Af, cf, w4, run3, ?_⟩
      exact ⟨Af, cf, by unfold insL; rw [List.length_append, List.length_append, l1, l2], O3.seesL, B3'.trans (hb3.mono hb1.size), O3.le, hcm3 (hcm2 hcm), O3.sf⟩
    have HD : Hid (∀ b o, A = some ⟨b, o, none⟩ → SeesL w B (some ⟨b, o + k, none⟩) (L.drop k)) := fun b o e => by subst e; exact h.drop _ hk
    have HZ : Hid (L.length = k → ∀ A2, SeesL w B A2 (L.drop k)) := fun e A2 hn => absurd hn (by rw [l2]; omega)
    obtain ⟨x, ex⟩ : ∃ x, x = joinErr L S := ⟨_, rfl⟩
    rw [← ex] at KJ ⊢
    obtain ⟨n, en⟩ : ∃ n, n = L.length := ⟨_, rfl⟩
    obtain ⟨s, es⟩ : ∃ s, s = S.length := ⟨_, rfl⟩
    rw [← en] at KJ RR HZ hl hk hk1 hnc ⊢
    rw [← es] at K1 KJ RR hl2 hn2 ⊢
    clear l1 l2 en es ex h h2 hE ok OS hf c1 c2'
    by_cases x0 : x = 0
    · subst x0
      rw [if_pos rfl] at KJ ⊢
      rcases sf with ⟨rfl, rfl⟩ | ⟨b, o, rfl⟩
      · obtain rfl : n = 0 := by omega
        obtain rfl : k = 0 := by omega
        clear hki hk hk1
        go_enter Try.func19, Try.ntmps19
        go_wp2_with fail
        refine (K1.out).mono ?_
        rintro e w' ⟨rfl, rfl⟩
        go_wp2_with fail
        refine (KJ.out).mono ?_
        rintro e w1 ⟨Aj, cj, rfl, _, hb, _⟩
        obtain ⟨Ac, cc, w2, run, Ad, cd, w3, run2, R3⟩ := RR.out w1 hb
        obtain ⟨Af, cf, w4, run3, H⟩ := R3 none 0 (HZ.out (by first | rfl | trivial) _)
        rw [Nat.zero_add] at run2
        simp only [Nat.zero_add, Nat.sub_self, Nat.add_zero] at run3 H
        have R1 := Lib.hid run
        have R2 := Lib.hid run2
        have R3' := Lib.hid run3
        have HH := Lib.hid H
        clear run run2 run3 H R3 hb
        go_wp2_with (at_builtin; refine Hid.out ?_)
        refine Lib.hid (Lib.wpList_append_run _ rfl _ _ _ _ rfl _ _ rfl rfl _ _ (R1.out _) ?_)
        go_wp2_with (at_builtin; refine Hid.out ?_)
        refine Lib.hid (Lib.wpList_append_run _ rfl _ _ _ _ rfl _ _ rfl rfl _ _ (R2.out _) ?_)
        go_wp2_with (at_builtin; refine Hid.out ?_)
        refine Lib.hid (Lib.wpList_append_run _ rfl _ _ _ _ rfl _ _ rfl rfl _ _ (R3'.out _) ?_)
        go_wp2_with fail
        go_ret2
        exact HH.out
      · by_cases hcap : c = k
        · subst hcap
          obtain rfl : n = c := by omega
          go_enter Try.func19, Try.ntmps19
          go_wp2_with fail
          refine (K1.out).mono ?_
          rintro e w' ⟨rfl, rfl⟩
          go_wp2_with fail
          refine (KJ.out).mono ?_
          rintro e w1 ⟨Aj, cj, rfl, _, hb, _⟩
          obtain ⟨Ac, cc, w2, run, Ad, cd, w3, run2, R3⟩ := RR.out w1 hb
          obtain ⟨Af, cf, w4, run3, H⟩ := R3 (some ⟨b, o, none⟩) 0 (HZ.out (by first | rfl | trivial) _)
          rw [Nat.sub_self, Nat.add_zero] at run3 H
          have R1 := Lib.hid run
          have R2 := Lib.hid run2
          have R3' := Lib.hid run3
          have HH := Lib.hid H
          clear run run2 run3 H R3 hb
          go_wp2_with (at_builtin; refine Hid.out ?_)
          refine Lib.hid (Lib.wpList_append_run _ rfl _ _ _ _ rfl _ _ rfl rfl _ _ (R1.out _) ?_)
          go_wp2_with (at_builtin; refine Hid.out ?_)
          refine Lib.hid (Lib.wpList_append_run _ rfl _ _ _ _ rfl _ _ rfl rfl _ _ (R2.out _) ?_)
          go_wp2_with (at_builtin; refine Hid.out ?_)
          refine Lib.hid (Lib.wpList_append_run _ rfl _ _ _ _ rfl _ _ rfl rfl _ _ (R3'.out _) ?_)
          go_wp2_with fail
          go_ret2
          exact HH.out
        · have hcn : ¬ (c : Int) = (k : Int) := by omega
          have hz1 : (k : Int) ≤ (n : Int) := by omega
          have hz2 : (n : Int) ≤ (c : Int) := by omega
          unfold maxLen at hc
          go_enter Try.func19, Try.ntmps19
          go_wp2_with fail
          refine (K1.out).mono ?_
          rintro e w' ⟨rfl, rfl⟩
          go_wp2_with fail
          refine (KJ.out).mono ?_
          rintro e w1 ⟨Aj, cj, rfl, _, hb, _⟩
          obtain ⟨Ac, cc, w2, run, Ad, cd, w3, run2, R3⟩ := RR.out w1 hb
          obtain ⟨Af, cf, w4, run3, H⟩ := R3 (some ⟨b, o + k, none⟩) (c - k) (HD.out b o rfl)
          have R1 := Lib.hid run
          have R2 := Lib.hid run2
          have R3' := Lib.hid run3
          have HH := Lib.hid H
          clear run run2 run3 H R3 hb
          go_wp2_with (at_builtin; refine Hid.out ?_)
          refine Lib.hid (Lib.wpList_append_run _ rfl _ _ _ _ rfl _ _ rfl rfl _ _ (R1.out _) ?_)
          go_wp2_with (at_builtin; refine Hid.out ?_)
          refine Lib.hid (Lib.wpList_append_run _ rfl _ _ _ _ rfl _ _ rfl rfl _ _ (R2.out _) ?_)
          go_wp2_with (at_builtin; refine Hid.out ?_)
          refine Lib.hid (Lib.wpList_append_run _ rfl _ _ _ _ rfl _ _ rfl rfl _ _ (R3'.out _) ?_)
          go_wp2_with fail
          go_ret2
          exact HH.out
    · rw [if_neg x0] at KJ ⊢
      clear RR HD HZ hki
      go_enter Try.func19, Try.ntmps19
      go_wp2_with fail
      refine (K1.out).mono ?_
      rintro e w' ⟨rfl, rfl⟩
      go_wp2_with fail
      refine (KJ.out).mono ?_
      rintro e w1 ⟨Aj, cj, rfl, _, hb, _⟩
      have HB := Lib.hid hb
      clear hb
      go_wp2_with fail
      go_ret2
      exact E.out w1 HB.out x
  · have hE : insErr L k S = chkL S := by unfold insErr; rw [if_neg c1, if_pos c2']
    unfold insTo
    rw [hE, if_neg c2']
    have hk1 : ¬ (L.length : Int) < (k : Int) := by omega
    obtain ⟨N, eN⟩ : ∃ N, N = L.length := ⟨_, rfl⟩
    obtain ⟨x, ex⟩ : ∃ x, x = chkL S := ⟨_, rfl⟩
    rw [← ex] at K1 c2' ⊢
    rw [← eN] at hk hl hk1 ⊢
    clear hE eN hnc h ok ex c1 hk
    go_enter Try.func19, Try.ntmps19
    go_wp2_with fail
    refine (K1.out).mono ?_
    rintro e w' ⟨rfl, rfl⟩
    go_wp2_with fail
    go_ret2
    exact E.out w (Below.refl _ _) x
end Go.Proofs.Ytafgdknfhchnpaa

/-
  The law SpansKnown (under way).
-/
import Derived.Test.YtglgkbocmnkokaaSpaKq
import Derived.Test.YtglgkbocmnkokaaHeld
import Derived.IntWalk
namespace Go.Proofs.Ytglgkbocmnkokaa
open Go.RowKit
set_option linter.unusedVariables false
set_option linter.unusedSimpArgs false

theorem e4096 : fr4 0 4096 = fr4 0 4095 ++ [(16380, 16381)] := by
  have h := fr4_succ 0 4095
  have e : ((4 * ((4095 : Nat) : Int) + 0, 4 * ((4095 : Nat) : Int) + 0 + 1) : Int × Int) = (16380, 16381) := Prod.ext (by omega) (by omega)
  rw [e] at h
  exact h
set_option maxRecDepth 100000 in
set_option maxHeartbeats 400000 in
theorem wide_nf : NF (fr4 0 4095 ++ [(16380, 16383)]) := by
  obtain ⟨h1, h2⟩ := fr4_nf 0 (by omega) 4095 (by omega)
  rw [if_neg (by omega)] at h2
  exact NFfrom.append.2 ⟨h1, by show endS (-1) (fr4 0 4095) < 16380; omega, by decide, by decide, trivial⟩
theorem wide_len : (fr4 0 4095 ++ [(16380, 16383)]).length = 4096 := by rw [List.length_append, fr4_len, List.length_singleton]
set_option maxRecDepth 100000 in
set_option maxHeartbeats 400000 in
theorem wide_ins {R : Sp} (hR : NF R) (hm : ∀ i, memS R i ↔ (i < 16381 ∧ memS (fr4 0 4095 ++ [(16380, 16383)]) i) ∨ (16381 + 1 ≤ i ∧ memS (fr4 0 4095 ++ [(16380, 16383)]) (i - 1))) : R.length = 4097 := by
  obtain ⟨h1, h2⟩ := fr4_nf 0 (by omega) 4095 (by omega)
  rw [if_neg (by omega)] at h2
  have nf : NF (fr4 0 4095 ++ [(16380, 16381), (16382, 16384)]) := NFfrom.append.2 ⟨h1, by show endS (-1) (fr4 0 4095) < 16380; omega, by decide, by decide, by decide, by decide, by decide, trivial⟩
  have e : R = fr4 0 4095 ++ [(16380, 16381), (16382, 16384)] := NFfrom.unique hR nf fun i => by
    rw [hm, memS_append, memS_append, memS_append, memS_cons, memS_cons, memS_cons, memS_cons, fr4_mem, fr4_mem]
    simp only [memS_nil, or_false]
    constructor
    · rintro (⟨h, q | q⟩ | ⟨h, ⟨j, hj, q⟩ | q⟩)
      · exact .inl q
      · exact .inr (.inl ⟨by omega, by omega⟩)
      · omega
      · exact .inr (.inr ⟨by omega, by omega⟩)
    · rintro (⟨j, hj, q⟩ | q | q)
      · exact .inl ⟨by omega, .inl ⟨j, hj, q⟩⟩
      · exact .inl ⟨by omega, .inr ⟨by omega, by omega⟩⟩
      · exact .inr ⟨by omega, .inr ⟨by omega, by omega⟩⟩
  rw [e, List.length_append, fr4_len]; rfl
theorem lit_alloc {w0 w : World} {B : Nat} (h : Below B w0 w) (hB : B ≤ w.heap.size) (o : Obj) : Below B w0 (w.alloc o) := h.trans (((Below.refl _ w).alloc (Nat.le_refl _) o).mono hB)

set_option maxRecDepth 100000 in
set_option maxHeartbeats 12800000 in
theorem law_known (w : World) : Calls Try.prog 8 #[] w fun e w' => e = .returned (.bool true) ∧ Below w.heap.size w w' := by
  have O6 : Hid (Own4 w w.heap.size 0 none 0 none 0 none 0) := Own4.start _ _
  go_enter Try.func8, Try.ntmps8
  go_wp2_with fail
  go_loopw [1, 2, 3, 4] (fun sa sb sc i wr => ∃ (k : Nat) (A1 : Option Addr) (c1 : Nat) (A2 : Option Addr) (c2 : Nat) (A3 : Option Addr) (c3 : Nat), k ≤ 4097 ∧ sa = .slice A1 k c1 ∧ sb = .slice A2 k c2 ∧ sc = .slice A3 k c3 ∧ i = .int .i64 k ∧ Hid (Own4 wr w.heap.size k A1 c1 A2 c2 A3 c3) ∧ Hid (Below w.heap.size w wr)) (fun _ _ _ i _ => 4097 - (intOf i).toNat)
  case atStart => exact ⟨0, none, 0, none, 0, none, 0, Nat.zero_le _, rfl, rfl, rfl, rfl, O6, Below.refl _ _⟩
  case round =>
    obtain ⟨k, A1, c1, A2, c2, A3, c3, hk, rfl, rfl, rfl, rfl, hO, hD⟩ := hrel
    clear O6
    by_cases hlt : k < 4097
    · obtain ⟨Ap, cp, Bp, dp, Cp, ep, v1, v2, v3, r1, r2, r3, O3, hb⟩ := hO.out.push hD.out.size (by omega)
      have R1 := Lib.hid r1
      have R2 := Lib.hid r2
      have R3 := Lib.hid r3
      have P3 := Lib.hid O3
      have D3 : Hid (Below w.heap.size w v3) := hD.out.trans (hb.mono (Nat.le_refl _))
      clear r1 r2 r3 O3 hb hO hD
      go_wp2_with (at_builtin; refine Hid.out ?_)
      refine Lib.hid (Lib.wpList_append_run _ rfl _ _ _ _ rfl _ _ rfl rfl _ _ (R1.out _) ?_)
      go_wp2_with (at_builtin; refine Hid.out ?_)
      refine Lib.hid (Lib.wpList_append_run _ rfl _ _ _ _ rfl _ _ rfl rfl _ _ (R2.out _) ?_)
      go_wp2_with (at_builtin; refine Hid.out ?_)
      refine Lib.hid (Lib.wpList_append_run _ rfl _ _ _ _ rfl _ _ rfl rfl _ _ (R3.out _) ?_)
      go_wp2_with fail
      go_roundw
      case rel => exact ⟨k + 1, Ap, cp, Bp, dp, Cp, ep, by omega, rfl, rfl, rfl, by go_num, P3, D3⟩
      case measure => simp [intOf]; omega
    · have hk4 : 4097 ≤ k := by omega
      have S1 : Hid (SeesP wr wr.heap.size A1 (fr4 0 k)) := hO.out.o1.sees
      have S2 : Hid (SeesP wr wr.heap.size A2 (fr4 2 k)) := hO.out.o2.sees
      have S3 : Hid (Sees wr wr.heap.size A3 k pl4) := by have := hO.out.o3.sees; rwa [Nat.mul_one] at this
      have l1 : k ≤ c1 := by have := hO.out.o1.le; rwa [fr4_len] at this
      have l2 : k ≤ c2 := by have := hO.out.o2.le; rwa [fr4_len] at this
      have l3 : k ≤ c3 := hO.out.o3.le
      have E1 : ∀ wx, (Instr.sliceAt 22 (.slice A1 k c1) none (some (.int .i64 4096)) none).run Try.prog wx = .ok (.slice A1 4096 c1) wx := slP_h A1 k c1 4096 (by omega)
      have E2 : ∀ wx, (Instr.sliceAt 22 (.slice A2 k c2) none (some (.int .i64 1)) none).run Try.prog wx = .ok (.slice A2 1 c2) wx := slP_h A2 k c2 1 (by omega)
      have E3 : ∀ wx, (Instr.sliceAt 22 (.slice A1 4096 c1) none (some (.int .i64 2048)) none).run Try.prog wx = .ok (.slice A1 2048 c1) wx := slP_h A1 4096 c1 2048 (by omega)
      have E4 : ∀ wx, (Instr.sliceAt 22 (.slice A2 k c2) none (some (.int .i64 2048)) none).run Try.prog wx = .ok (.slice A2 2048 c2) wx := slP_h A2 k c2 2048 (by omega)
      have E5 : ∀ wx, (Instr.sliceAt 34 (.slice A3 k c3) none (some (.int .i64 4096)) none).run Try.prog wx = .ok (.slice A3 4096 c3) wx := slI_h A3 k c3 4096 (by omega)
      have K1 := Lib.hid (un4_any wr A1 A2 c1 c2 4096 1 (seesP_pre S1.out (by omega)) (seesP_pre S2.out (by omega)) (by omega) (by omega))
      obtain ⟨wL, eL⟩ : ∃ x, x = wr := ⟨_, rfl⟩
      have DL : Hid (Below w.heap.size w wL) := by rw [eL]; exact hD.out
      rw [← eL] at S1 S2 S3 K1 ⊢
      clear hO hD eL
      go_wp2_with fail
      refine (K1.out).mono ?_
      rintro e w2 ⟨U, hS, hl⟩
      rw [(dSE_big (by omega)).1, (dSE_big (by omega)).2] at hS
      obtain ⟨B1, rfl, -, hb⟩ := hS
      have D2 : Hid (Below wL.heap.size wL w2) := hb
      clear hb K1 hl
      go_wp2_with fail
      refine wp_region_plan [(false, 0), (false, 1), (false, 2), (false, 3), (true, 4), (false, 5), (false, 6), (false, 7), (false, 8), (false, 9)] (Below wL.heap.size wL) (by kernel_rfl) (by kernel_rfl) (D2.out.drew) _ (by simp only [pickH, List.getElem?_toArray, List.getElem?_cons_succ, List.getElem?_cons_zero]; rfl) ?_
      repeat (refine HWalk.step (fun K hK => ?_); first | (apply held_yes; (focus rfl); (focus (intro w' hw; obtain ⟨hc', hf'⟩ := below_cells hw; go_simp; rfl)); (go_simp; refine hK _ ?_; clear hK K)) | (refine ite_no (by decide) ?_; go_simp; refine hK _ ?_; clear hK K))
      refine HWalk.mark ?_
      go_wp2_with fail
      have K2 := Lib.hid (un4_any w2.drew A1 A2 c1 c2 2048 2048 ((seesP_pre S1.out (by omega)).below D2.out.drew |>.more D2.out.drew.size) ((seesP_pre S2.out (by omega)).below D2.out.drew |>.more D2.out.drew.size) (by omega) (by omega))
      refine (K2.out).mono ?_
      rintro e w3 ⟨U2, hS, hl2⟩
      rw [(dS_le (by omega)).1, (dS_le (by omega)).2] at hS
      obtain ⟨B2, rfl, -, hb⟩ := hS
      have D3 : Hid (Below wL.heap.size wL w3) := D2.out.drew.trans (hb.mono D2.out.drew.size)
      have HL2 : Hid (U2.length = 4096) := hl2
      rw [show U2.length = 4096 from hl2]
      clear hb K2 hl2 D2
      go_wp2_with fail
      refine ⟨D3.out, ?_⟩
      repeat (refine HWalk.step (fun K hK => ?_); first | (apply held_yes; (focus rfl); (focus (intro w' hw; obtain ⟨hc', hf'⟩ := below_cells hw; go_simp; rfl)); (go_simp; refine hK _ ?_; clear hK K)) | (refine ite_no (by decide) ?_; go_simp; refine hK _ ?_; clear hK K))
      refine HWalk.done ?_
      go_wp2_with fail
      have K3 := Lib.hid (of4_any w3 A3 c3 k ((S3.out.below D3.out).more D3.out.size) (by omega))
      go_wp2_with fail
      refine (K3.out).mono ?_
      rintro e w4 ⟨U3, hS, hl⟩
      rw [(dSE_big (by omega)).1, (dSE_big (by omega)).2] at hS
      obtain ⟨B3, rfl, -, hb⟩ := hS
      have D4 : Hid (Below wL.heap.size wL w4) := D3.out.trans (hb.mono D3.out.size)
      clear hb K3 hl D3
      have K4 := Lib.hid (of4_any w4 A3 c3 4096 ((Sees.below (fun h0 => by
        obtain ⟨b, o, h1, h2, h3⟩ := S3.out (by omega)
        exact ⟨b, o, h1, h2, fun j hj => h3 j (by omega)⟩) D4.out).more D4.out.size) (by omega))
      go_wp2_with fail
      refine (K4.out).mono ?_
      rintro e w5 ⟨U4, hS, hl⟩
      rw [(dS_le (by omega)).1, (dS_le (by omega)).2] at hS
      obtain ⟨B4, rfl, -, hb⟩ := hS
      have D5 : Hid (Below wL.heap.size wL w5) := D4.out.trans (hb.mono D4.out.size)
      rw [show U4.length = 4096 from hl]
      clear hb K4 hl D4
      have LB : Below w5.heap.size w5 (w5.alloc (.cells (cellsP [(0, 9), (20, 21)]).toArray 28)) := (Below.refl _ w5).alloc (Nat.le_refl _) _
      have D5' : Hid (Below wL.heap.size wL (w5.alloc (.cells (cellsP [(0, 9), (20, 21)]).toArray 28))) := D5.out.trans (LB.mono D5.out.size)
      have K5 := Lib.hid (insert_any (w5.alloc (.cells (cellsP [(0, 9), (20, 21)]).toArray 28)) (w5.heap.size + 1) (some ⟨w5.heap.size, 0, none⟩) 2 [(0, 9), (20, 21)] 5 1073741804 (litP w5 _ _) (by rw [World.size_alloc]; omega) (NF.fits (by simp [NF, NFfrom])) (by decide) ⟨by omega, by omega⟩ ⟨by omega, by omega⟩)
      clear LB D5
      go_wp2_with fail
      refine (K5.out).mono ?_
      rintro e w6 hp
      obtain ⟨R6, x6, ⟨B6, rfl, q1, hb⟩, hbad, -⟩ := hp.small (by decide) (by decide)
      obtain ⟨rfl, rfl⟩ := hbad ⟨by decide, by decide⟩
      have D6 : Hid (Below wL.heap.size wL w6) := D5'.out.trans (hb.mono D5'.out.size)
      clear hb K5 D5' q1 hbad hp
      have K6 := Lib.hid (check_any w6 wL.heap.size A1 c1 (fr4 0 k) (S1.out.below D6.out) D6.out.size (NF.fits (fr4_nf 0 (by omega) k (by omega)).1) (by rw [fr4_len]; omega))
      rw [fr4_len, show chkS (fr4 0 k) = 3 by unfold chkS; rw [fr4_len, if_pos (by omega)]] at K6
      go_wp2_with fail
      refine (K6.out).mono ?_
      rintro e w7 ⟨rfl, hb⟩
      have D7 : Hid (Below wL.heap.size wL w7) := D6.out.trans (hb.mono D6.out.size)
      clear hb K6 D6
      have SM : Hid (SeesP wL wL.heap.size A1 (fr4 0 4096)) := seesP_pre S1.out (by omega)
      have NM : Hid (NF (fr4 0 4096)) := (fr4_nf 0 (by omega) 4096 (by omega)).1
      have K7 := Lib.hid (check_any w7 wL.heap.size A1 c1 (fr4 0 4096) (SM.out.below D7.out) D7.out.size (NF.fits NM.out) (by rw [fr4_len]; omega))
      rw [fr4_len, chkS_zero.2 ⟨NM.out, by rw [fr4_len]; omega⟩] at K7
      go_wp2_with fail
      refine (K7.out).mono ?_
      rintro e w8 ⟨rfl, hb⟩
      have D8 : Hid (Below wL.heap.size wL w8) := D7.out.trans (hb.mono D7.out.size)
      clear hb K7 D7
      have L9 : Hid (Below wL.heap.size wL (w8.alloc (.cells #[] 28))) := lit_alloc D8.out D8.out.size _
      obtain ⟨A9, c9, w9, run, O9, fr, -, -⟩ := own_append2' (P := Try.prog) (w8.alloc (.cells #[] 28)) w8.heap.size Try.underlying22 infoSp rfl (by omega) Try.underlying22 (Own.lit0 w8 28 2 (spf (fr4 0 4096))) (by rw [World.size_alloc]; omega) (A2 := A1) (k := 4096) (c2 := c1) (B2 := wL.heap.size) (f := spf (fr4 0 4096)) (by have h := SM.out.below L9.out; unfold SeesP at h; rwa [fr4_len] at h) (fun _ => rfl) (by omega) (by omega)
      rw [Nat.zero_add] at run O9
      have D9 : Hid (Below wL.heap.size wL w9) := L9.out.trans (fr.below (by rw [World.size_alloc]; have := D8.out.size; omega) fun b hb => by
        have : w8.heap.size = b := by injection hb
        have := D8.out.size; omega)
      have P9 : Own w9 w8.heap.size 28 2 (fr4 0 4095 ++ [(16380, 16381)]).length c9 A9 (spf (fr4 0 4095 ++ [(16380, 16381)])) := by
        rw [← e4096, fr4_len]
        exact O9.congr fun j hj => by rw [Nat.zero_mul, if_neg (by omega), Nat.sub_zero]
      obtain ⟨g, hA, hg1, hg2, hcells, hfz⟩ := O9.at_ (by omega)
      subst hA
      have z1 := hfz 8191
      have u1 : w9.cell? ⟨g, 8191, none⟩ = some (.int .i64 16381) := by
        have := hcells 8191 (by omega)
        rw [this, Nat.zero_mul, if_neg (by omega), Nat.sub_zero, e4096, show 8191 = 4095 * 2 + 1 from rfl, spf_1, sg_app, if_neg (by rw [fr4_len]; omega), fr4_len]; rfl
      have P10 := own_last P9 16383
      rw [fr4_len] at P10
      have W10 : Hid (Own (w9.setCell ⟨g, 8191, none⟩ (.int .i64 16383)) w8.heap.size 28 2 (fr4 0 4095 ++ [(16380, 16383)]).length c9 (some ⟨g, 0, none⟩) (spf (fr4 0 4095 ++ [(16380, 16383)]))) := P10
      have D10 : Hid (Below wL.heap.size wL (w9.setCell ⟨g, 8191, none⟩ (.int .i64 16383))) := D9.out.setCell (p := ⟨g, 8191, none⟩) (by have := D8.out.size; show wL.heap.size ≤ g; omega) _
      have hle := O9.le
      have RUN := Lib.hid run
      clear run O9 P9 P10 fr hcells hfz L9 D9
      go_wp2_with (at_builtin; refine Hid.out ?_)
      refine Lib.hid (Lib.wpList_append_run _ rfl _ _ _ _ rfl _ _ rfl rfl _ _ (RUN.out _) ?_)
      have K8 := Lib.hid (insert_any (w9.setCell ⟨g, 8191, none⟩ (.int .i64 16383)) _ (some ⟨g, 0, none⟩) c9 (fr4 0 4095 ++ [(16380, 16383)]) 16381 1 W10.out.sees (Nat.le_refl _) (NF.fits wide_nf) (by rw [wide_len]; omega) ⟨by omega, by omega⟩ ⟨by omega, by omega⟩)
      rw [wide_len] at K8
      go_wp2_with fail
      refine (K8.out).mono ?_
      rintro e w11 hp
      obtain ⟨B11, rfl, hb⟩ : ∃ B11, e = .returned (.tuple #[.slice B11 0 0, .int .i64 3]) ∧ Below (w9.setCell ⟨g, 8191, none⟩ (.int .i64 16383)).heap.size (w9.setCell ⟨g, 8191, none⟩ (.int .i64 16383)) w11 := by
        have hz : rngS (fr4 0 4095 ++ [(16380, 16383)]) 16381 1 = 0 := by unfold rngS; rw [if_neg (by rw [chkS_zero.2 ⟨wide_nf, by rw [wide_len]; omega⟩]; decide), if_neg (by omega)]
        have he : endS (-1) (fr4 0 4095 ++ [(16380, 16383)]) = 16383 := by rw [endS_append]; rfl
        rcases hp with ⟨h, _⟩ | ⟨_, h, _⟩ | ⟨_, _, R, hR, hS⟩
        · exact absurd hz h
        · rw [he] at h; omega
        · have hme := hR.me
          rw [List.take_length] at hme
          have hl := wide_ins hR.nf hme
          rw [(dSE_big (by omega)).1, (dSE_big (by omega)).2] at hS
          obtain ⟨B, h1, _, h3⟩ := hS
          exact ⟨B, h1, h3⟩
      have D11 : Hid (Below wL.heap.size wL w11) := D10.out.trans (hb.mono D10.out.size)
      clear hb K8 D10 W10 hp u1 z1 RUN
      have X11 : Hid (PS w11 (w11.alloc (.cells (cellsP [(0, 1073741824)]).toArray 28)) [(some ⟨w11.heap.size, 0, none⟩, [(0, 1073741824)])]) := ((PS.start (Below.refl _ w11)).alloc _).add (by have := litP w11 [(0, 1073741824)] 28; rw [World.size_alloc]; exact this)
      have X13 : Hid (PS w11 ((w11.alloc (.cells (cellsP [(0, 1073741824)]).toArray 28)).alloc (.cells (cellsP [(1, 1073741823)]).toArray 28)) [(some ⟨w11.heap.size + 1, 0, none⟩, [(1, 1073741823)]), (some ⟨w11.heap.size, 0, none⟩, [(0, 1073741824)])]) := (X11.out.alloc _).add (by have := litP (w11.alloc (.cells (cellsP [(0, 1073741824)]).toArray 28)) [(1, 1073741823)] 28; rw [World.size_alloc] at this; rw [World.size_alloc, World.size_alloc]; exact this)
      have K9 := Lib.hid (without_any ((w11.alloc (.cells (cellsP [(0, 1073741824)]).toArray 28)).alloc (.cells (cellsP [(1, 1073741823)]).toArray 28)) (some ⟨w11.heap.size, 0, none⟩) (some ⟨w11.heap.size + 1, 0, none⟩) 1 1 _ _ [(0, 1073741824)] [(1, 1073741823)] (X13.out.see (.tail _ (.head _))) (X13.out.see (.head _)) (Nat.le_refl _) (Nat.le_refl _) (NF.fits (by simp [NF, NFfrom])) (NF.fits (by simp [NF, NFfrom])) (by decide) (by decide))
      clear X11
      go_wp2_with fail
      refine (K9.out).mono ?_
      rintro e w14 hp
      obtain ⟨B14, rfl, q1, hb⟩ := hp.eq (by decide) (by decide) (C := [(0, 1), (1073741823, 1073741824)]) (by simp [NF, NFfrom]) (by decide) (fun i => by rw [Bool.eq_iff_iff]; simp [anyS]; omega)
      have X14 := Lib.hid ((X13.out.below hb).add q1)
      clear hb q1 K9 X13 hp
      have K10 := Lib.hid (remove_any w14 _ (some ⟨w11.heap.size, 0, none⟩) 1 [(0, 1073741824)] 0 1073741823 (X14.out.see (.tail _ (.tail _ (.head _)))) (Nat.le_refl _) (NF.fits (by simp [NF, NFfrom])) (by decide) ⟨by omega, by omega⟩ ⟨by omega, by omega⟩)
      go_wp2_with fail
      refine (K10.out).mono ?_
      rintro e w15 hp
      obtain ⟨B15, rfl, q1, hb⟩ := hp.eq (by decide) (C := [(0, 1)]) (by simp [NF, NFfrom]) (by decide) (fun i => by simp [memS_cons, memS_nil]; omega)
      have X15 := Lib.hid ((X14.out.below hb).add q1)
      clear hb q1 K10 X14 hp
      have K11 := Lib.hid (insert_any w15 _ (some ⟨w11.heap.size, 0, none⟩) 1 [(0, 1073741824)] 1073741824 1073741824 (X15.out.see (.tail _ (.tail _ (.tail _ (.head _))))) (Nat.le_refl _) (NF.fits (by simp [NF, NFfrom])) (by decide) ⟨by omega, by omega⟩ ⟨by omega, by omega⟩)
      go_wp2_with fail
      refine (K11.out).mono ?_
      rintro e w16 hp
      obtain ⟨B16, rfl, q1, hb⟩ := hp.eq (by decide) (by decide) (C := [(0, 1073741824)]) (by simp [NF, NFfrom]) (by decide) (fun i => by simp [memS_cons, memS_nil]; omega)
      have X16 := Lib.hid ((X15.out.below hb).add q1)
      clear hb q1 K11 X15 hp
      have K12 := Lib.hid (same_lit w16 B14 [(0, 1), (1073741823, 1073741824)] 0 (X16.out.see (.tail _ (.tail _ (.head _)))) (by decide))
      go_wp2_with fail
      refine (K12.out).mono ?_
      rintro e w17 ⟨rfl, hb⟩
      have X17 := Lib.hid (X16.out.below hb)
      clear hb K12 X16
      have K13 := Lib.hid (same_lit w17 B15 [(0, 1)] 0 (X17.out.see (.tail _ (.head _))) (by decide))
      go_wp2_with fail
      refine (K13.out).mono ?_
      rintro e w18 ⟨rfl, hb⟩
      have X18 := Lib.hid (X17.out.below hb)
      clear hb K13 X17
      go_wp2_with fail
      refine (lives_yes w18).mono ?_
      rintro e w19 ⟨rfl, hb⟩
      have X19 := Lib.hid (X18.out.below hb)
      clear hb X18
      go_wp2_with fail
      go_ret
      exact ⟨rfl, DL.out.trans ((D11.out.trans (X19.out.bl.mono D11.out.size)).mono DL.out.size)⟩
end Go.Proofs.Ytglgkbocmnkokaa

/- The great law on dilution, walked. -/
import Derived.Test.YtbcgcpdnmpejlaaCFPlain2
import Derived.Test.YtbcgcpdnmpejlaaCDraw4
import Derived.Test.YtbcgcpdnmpejlaaCAdd
import Derived.Test.YtbcgcpdnmpejlaaCCmp
import Derived.Test.YtbcgcpdnmpejlaaCRest
import Derived.Test.YtbcgcpdnmpejlaaCMix
import Derived.Test.YtbcgcpdnmpejlaaCRinse
import Derived.Test.YtbcgcpdnmpejlaaCRinseS
namespace Go.Proofs.Ytbcgcpdnmpejlaa
open Go.RowKit

theorem rBigD_c (A : Option Addr) (n c : Nat) (w : World) : Calls Try.prog 34 #[.slice A n c] w fun e w' => e = .returned (.bool (decide ((65536 : Int) < n))) ∧ w = w' := by
  go_enter Try.func34, Try.ntmps34
  go_wp2
  go_ret
  exact ⟨by simp, rfl⟩
theorem rinse_b (V N D v m : Int) : 0 ≤ (rinse V N D v m).1 ∧ (rinse V N D v m).1 ≤ 5 := by
  unfold rinse
  split
  · have := rinC_b v m 5 0 V N D (by omega)
    omega
  · exact ⟨by omega, by omega⟩
theorem sgn3_b (x y : Int) : 0 ≤ sgn3 x y ∧ sgn3 x y ≤ 2 := by
  unfold sgn3
  split
  · omega
  · split <;> omega
theorem cmpC_b (V N D V' N' D' : Int) : 0 ≤ (cmpC V N D V' N' D').1 ∧ (cmpC V N D V' N' D').1 ≤ 2 := by
  unfold cmpC
  split
  · exact sgn3_b _ _
  · exact ⟨by omega, by omega⟩
set_option maxRecDepth 100000 in
set_option maxHeartbeats 4000000 in
theorem dilution_law (A : Option Addr) (n c : Nat) (w : World) (h : RdB w w.heap.size A n) : Calls Try.prog 13 #[.slice A n c] w fun e w' => e = .returned (.bool true) ∧ Below w.heap.size w w' := by
  by_cases hn : (65536 : Int) < (n : Int)
  · have hd : decide ((65536 : Int) < n) = true := by simp; omega
    go_enter Try.func13, Try.ntmps13
    go_wp2_with (go_at_call 34; refine (rBigD_c _ _ _ _).mono ?_; rintro e w' ⟨rfl, rfl⟩)
    (go_returns; exact ⟨by first | rfl | (simp; done) | (simp; omega), by (repeat' (first | (with_reducible exact Below.refl _ _) | (with_reducible assumption) | (with_reducible refine below_drewN ?_ _) | (with_reducible refine Below.alloc ?_ ?_ _) | (with_reducible refine Below.drew ?_) | (with_reducible refine Below.setCell ?_ ?_ _) | go_size))⟩)
  have hd : decide ((65536 : Int) < n) = false := by simp; omega
  go_enter Try.func13, Try.ntmps13
  go_wp2_with fail
  refine (rBigD_c _ _ _ _).mono ?_
  rintro e w' ⟨rfl, rfl⟩
  go_wp2_with fail
  refine (drawDil_c A n c _ h).mono ?_
  rintro e w1 ⟨V, N, D, m, hmb, rfl, hb1⟩
  have hz1 := hb1.size; (repeat (first | rw [World.size_alloc] at hz1 | rw [World.size_drew] at hz1 | rw [World.heap_drewN] at hz1 | rw [World.size_setCell] at hz1)); have hB : Below w.heap.size w w1 := Below.trans (by (repeat' (first | (with_reducible exact Below.refl _ _) | (with_reducible assumption) | (with_reducible refine below_drewN ?_ _) | (with_reducible refine Below.alloc ?_ ?_ _) | (with_reducible refine Below.drew ?_) | (with_reducible refine Below.setCell ?_ ?_ _) | go_size))) (hb1.mono (by go_size)); have hL1 := hb1; clear hb1; obtain ⟨hc1, hf1⟩ := bcell hL1
  go_wp2_with fail; (go_at_call 18; refine (implDil_c V N D m _).mono ?_; rintro e w2 ⟨rfl, hb2⟩; have hz2 := hb2.size; (repeat (first | rw [World.size_alloc] at hz2 | rw [World.size_drew] at hz2 | rw [World.heap_drewN] at hz2 | rw [World.size_setCell] at hz2)); replace hB : Below w.heap.size w w2 := Below.trans (by (repeat' (first | (with_reducible exact Below.refl _ _) | (with_reducible assumption) | (with_reducible refine below_drewN ?_ _) | (with_reducible refine Below.alloc ?_ ?_ _) | (with_reducible refine Below.drew ?_) | (with_reducible refine Below.setCell ?_ ?_ _) | go_size))) (hb2.mono (by go_size)); (first | (refine extend_then hL1 hb2 ?_ ?_ (fun hq => ?_); (focus ((repeat' (first | (with_reducible exact Below.refl _ _) | (with_reducible assumption) | (with_reducible refine below_drewN ?_ _) | (with_reducible refine Below.alloc ?_ ?_ _) | (with_reducible refine Below.drew ?_) | (with_reducible refine Below.setCell ?_ ?_ _) | go_size)); done)); (focus (go_size; done)); replace hL1 := hq; clear hq hc1 hf1; obtain ⟨hc1, hf1⟩ := bcell hL1) | (clear hL1 hc1 hf1) | skip); have hL2 := hb2; clear hb2; obtain ⟨hc2, hf2⟩ := bcell hL2)
  go_wp2_with fail; (go_at_call 17; refine (specDil_c V N D m _).mono ?_; rintro e w3 ⟨rfl, hb3⟩; have hz3 := hb3.size; (repeat (first | rw [World.size_alloc] at hz3 | rw [World.size_drew] at hz3 | rw [World.heap_drewN] at hz3 | rw [World.size_setCell] at hz3)); replace hB : Below w.heap.size w w3 := Below.trans (by (repeat' (first | (with_reducible exact Below.refl _ _) | (with_reducible assumption) | (with_reducible refine below_drewN ?_ _) | (with_reducible refine Below.alloc ?_ ?_ _) | (with_reducible refine Below.drew ?_) | (with_reducible refine Below.setCell ?_ ?_ _) | go_size))) (hb3.mono (by go_size)); (first | (refine extend_then hL1 hb3 ?_ ?_ (fun hq => ?_); (focus ((repeat' (first | (with_reducible exact Below.refl _ _) | (with_reducible assumption) | (with_reducible refine below_drewN ?_ _) | (with_reducible refine Below.alloc ?_ ?_ _) | (with_reducible refine Below.drew ?_) | (with_reducible refine Below.setCell ?_ ?_ _) | go_size)); done)); (focus (go_size; done)); replace hL1 := hq; clear hq hc1 hf1; obtain ⟨hc1, hf1⟩ := bcell hL1) | (clear hL1 hc1 hf1) | skip); (first | (refine extend_then hL2 hb3 ?_ ?_ (fun hq => ?_); (focus ((repeat' (first | (with_reducible exact Below.refl _ _) | (with_reducible assumption) | (with_reducible refine below_drewN ?_ _) | (with_reducible refine Below.alloc ?_ ?_ _) | (with_reducible refine Below.drew ?_) | (with_reducible refine Below.setCell ?_ ?_ _) | go_size)); done)); (focus (go_size; done)); replace hL2 := hq; clear hq hc2 hf2; obtain ⟨hc2, hf2⟩ := bcell hL2) | (clear hL2 hc2 hf2) | skip); have hL3 := hb3; clear hb3; obtain ⟨hc3, hf3⟩ := bcell hL3)
  go_upto_region 8 with (fail)
  have F1 := dil_least (V := V) (N := N) (D := D) (m := m)
  generalize dilC V N D m = K at *
  obtain ⟨k1, ok⟩ := K
  dsimp only at F1
  go_cut [99] (fun s wx => s = .bool false ∧ Below w.heap.size w wx)
  case first => as_aux_lemma =>
    cases ok
    · go_wp2_with fail
      go_meet
      exact ⟨rfl, by (repeat' (first | (with_reducible exact Below.refl _ _) | (with_reducible assumption) | (with_reducible refine below_drewN ?_ _) | (with_reducible refine Below.alloc ?_ ?_ _) | (with_reducible refine Below.drew ?_) | (with_reducible refine Below.setCell ?_ ?_ _) | go_size))⟩
    · obtain ⟨q1, q2, q3, q4, q5, q6, q7, q8, q9, q10, q11, q12, q13, q14⟩ := F1 rfl
      have m1 := mulB (by omega : 0 ≤ m * D) q14 (by omega : 0 ≤ V + k1) (by omega : V + k1 ≤ 10101)
      have wr1 : IntKind.i64.wrap (m * D) = m * D := IntWalk.i64_in _ (by omega)
      have wr2 : IntKind.i64.wrap (V + k1) = V + k1 := IntWalk.i64_in _ (by omega)
      have wr3 : IntKind.i64.wrap (m * D * (V + k1)) = m * D * (V + k1) := IntWalk.i64_in _ (by omega)
      have gt1 : decide (m * D * (V + k1) < N) = false := by simp; omega
      by_cases hp : 0 < k1
      · have m2 := mulB (by omega : 0 ≤ m * D) q14 (by omega : 0 ≤ V + k1 - 1) (by omega : V + k1 - 1 ≤ 10101)
        have q := q4 hp
        have wr4 : IntKind.i64.wrap (V + k1 - 1) = V + k1 - 1 := IntWalk.i64_in _ (by omega)
        have wr5 : IntKind.i64.wrap (m * D * (V + k1 - 1)) = m * D * (V + k1 - 1) := IntWalk.i64_in _ (by omega)
        have gt2 : decide (N ≤ m * D * (V + k1 - 1)) = false := by simp; omega
        have gt3 : decide (0 < k1) = true := by simp [hp]
        clear F1 q1 q2 q3 q4 q5 q6 q7 q8 q9 q10 q11 q12 q13 q14 m1 m2 q hp hmb
        go_wp2_with fail
        go_meet
        exact ⟨by first | rfl | (simp; done) | simp [*], by (repeat' (first | (with_reducible exact Below.refl _ _) | (with_reducible assumption) | (with_reducible refine below_drewN ?_ _) | (with_reducible refine Below.alloc ?_ ?_ _) | (with_reducible refine Below.drew ?_) | (with_reducible refine Below.setCell ?_ ?_ _) | go_size))⟩
      · have gt3 : decide (0 < k1) = false := by simp; omega
        clear F1 q1 q2 q3 q4 q5 q6 q7 q8 q9 q10 q11 q12 q13 q14 m1 hp hmb
        go_wp2_with fail
        go_meet
        exact ⟨by first | rfl | (simp; done) | simp [*], by (repeat' (first | (with_reducible exact Below.refl _ _) | (with_reducible assumption) | (with_reducible refine below_drewN ?_ _) | (with_reducible refine Below.alloc ?_ ?_ _) | (with_reducible refine Below.drew ?_) | (with_reducible refine Below.setCell ?_ ?_ _) | go_size))⟩
  case rest => as_aux_lemma =>
    obtain ⟨rfl, hcB⟩ := hcut
    have hzc := hcB.size
    clear F1 hB hL1 hc1 hf1 hL2 hc2 hf2 hL3 hc3 hf3 hz1 hz2 hz3 hmb
    go_wp2_with fail
    refine (drawMix_c A n c _ ((h.below hcB).more hzc)).mono ?_
    rintro e w1 ⟨x, y, t, bx, by', bt, rfl, hb1⟩
    have hz1 := hb1.size; (repeat (first | rw [World.size_alloc] at hz1 | rw [World.size_drew] at hz1 | rw [World.heap_drewN] at hz1 | rw [World.size_setCell] at hz1)); have hB : Below w.heap.size w w1 := Below.trans (by (repeat' (first | (with_reducible exact Below.refl _ _) | (with_reducible assumption) | (with_reducible refine below_drewN ?_ _) | (with_reducible refine Below.alloc ?_ ?_ _) | (with_reducible refine Below.drew ?_) | (with_reducible refine Below.setCell ?_ ?_ _) | go_size))) (hb1.mono (by go_size)); have hL1 := hb1; clear hb1; obtain ⟨hc1, hf1⟩ := bcell hL1
    go_wp2_with fail; (go_at_call 20; refine (implMix_c x y t _).mono ?_; rintro e w2 ⟨rfl, hb2⟩; have hz2 := hb2.size; (repeat (first | rw [World.size_alloc] at hz2 | rw [World.size_drew] at hz2 | rw [World.heap_drewN] at hz2 | rw [World.size_setCell] at hz2)); replace hB : Below w.heap.size w w2 := Below.trans (by (repeat' (first | (with_reducible exact Below.refl _ _) | (with_reducible assumption) | (with_reducible refine below_drewN ?_ _) | (with_reducible refine Below.alloc ?_ ?_ _) | (with_reducible refine Below.drew ?_) | (with_reducible refine Below.setCell ?_ ?_ _) | go_size))) (hb2.mono (by go_size)); (first | (refine extend_then hL1 hb2 ?_ ?_ (fun hq => ?_); (focus ((repeat' (first | (with_reducible exact Below.refl _ _) | (with_reducible assumption) | (with_reducible refine below_drewN ?_ _) | (with_reducible refine Below.alloc ?_ ?_ _) | (with_reducible refine Below.drew ?_) | (with_reducible refine Below.setCell ?_ ?_ _) | go_size)); done)); (focus (go_size; done)); replace hL1 := hq; clear hq hc1 hf1; obtain ⟨hc1, hf1⟩ := bcell hL1) | (clear hL1 hc1 hf1) | skip); have hL2 := hb2; clear hb2; obtain ⟨hc2, hf2⟩ := bcell hL2)
    go_wp2_with fail; (go_at_call 19; refine (specMix_c x y t _).mono ?_; rintro e w3 ⟨rfl, hb3⟩; have hz3 := hb3.size; (repeat (first | rw [World.size_alloc] at hz3 | rw [World.size_drew] at hz3 | rw [World.heap_drewN] at hz3 | rw [World.size_setCell] at hz3)); replace hB : Below w.heap.size w w3 := Below.trans (by (repeat' (first | (with_reducible exact Below.refl _ _) | (with_reducible assumption) | (with_reducible refine below_drewN ?_ _) | (with_reducible refine Below.alloc ?_ ?_ _) | (with_reducible refine Below.drew ?_) | (with_reducible refine Below.setCell ?_ ?_ _) | go_size))) (hb3.mono (by go_size)); (first | (refine extend_then hL1 hb3 ?_ ?_ (fun hq => ?_); (focus ((repeat' (first | (with_reducible exact Below.refl _ _) | (with_reducible assumption) | (with_reducible refine below_drewN ?_ _) | (with_reducible refine Below.alloc ?_ ?_ _) | (with_reducible refine Below.drew ?_) | (with_reducible refine Below.setCell ?_ ?_ _) | go_size)); done)); (focus (go_size; done)); replace hL1 := hq; clear hq hc1 hf1; obtain ⟨hc1, hf1⟩ := bcell hL1) | (clear hL1 hc1 hf1) | skip); (first | (refine extend_then hL2 hb3 ?_ ?_ (fun hq => ?_); (focus ((repeat' (first | (with_reducible exact Below.refl _ _) | (with_reducible assumption) | (with_reducible refine below_drewN ?_ _) | (with_reducible refine Below.alloc ?_ ?_ _) | (with_reducible refine Below.drew ?_) | (with_reducible refine Below.setCell ?_ ?_ _) | go_size)); done)); (focus (go_size; done)); replace hL2 := hq; clear hq hc2 hf2; obtain ⟨hc2, hf2⟩ := bcell hL2) | (clear hL2 hc2 hf2) | skip); have hL3 := hb3; clear hb3; obtain ⟨hc3, hf3⟩ := bcell hL3)
    go_upto_region 15 with (fail)
    have F1 := mix_eq (a := x) (b := y) (t := t)
    generalize mixC x y t = K at *
    obtain ⟨k1, k2, ok⟩ := K
    dsimp only at F1
    go_cut [164] (fun s wx => s = .bool false ∧ Below w.heap.size w wx)
    case first => as_aux_lemma =>
      cases ok
      · go_wp2_with fail
        go_meet
        exact ⟨rfl, by (repeat' (first | (with_reducible exact Below.refl _ _) | (with_reducible assumption) | (with_reducible refine below_drewN ?_ _) | (with_reducible refine Below.alloc ?_ ?_ _) | (with_reducible refine Below.drew ?_) | (with_reducible refine Below.setCell ?_ ?_ _) | go_size))⟩
      · obtain ⟨q1, q2, q3, q4, q5, q6, q7, q8, q9, q10, q11, q12⟩ := F1 rfl
        have m1 := mulB q7 q8 q1 q2
        have m2 := mulB q9 q10 q3 q4
        have m3 := mulB q11 q12 (by omega : 0 ≤ k1 + k2) (by omega : k1 + k2 ≤ 20000)
        have wr1 : IntKind.i64.wrap (x * k1) = x * k1 := IntWalk.i64_in _ (by omega)
        have wr2 : IntKind.i64.wrap (y * k2) = y * k2 := IntWalk.i64_in _ (by omega)
        have wr3 : IntKind.i64.wrap (x * k1 + y * k2) = t * (k1 + k2) := by rw [q6]; exact IntWalk.i64_in _ (by omega)
        have wr4 : IntKind.i64.wrap (k1 + k2) = k1 + k2 := IntWalk.i64_in _ (by omega)
        have wr5 : IntKind.i64.wrap (t * (k1 + k2)) = t * (k1 + k2) := IntWalk.i64_in _ (by omega)
        have gt1 : decide (k1 < 0) = false := by simp; omega
        have gt2 : decide (k2 < 0) = false := by simp; omega
        have gt3 : (k1 + k2 == 0) = false := by simpa using q5
        clear F1 q1 q2 q3 q4 q5 q6 q7 q8 q9 q10 q11 q12 m1 m2 m3 bx by' bt
        go_wp2_with fail
        go_meet
        exact ⟨by first | rfl | (simp; done) | simp [*], by (repeat' (first | (with_reducible exact Below.refl _ _) | (with_reducible assumption) | (with_reducible refine below_drewN ?_ _) | (with_reducible refine Below.alloc ?_ ?_ _) | (with_reducible refine Below.drew ?_) | (with_reducible refine Below.setCell ?_ ?_ _) | go_size))⟩
    case rest => as_aux_lemma =>
      clear hcB hzc
      obtain ⟨rfl, hcB⟩ := hcut
      have hzc := hcB.size
      clear F1 hB hL1 hc1 hf1 hL2 hc2 hf2 hL3 hc3 hf3 hz1 hz2 hz3 bx by' bt
      go_wp2_with fail
      refine (drawRin_c A n c _ ((h.below hcB).more hzc)).mono ?_
      rintro e w1 ⟨V, N, D, v, m, hvb, hmb, rfl, hb1⟩
      have hz1 := hb1.size; (repeat (first | rw [World.size_alloc] at hz1 | rw [World.size_drew] at hz1 | rw [World.heap_drewN] at hz1 | rw [World.size_setCell] at hz1)); have hB : Below w.heap.size w w1 := Below.trans (by (repeat' (first | (with_reducible exact Below.refl _ _) | (with_reducible assumption) | (with_reducible refine below_drewN ?_ _) | (with_reducible refine Below.alloc ?_ ?_ _) | (with_reducible refine Below.drew ?_) | (with_reducible refine Below.setCell ?_ ?_ _) | go_size))) (hb1.mono (by go_size)); have hL1 := hb1; clear hb1; obtain ⟨hc1, hf1⟩ := bcell hL1
      go_wp2_with fail; (go_at_call 33; refine (implRinse_c V N D v m _ (by omega) (by omega)).mono ?_; rintro e w2 ⟨rfl, hb2⟩; have hz2 := hb2.size; (repeat (first | rw [World.size_alloc] at hz2 | rw [World.size_drew] at hz2 | rw [World.heap_drewN] at hz2 | rw [World.size_setCell] at hz2)); replace hB : Below w.heap.size w w2 := Below.trans (by (repeat' (first | (with_reducible exact Below.refl _ _) | (with_reducible assumption) | (with_reducible refine below_drewN ?_ _) | (with_reducible refine Below.alloc ?_ ?_ _) | (with_reducible refine Below.drew ?_) | (with_reducible refine Below.setCell ?_ ?_ _) | go_size))) (hb2.mono (by go_size)); (first | (refine extend_then hL1 hb2 ?_ ?_ (fun hq => ?_); (focus ((repeat' (first | (with_reducible exact Below.refl _ _) | (with_reducible assumption) | (with_reducible refine below_drewN ?_ _) | (with_reducible refine Below.alloc ?_ ?_ _) | (with_reducible refine Below.drew ?_) | (with_reducible refine Below.setCell ?_ ?_ _) | go_size)); done)); (focus (go_size; done)); replace hL1 := hq; clear hq hc1 hf1; obtain ⟨hc1, hf1⟩ := bcell hL1) | (clear hL1 hc1 hf1) | skip); have hL2 := hb2; clear hb2; obtain ⟨hc2, hf2⟩ := bcell hL2)
      go_wp2_with fail; (go_at_call 32; refine (specRinse_c V N D v m _ (by omega) (by omega)).mono ?_; rintro e w3 ⟨rfl, hb3⟩; have hz3 := hb3.size; (repeat (first | rw [World.size_alloc] at hz3 | rw [World.size_drew] at hz3 | rw [World.heap_drewN] at hz3 | rw [World.size_setCell] at hz3)); replace hB : Below w.heap.size w w3 := Below.trans (by (repeat' (first | (with_reducible exact Below.refl _ _) | (with_reducible assumption) | (with_reducible refine below_drewN ?_ _) | (with_reducible refine Below.alloc ?_ ?_ _) | (with_reducible refine Below.drew ?_) | (with_reducible refine Below.setCell ?_ ?_ _) | go_size))) (hb3.mono (by go_size)); (first | (refine extend_then hL1 hb3 ?_ ?_ (fun hq => ?_); (focus ((repeat' (first | (with_reducible exact Below.refl _ _) | (with_reducible assumption) | (with_reducible refine below_drewN ?_ _) | (with_reducible refine Below.alloc ?_ ?_ _) | (with_reducible refine Below.drew ?_) | (with_reducible refine Below.setCell ?_ ?_ _) | go_size)); done)); (focus (go_size; done)); replace hL1 := hq; clear hq hc1 hf1; obtain ⟨hc1, hf1⟩ := bcell hL1) | (clear hL1 hc1 hf1) | skip); (first | (refine extend_then hL2 hb3 ?_ ?_ (fun hq => ?_); (focus ((repeat' (first | (with_reducible exact Below.refl _ _) | (with_reducible assumption) | (with_reducible refine below_drewN ?_ _) | (with_reducible refine Below.alloc ?_ ?_ _) | (with_reducible refine Below.drew ?_) | (with_reducible refine Below.setCell ?_ ?_ _) | go_size)); done)); (focus (go_size; done)); replace hL2 := hq; clear hq hc2 hf2; obtain ⟨hc2, hf2⟩ := bcell hL2) | (clear hL2 hc2 hf2) | skip); have hL3 := hb3; clear hb3; obtain ⟨hc3, hf3⟩ := bcell hL3)
      go_upto_region 22 with (fail)
      have F1 := rinse_less (V := V) (N := N) (D := D) (v := v) (m := m)
      have F2 := rinse_b V N D v m
      generalize rinse V N D v m = K at F1 F2 ⊢
      obtain ⟨k1, ok⟩ := K
      dsimp only at F1 F2
      go_cut [197] (fun s wx => s = .bool (ok && decide (k1 > 0)) ∧ Below w.heap.size w wx ∧ (wx.cell? ⟨w1.heap.size, 0, none⟩ = some (.int .i64 (V)) ∧ wx.cell? ⟨w1.heap.size, 1, none⟩ = some (.int .i64 (N)) ∧ wx.cell? ⟨w1.heap.size, 2, none⟩ = some (.int .i64 (D))))
      case first => as_aux_lemma =>
        cases ok
        · go_wp2_with fail
          go_meet
          exact ⟨rfl, by (repeat' (first | (with_reducible exact Below.refl _ _) | (with_reducible assumption) | (with_reducible refine below_drewN ?_ _) | (with_reducible refine Below.alloc ?_ ?_ _) | (with_reducible refine Below.drew ?_) | (with_reducible refine Below.setCell ?_ ?_ _) | go_size)), by (exact ⟨by simp (maxDischargeDepth := 6) [*, go_sem], by simp (maxDischargeDepth := 6) [*, go_sem], by simp (maxDischargeDepth := 6) [*, go_sem]⟩)⟩
        · go_wp2_with fail
          go_meet
          exact ⟨by first | rfl | (simp; done) | simp [*], by (repeat' (first | (with_reducible exact Below.refl _ _) | (with_reducible assumption) | (with_reducible refine below_drewN ?_ _) | (with_reducible refine Below.alloc ?_ ?_ _) | (with_reducible refine Below.drew ?_) | (with_reducible refine Below.setCell ?_ ?_ _) | go_size)), by (exact ⟨by simp (maxDischargeDepth := 6) [*, go_sem], by simp (maxDischargeDepth := 6) [*, go_sem], by simp (maxDischargeDepth := 6) [*, go_sem]⟩)⟩
      case rest => as_aux_lemma =>
        clear hcB hzc
        obtain ⟨rfl, hcB, ⟨a0, a1, a2⟩⟩ := hcut
        have hzc := hcB.size
        clear hB hL1 hc1 hf1 hL2 hc2 hf2 hL3 hc3 hf3 hz1 hz2 hz3 hmb
        go_upto_if 197 with (fail)
        go_cut [197] (fun _ wx => Below w.heap.size w wx)
        case first => as_aux_lemma =>
          by_cases k : ok = true ∧ k1 > 0
          · obtain ⟨rfl, hp⟩ := k
            obtain ⟨e1, e2, e3⟩ := F1 rfl hp
            have kb : (true && decide (k1 > 0)) = true := by simp [hp]
            rw [kb]
            have wr1 : IntKind.i64.wrap (k1 - 1) = k1 - 1 := IntWalk.i64_in _ (by omega)
            have i1 := implTake_c V N D v
            have i2 := implAdd_c (takeC V N D v).1 (takeC V N D v).2.1 (takeC V N D v).2.2.1 v 0
            have i3 := implRinse_c (addC (takeC V N D v).1 (takeC V N D v).2.1 (takeC V N D v).2.2.1 v 0).1 (addC (takeC V N D v).1 (takeC V N D v).2.1 (takeC V N D v).2.2.1 v 0).2.1 (addC (takeC V N D v).1 (takeC V N D v).2.1 (takeC V N D v).2.2.1 v 0).2.2.1 v m
            rw [e3] at i3
            generalize addC (takeC V N D v).1 (takeC V N D v).2.1 (takeC V N D v).2.2.1 v 0 = K2 at i2 i3 e2
            generalize takeC V N D v = K1 at i1 i2 e1
            obtain ⟨t1, t2, t3, tk⟩ := K1
            obtain ⟨s1, s2, s3, sk⟩ := K2
            dsimp only at i1 i2 i3 e1 e2
            subst e1 e2
            have I1 := Lib.hid i1
            have I2 := Lib.hid i2
            have I3 := Lib.hid i3
            clear kb F1 F2 hp e3 i1 i2 i3
            go_wp2_with fail; (go_at_call 27; refine (I1.out _ (by omega) (by omega)).mono ?_; rintro e w1 ⟨rfl, hb1⟩; have hz1 := hb1.size; (repeat (first | rw [World.size_alloc] at hz1 | rw [World.size_drew] at hz1 | rw [World.heap_drewN] at hz1 | rw [World.size_setCell] at hz1)); have hB : Below w.heap.size w w1 := Below.trans (by (repeat' (first | (with_reducible exact Below.refl _ _) | (with_reducible assumption) | (with_reducible refine below_drewN ?_ _) | (with_reducible refine Below.alloc ?_ ?_ _) | (with_reducible refine Below.drew ?_) | (with_reducible refine Below.setCell ?_ ?_ _) | go_size))) (hb1.mono (by go_size)); have hL1 := hb1; clear hb1; obtain ⟨hc1, hf1⟩ := bcell hL1)
            go_wp2_with fail; (go_at_call 29; refine (I2.out _).mono ?_; rintro e w2 ⟨rfl, hb2⟩; have hz2 := hb2.size; (repeat (first | rw [World.size_alloc] at hz2 | rw [World.size_drew] at hz2 | rw [World.heap_drewN] at hz2 | rw [World.size_setCell] at hz2)); replace hB : Below w.heap.size w w2 := Below.trans (by (repeat' (first | (with_reducible exact Below.refl _ _) | (with_reducible assumption) | (with_reducible refine below_drewN ?_ _) | (with_reducible refine Below.alloc ?_ ?_ _) | (with_reducible refine Below.drew ?_) | (with_reducible refine Below.setCell ?_ ?_ _) | go_size))) (hb2.mono (by go_size)); (first | (refine extend_then hL1 hb2 ?_ ?_ (fun hq => ?_); (focus ((repeat' (first | (with_reducible exact Below.refl _ _) | (with_reducible assumption) | (with_reducible refine below_drewN ?_ _) | (with_reducible refine Below.alloc ?_ ?_ _) | (with_reducible refine Below.drew ?_) | (with_reducible refine Below.setCell ?_ ?_ _) | go_size)); done)); (focus (go_size; done)); replace hL1 := hq; clear hq hc1 hf1; obtain ⟨hc1, hf1⟩ := bcell hL1) | (clear hL1 hc1 hf1) | skip); have hL2 := hb2; clear hb2; obtain ⟨hc2, hf2⟩ := bcell hL2)
            go_wp2_with fail; (go_at_call 33; refine (I3.out _ (by omega) (by omega)).mono ?_; rintro e w3 ⟨rfl, hb3⟩; have hz3 := hb3.size; (repeat (first | rw [World.size_alloc] at hz3 | rw [World.size_drew] at hz3 | rw [World.heap_drewN] at hz3 | rw [World.size_setCell] at hz3)); replace hB : Below w.heap.size w w3 := Below.trans (by (repeat' (first | (with_reducible exact Below.refl _ _) | (with_reducible assumption) | (with_reducible refine below_drewN ?_ _) | (with_reducible refine Below.alloc ?_ ?_ _) | (with_reducible refine Below.drew ?_) | (with_reducible refine Below.setCell ?_ ?_ _) | go_size))) (hb3.mono (by go_size)); (first | (refine extend_then hL1 hb3 ?_ ?_ (fun hq => ?_); (focus ((repeat' (first | (with_reducible exact Below.refl _ _) | (with_reducible assumption) | (with_reducible refine below_drewN ?_ _) | (with_reducible refine Below.alloc ?_ ?_ _) | (with_reducible refine Below.drew ?_) | (with_reducible refine Below.setCell ?_ ?_ _) | go_size)); done)); (focus (go_size; done)); replace hL1 := hq; clear hq hc1 hf1; obtain ⟨hc1, hf1⟩ := bcell hL1) | (clear hL1 hc1 hf1) | skip); (first | (refine extend_then hL2 hb3 ?_ ?_ (fun hq => ?_); (focus ((repeat' (first | (with_reducible exact Below.refl _ _) | (with_reducible assumption) | (with_reducible refine below_drewN ?_ _) | (with_reducible refine Below.alloc ?_ ?_ _) | (with_reducible refine Below.drew ?_) | (with_reducible refine Below.setCell ?_ ?_ _) | go_size)); done)); (focus (go_size; done)); replace hL2 := hq; clear hq hc2 hf2; obtain ⟨hc2, hf2⟩ := bcell hL2) | (clear hL2 hc2 hf2) | skip); have hL3 := hb3; clear hb3; obtain ⟨hc3, hf3⟩ := bcell hL3)
            go_wp2_with fail
            go_meet
            (repeat' (first | (with_reducible exact Below.refl _ _) | (with_reducible assumption) | (with_reducible refine below_drewN ?_ _) | (with_reducible refine Below.alloc ?_ ?_ _) | (with_reducible refine Below.drew ?_) | (with_reducible refine Below.setCell ?_ ?_ _) | go_size))
          · have kb : (ok && decide (k1 > 0)) = false := by
              cases ok
              · rfl
              · have : ¬ k1 > 0 := fun q => k ⟨rfl, q⟩
                simp [this]
            rw [kb]
            clear k kb F1 F2
            go_wp2_with fail
            go_meet
            exact hcB
        case rest => as_aux_lemma =>
          clear F1 F2 a0 a1 a2 hcB hzc hvb
          have hcB := hcut
          have hzc := hcB.size
          clear hcut
          go_wp2_with fail
          refine (drawCmp_c A n c _ ((h.below hcB).more hzc)).mono ?_
          rintro e w1 ⟨V, N, D, V', N', D', rfl, hb1⟩
          have hz1 := hb1.size; (repeat (first | rw [World.size_alloc] at hz1 | rw [World.size_drew] at hz1 | rw [World.heap_drewN] at hz1 | rw [World.size_setCell] at hz1)); have hB : Below w.heap.size w w1 := Below.trans (by (repeat' (first | (with_reducible exact Below.refl _ _) | (with_reducible assumption) | (with_reducible refine below_drewN ?_ _) | (with_reducible refine Below.alloc ?_ ?_ _) | (with_reducible refine Below.drew ?_) | (with_reducible refine Below.setCell ?_ ?_ _) | go_size))) (hb1.mono (by go_size)); have hL1 := hb1; clear hb1; obtain ⟨hc1, hf1⟩ := bcell hL1
          go_wp2_with fail; (go_at_call 31; refine (implCmp_c V N D V' N' D' _).mono ?_; rintro e w2 ⟨rfl, hb2⟩; have hz2 := hb2.size; (repeat (first | rw [World.size_alloc] at hz2 | rw [World.size_drew] at hz2 | rw [World.heap_drewN] at hz2 | rw [World.size_setCell] at hz2)); replace hB : Below w.heap.size w w2 := Below.trans (by (repeat' (first | (with_reducible exact Below.refl _ _) | (with_reducible assumption) | (with_reducible refine below_drewN ?_ _) | (with_reducible refine Below.alloc ?_ ?_ _) | (with_reducible refine Below.drew ?_) | (with_reducible refine Below.setCell ?_ ?_ _) | go_size))) (hb2.mono (by go_size)); (first | (refine extend_then hL1 hb2 ?_ ?_ (fun hq => ?_); (focus ((repeat' (first | (with_reducible exact Below.refl _ _) | (with_reducible assumption) | (with_reducible refine below_drewN ?_ _) | (with_reducible refine Below.alloc ?_ ?_ _) | (with_reducible refine Below.drew ?_) | (with_reducible refine Below.setCell ?_ ?_ _) | go_size)); done)); (focus (go_size; done)); replace hL1 := hq; clear hq hc1 hf1; obtain ⟨hc1, hf1⟩ := bcell hL1) | (clear hL1 hc1 hf1) | skip); have hL2 := hb2; clear hb2; obtain ⟨hc2, hf2⟩ := bcell hL2)
          go_wp2_with fail; (go_at_call 31; refine (implCmp_c V' N' D' V N D _).mono ?_; rintro e w3 ⟨rfl, hb3⟩; have hz3 := hb3.size; (repeat (first | rw [World.size_alloc] at hz3 | rw [World.size_drew] at hz3 | rw [World.heap_drewN] at hz3 | rw [World.size_setCell] at hz3)); replace hB : Below w.heap.size w w3 := Below.trans (by (repeat' (first | (with_reducible exact Below.refl _ _) | (with_reducible assumption) | (with_reducible refine below_drewN ?_ _) | (with_reducible refine Below.alloc ?_ ?_ _) | (with_reducible refine Below.drew ?_) | (with_reducible refine Below.setCell ?_ ?_ _) | go_size))) (hb3.mono (by go_size)); (first | (refine extend_then hL1 hb3 ?_ ?_ (fun hq => ?_); (focus ((repeat' (first | (with_reducible exact Below.refl _ _) | (with_reducible assumption) | (with_reducible refine below_drewN ?_ _) | (with_reducible refine Below.alloc ?_ ?_ _) | (with_reducible refine Below.drew ?_) | (with_reducible refine Below.setCell ?_ ?_ _) | go_size)); done)); (focus (go_size; done)); replace hL1 := hq; clear hq hc1 hf1; obtain ⟨hc1, hf1⟩ := bcell hL1) | (clear hL1 hc1 hf1) | skip); (first | (refine extend_then hL2 hb3 ?_ ?_ (fun hq => ?_); (focus ((repeat' (first | (with_reducible exact Below.refl _ _) | (with_reducible assumption) | (with_reducible refine below_drewN ?_ _) | (with_reducible refine Below.alloc ?_ ?_ _) | (with_reducible refine Below.drew ?_) | (with_reducible refine Below.setCell ?_ ?_ _) | go_size)); done)); (focus (go_size; done)); replace hL2 := hq; clear hq hc2 hf2; obtain ⟨hc2, hf2⟩ := bcell hL2) | (clear hL2 hc2 hf2) | skip); have hL3 := hb3; clear hb3; obtain ⟨hc3, hf3⟩ := bcell hL3)
          go_wp2_with fail; (go_at_call 30; refine (specCmp_c V N D V' N' D' _).mono ?_; rintro e w4 ⟨rfl, hb4⟩; have hz4 := hb4.size; (repeat (first | rw [World.size_alloc] at hz4 | rw [World.size_drew] at hz4 | rw [World.heap_drewN] at hz4 | rw [World.size_setCell] at hz4)); replace hB : Below w.heap.size w w4 := Below.trans (by (repeat' (first | (with_reducible exact Below.refl _ _) | (with_reducible assumption) | (with_reducible refine below_drewN ?_ _) | (with_reducible refine Below.alloc ?_ ?_ _) | (with_reducible refine Below.drew ?_) | (with_reducible refine Below.setCell ?_ ?_ _) | go_size))) (hb4.mono (by go_size)); (first | (refine extend_then hL1 hb4 ?_ ?_ (fun hq => ?_); (focus ((repeat' (first | (with_reducible exact Below.refl _ _) | (with_reducible assumption) | (with_reducible refine below_drewN ?_ _) | (with_reducible refine Below.alloc ?_ ?_ _) | (with_reducible refine Below.drew ?_) | (with_reducible refine Below.setCell ?_ ?_ _) | go_size)); done)); (focus (go_size; done)); replace hL1 := hq; clear hq hc1 hf1; obtain ⟨hc1, hf1⟩ := bcell hL1) | (clear hL1 hc1 hf1) | skip); (first | (refine extend_then hL2 hb4 ?_ ?_ (fun hq => ?_); (focus ((repeat' (first | (with_reducible exact Below.refl _ _) | (with_reducible assumption) | (with_reducible refine below_drewN ?_ _) | (with_reducible refine Below.alloc ?_ ?_ _) | (with_reducible refine Below.drew ?_) | (with_reducible refine Below.setCell ?_ ?_ _) | go_size)); done)); (focus (go_size; done)); replace hL2 := hq; clear hq hc2 hf2; obtain ⟨hc2, hf2⟩ := bcell hL2) | (clear hL2 hc2 hf2) | skip); (first | (refine extend_then hL3 hb4 ?_ ?_ (fun hq => ?_); (focus ((repeat' (first | (with_reducible exact Below.refl _ _) | (with_reducible assumption) | (with_reducible refine below_drewN ?_ _) | (with_reducible refine Below.alloc ?_ ?_ _) | (with_reducible refine Below.drew ?_) | (with_reducible refine Below.setCell ?_ ?_ _) | go_size)); done)); (focus (go_size; done)); replace hL3 := hq; clear hq hc3 hf3; obtain ⟨hc3, hf3⟩ := bcell hL3) | (clear hL3 hc3 hf3) | skip); have hL4 := hb4; clear hb4; obtain ⟨hc4, hf4⟩ := bcell hL4)
          go_upto_region 32 with (fail)
          have F1 := cmp_back V N D V' N' D'
          have F2 := cmpC_b V N D V' N' D'
          have F3 := cmpC_b V' N' D' V N D
          generalize cmpC V N D V' N' D' = K at F1 F2 ⊢
          generalize cmpC V' N' D' V N D = K2 at F1 F3 ⊢
          obtain ⟨k1, ok⟩ := K
          obtain ⟨k2, ok2⟩ := K2
          dsimp only at F1 F2 F3
          obtain ⟨rfl, f2⟩ := F1
          have wr1 : IntKind.i64.wrap (k1 + k2) = k1 + k2 := IntWalk.i64_in _ (by omega)
          have wr2 : IntKind.i64.wrap 0 = 0 := rfl
          clear F2 F3
          cases ok2
          · go_wp2
            (go_returns; exact ⟨by first | rfl | (simp; done) | (simp; omega), by (repeat' (first | (with_reducible exact Below.refl _ _) | (with_reducible assumption) | (with_reducible refine below_drewN ?_ _) | (with_reducible refine Below.alloc ?_ ?_ _) | (with_reducible refine Below.drew ?_) | (with_reducible refine Below.setCell ?_ ?_ _) | go_size))⟩)
          · go_wp2
            (go_returns; exact ⟨by first | rfl | (simp; done) | (simp; omega), by (repeat' (first | (with_reducible exact Below.refl _ _) | (with_reducible assumption) | (with_reducible refine below_drewN ?_ _) | (with_reducible refine Below.alloc ?_ ?_ _) | (with_reducible refine Below.drew ?_) | (with_reducible refine Below.setCell ?_ ?_ _) | go_size))⟩)
end Go.Proofs.Ytbcgcpdnmpejlaa

/- Contracts: the least grade, the mean grade. -/
import Derived.Test.YtjpijcmfnckmaaaPPipe
import Derived.Test.YtjpijcmfnckmaaaPMore
namespace Go.Proofs.Ytjpijcmfnckmaaa
open Go.RowKit

theorem implLeast_c {B : Nat} (A : Option Addr) (c : Nat) (xs : List (Int × Int)) (w : World) (h : RdP w B A xs) (hBs : B ≤ w.heap.size) (hm : xs.length ≤ 4611686018427387904) : Calls Try.prog 34 #[.slice A xs.length c] w fun e w' => e = .returned (.tuple #[.int .i64 (leastR xs).1, .int .i64 (leastR xs).2.1, .bool (leastR xs).2.2]) ∧ Below w.heap.size w w' := by
  cases h1 : goodPs xs
  · rw [leastR_no h1]
    go_enter Try.func34, Try.ntmps34
    go_wp2_with (go_at_call 19; refine (implPipe_c _ _ _ _ h hBs hm).mono ?_; rintro e w1 ⟨rfl, hb1⟩; have hz1 := hb1.size; (repeat (first | rw [World.size_alloc] at hz1 | rw [World.size_drew] at hz1 | rw [World.heap_drewN] at hz1 | rw [World.size_setCell] at hz1)); have hB : Below w.heap.size w w1 := Below.trans (by (repeat' (first | (with_reducible exact Below.refl _ _) | (with_reducible assumption) | (with_reducible refine below_drewN ?_ _) | (with_reducible refine Below.alloc ?_ ?_ _) | (with_reducible refine Below.drew ?_) | (with_reducible refine Below.setCell ?_ ?_ _) | go_size))) (hb1.mono (by go_size)); have hL1 := hb1; clear hb1; obtain ⟨hc1, hf1⟩ := bcell hL1)
    (go_returns; exact ⟨by first | rfl | (simp; done) | (simp; omega), by (repeat' (first | (with_reducible exact Below.refl _ _) | (with_reducible assumption) | (with_reducible refine below_drewN ?_ _) | (with_reducible refine Below.alloc ?_ ?_ _) | (with_reducible refine Below.drew ?_) | (with_reducible refine Below.setCell ?_ ?_ _) | go_size))⟩)
  have g := goodPs_out h1
  have hr : ∀ x y b w, (x, y) = xs.getD 0 (0, 0) → leastF xs y 0 0 = (b, w) → leastR xs = (b, w, true) := fun _ _ _ _ => leastR_yes h1
  have HR := Lib.hid hr
  clear hr
  obtain ⟨b0, off0, x0, y0, hA0, hx0, hb0, hz0, hz1'⟩ := h.at_ (k := 0) (by omega)
  rw [Nat.zero_mul, Nat.add_zero] at hz0 hz1'
  subst hA0
  have hi0 : (0 : Int) < (xs.length : Int) := by omega
  have HX0 := Lib.hid hx0
  clear hx0
  go_enter Try.func34, Try.ntmps34
  go_wp2_with (go_at_call 19; refine (implPipe_c _ _ _ _ h hBs hm).mono ?_; rintro e w1 ⟨rfl, hb1⟩; have hz1 := hb1.size; (repeat (first | rw [World.size_alloc] at hz1 | rw [World.size_drew] at hz1 | rw [World.heap_drewN] at hz1 | rw [World.size_setCell] at hz1)); have hB : Below w.heap.size w w1 := Below.trans (by (repeat' (first | (with_reducible exact Below.refl _ _) | (with_reducible assumption) | (with_reducible refine below_drewN ?_ _) | (with_reducible refine Below.alloc ?_ ?_ _) | (with_reducible refine Below.drew ?_) | (with_reducible refine Below.setCell ?_ ?_ _) | go_size))) (hb1.mono (by go_size)); have hL1 := hb1; clear hb1; obtain ⟨hc1, hf1⟩ := bcell hL1)
  go_loopw [5, 6, 7, 9, 19] (fun bb ww aa _ i wr => ∃ (k : Nat) (p q : Int), k ≤ xs.length ∧ i = .int .i64 k ∧ bb = .int .i64 p ∧ ww = .int .i64 q ∧ aa = .int .i64 (sumV xs k) ∧ leastF (xs.drop k) p q (sumV xs k) = leastF xs y0 0 0 ∧ Below w.heap.size w wr) (fun _ _ _ _ i _ => xs.length - (intOf i).toNat)
  case atStart => exact ⟨0, y0, 0, by omega, rfl, rfl, rfl, rfl, rfl, by (repeat' (first | (with_reducible exact Below.refl _ _) | (with_reducible assumption) | (with_reducible refine below_drewN ?_ _) | (with_reducible refine Below.alloc ?_ ?_ _) | (with_reducible refine Below.drew ?_) | (with_reducible refine Below.setCell ?_ ?_ _) | go_size))⟩
  case round =>
    clear hL1 hc1 hf1 hz1 hB hz0 hz1' hi0
    obtain ⟨k, p, q, hk, rfl, rfl, rfl, rfl, hf, hB⟩ := hrel
    have b1 := sumV_b g.2.2.1 k hk
    by_cases hlt : k < xs.length
    · have h' := h.below (hB.mono hBs)
      have hsz := hB.size
      obtain ⟨b, off, x, y, hA, hx, hb, hc0, hc1⟩ := h'.at_ hlt
      simp only [Option.some.injEq, Addr.mk.injEq, and_true] at hA
      obtain ⟨rfl, rfl⟩ := hA
      have ok := allAt_xy g.2.2.1 hlt hx
      have hi : (k : Int) < (xs.length : Int) := by omega
      have wr1 : IntKind.i64.wrap (sumV xs k + x) = sumV xs k + x := IntWalk.i64_in _ (by omega)
      have HV := Lib.hid (sumV_succ hx)
      by_cases hq : y < p
      · rw [leastF_less hlt hx hq, ← sumV_succ hx] at hf
        have HF := Lib.hid hf
        clear hx h h' hf
        go_wp2
        go_roundw
        case rel => exact ⟨k + 1, y, sumV xs k, by omega, by go_num, rfl, rfl, by rw [HV.out], HF.out, by (repeat' (first | (with_reducible exact Below.refl _ _) | (with_reducible assumption) | (with_reducible refine below_drewN ?_ _) | (with_reducible refine Below.alloc ?_ ?_ _) | (with_reducible refine Below.drew ?_) | (with_reducible refine Below.setCell ?_ ?_ _) | go_size))⟩
        case measure => simp [intOf]; omega
      · rw [leastF_keep hlt hx hq, ← sumV_succ hx] at hf
        have HF := Lib.hid hf
        clear hx h h' hf
        go_wp2
        go_roundw
        case rel => exact ⟨k + 1, p, q, by omega, by go_num, rfl, rfl, by rw [HV.out], HF.out, by (repeat' (first | (with_reducible exact Below.refl _ _) | (with_reducible assumption) | (with_reducible refine below_drewN ?_ _) | (with_reducible refine Below.alloc ?_ ?_ _) | (with_reducible refine Below.drew ?_) | (with_reducible refine Below.setCell ?_ ?_ _) | go_size))⟩
        case measure => simp [intOf]; omega
    · obtain rfl : k = xs.length := by omega
      rw [leastF_end] at hf
      have HF := Lib.hid (HR.out _ _ _ _ HX0.out hf.symm)
      clear h hf
      go_wp2
      go_returns
      exact ⟨by rw [HF.out]; rfl, by (repeat' (first | (with_reducible exact Below.refl _ _) | (with_reducible assumption) | (with_reducible refine below_drewN ?_ _) | (with_reducible refine Below.alloc ?_ ?_ _) | (with_reducible refine Below.drew ?_) | (with_reducible refine Below.setCell ?_ ?_ _) | go_size))⟩
theorem specLeast_c {B : Nat} (A : Option Addr) (c : Nat) (xs : List (Int × Int)) (w : World) (h : RdP w B A xs) (hBs : B ≤ w.heap.size) (hm : xs.length ≤ 4611686018427387904) : Calls Try.prog 33 #[.slice A xs.length c] w fun e w' => e = .returned (.tuple #[.int .i64 (leastR xs).1, .int .i64 (leastR xs).2.1, .bool (leastR xs).2.2]) ∧ Below w.heap.size w w' := by
  cases h1 : goodPs xs
  · rw [leastR_no h1]
    go_enter Try.func33, Try.ntmps33
    go_wp2_with (go_at_call 51; refine (specPipe0_c _ _ _ _ h hBs hm).mono ?_; rintro e w1 ⟨rfl, hb1⟩; have hz1 := hb1.size; (repeat (first | rw [World.size_alloc] at hz1 | rw [World.size_drew] at hz1 | rw [World.heap_drewN] at hz1 | rw [World.size_setCell] at hz1)); have hB : Below w.heap.size w w1 := Below.trans (by (repeat' (first | (with_reducible exact Below.refl _ _) | (with_reducible assumption) | (with_reducible refine below_drewN ?_ _) | (with_reducible refine Below.alloc ?_ ?_ _) | (with_reducible refine Below.drew ?_) | (with_reducible refine Below.setCell ?_ ?_ _) | go_size))) (hb1.mono (by go_size)); have hL1 := hb1; clear hb1; obtain ⟨hc1, hf1⟩ := bcell hL1)
    (go_returns; exact ⟨by first | rfl | (simp; done) | (simp; omega), by (repeat' (first | (with_reducible exact Below.refl _ _) | (with_reducible assumption) | (with_reducible refine below_drewN ?_ _) | (with_reducible refine Below.alloc ?_ ?_ _) | (with_reducible refine Below.drew ?_) | (with_reducible refine Below.setCell ?_ ?_ _) | go_size))⟩)
  have g := goodPs_out h1
  have hr : ∀ x y b w, (x, y) = xs.getD 0 (0, 0) → leastF xs y 0 0 = (b, w) → leastR xs = (b, w, true) := fun _ _ _ _ => leastR_yes h1
  have HR := Lib.hid hr
  clear hr
  obtain ⟨b0, off0, x0, y0, hA0, hx0, hb0, hz0, hz1'⟩ := h.at_ (k := 0) (by omega)
  rw [Nat.zero_mul, Nat.add_zero] at hz0 hz1'
  subst hA0
  have hi0 : (0 : Int) < (xs.length : Int) := by omega
  have HX0 := Lib.hid hx0
  clear hx0
  go_enter Try.func33, Try.ntmps33
  go_wp2_with (go_at_call 51; refine (specPipe0_c _ _ _ _ h hBs hm).mono ?_; rintro e w1 ⟨rfl, hb1⟩; have hz1 := hb1.size; (repeat (first | rw [World.size_alloc] at hz1 | rw [World.size_drew] at hz1 | rw [World.heap_drewN] at hz1 | rw [World.size_setCell] at hz1)); have hB : Below w.heap.size w w1 := Below.trans (by (repeat' (first | (with_reducible exact Below.refl _ _) | (with_reducible assumption) | (with_reducible refine below_drewN ?_ _) | (with_reducible refine Below.alloc ?_ ?_ _) | (with_reducible refine Below.drew ?_) | (with_reducible refine Below.setCell ?_ ?_ _) | go_size))) (hb1.mono (by go_size)); have hL1 := hb1; clear hb1; obtain ⟨hc1, hf1⟩ := bcell hL1)
  go_loopw [5, 6, 7, 8] (fun bb ww aa i wr => ∃ (k : Nat) (p q : Int), k ≤ xs.length ∧ i = .int .i64 k ∧ bb = .int .i64 p ∧ ww = .int .i64 q ∧ aa = .int .i64 (sumV xs k) ∧ leastF (xs.drop k) p q (sumV xs k) = leastF xs y0 0 0 ∧ Below w.heap.size w wr) (fun _ _ _ i _ => xs.length - (intOf i).toNat)
  case atStart => exact ⟨0, y0, 0, by omega, rfl, rfl, rfl, rfl, rfl, by (repeat' (first | (with_reducible exact Below.refl _ _) | (with_reducible assumption) | (with_reducible refine below_drewN ?_ _) | (with_reducible refine Below.alloc ?_ ?_ _) | (with_reducible refine Below.drew ?_) | (with_reducible refine Below.setCell ?_ ?_ _) | go_size))⟩
  case round =>
    clear hL1 hc1 hf1 hz1 hB hz0 hz1' hi0
    obtain ⟨k, p, q, hk, rfl, rfl, rfl, rfl, hf, hB⟩ := hrel
    have b1 := sumV_b g.2.2.1 k hk
    by_cases hlt : k < xs.length
    · have h' := h.below (hB.mono hBs)
      have hsz := hB.size
      obtain ⟨b, off, x, y, hA, hx, hb, hc0, hc1⟩ := h'.at_ hlt
      simp only [Option.some.injEq, Addr.mk.injEq, and_true] at hA
      obtain ⟨rfl, rfl⟩ := hA
      have ok := allAt_xy g.2.2.1 hlt hx
      have hi : (k : Int) < (xs.length : Int) := by omega
      have wr1 : IntKind.i64.wrap (sumV xs k + x) = sumV xs k + x := IntWalk.i64_in _ (by omega)
      have HV := Lib.hid (sumV_succ hx)
      by_cases hq : y < p
      · rw [leastF_less hlt hx hq, ← sumV_succ hx] at hf
        have HF := Lib.hid hf
        clear hx h h' hf
        go_wp2
        go_roundw
        case rel => exact ⟨k + 1, y, sumV xs k, by omega, by go_num, rfl, rfl, by rw [HV.out], HF.out, by (repeat' (first | (with_reducible exact Below.refl _ _) | (with_reducible assumption) | (with_reducible refine below_drewN ?_ _) | (with_reducible refine Below.alloc ?_ ?_ _) | (with_reducible refine Below.drew ?_) | (with_reducible refine Below.setCell ?_ ?_ _) | go_size))⟩
        case measure => simp [intOf]; omega
      · rw [leastF_keep hlt hx hq, ← sumV_succ hx] at hf
        have HF := Lib.hid hf
        clear hx h h' hf
        go_wp2
        go_roundw
        case rel => exact ⟨k + 1, p, q, by omega, by go_num, rfl, rfl, by rw [HV.out], HF.out, by (repeat' (first | (with_reducible exact Below.refl _ _) | (with_reducible assumption) | (with_reducible refine below_drewN ?_ _) | (with_reducible refine Below.alloc ?_ ?_ _) | (with_reducible refine Below.drew ?_) | (with_reducible refine Below.setCell ?_ ?_ _) | go_size))⟩
        case measure => simp [intOf]; omega
    · obtain rfl : k = xs.length := by omega
      rw [leastF_end] at hf
      have HF := Lib.hid (HR.out _ _ _ _ HX0.out hf.symm)
      clear h hf
      go_wp2
      go_returns
      exact ⟨by rw [HF.out]; rfl, by (repeat' (first | (with_reducible exact Below.refl _ _) | (with_reducible assumption) | (with_reducible refine below_drewN ?_ _) | (with_reducible refine Below.alloc ?_ ?_ _) | (with_reducible refine Below.drew ?_) | (with_reducible refine Below.setCell ?_ ?_ _) | go_size))⟩
theorem l15Common_c (a b : Int) (w : World) (ha1 : 0 ≤ a) (ha2 : a ≤ 1000000000000000000) (hb1 : 0 ≤ b) (hb2 : b ≤ 1000000000000000000) :
    Calls Try.prog 60 #[.int .i64 a, .int .i64 b] w fun e w' => e = .returned (.int .i64 (gcdI a b)) ∧ w = w' := by
  go_enter Try.func60, Try.ntmps60
  go_wp2
  go_loop [0, 1, 5] (fun x y _ => ∃ p q : Int, x = .int .i64 p ∧ y = .int .i64 q ∧ 0 ≤ p ∧ 0 ≤ q ∧ p ≤ 1000000000000000000 ∧ q ≤ 1000000000000000000 ∧ gcdI p q = gcdI a b) (fun _ y _ => (intOf y).toNat)
  case atStart => exact ⟨_, _, rfl, rfl, ha1, hb1, ha2, hb2, rfl⟩
  case round =>
    obtain ⟨p, q, rfl, rfl, hp0, hq0, hp1, hq1, hg⟩ := hrel
    by_cases hz : q = 0
    · subst hz
      rw [gcdI_zero p hp0] at hg
      have HG := Lib.hid hg; clear hg
      go_wp2
      go_ret
      exact ⟨by rw [HG.out]; rfl, rfl⟩
    · have hs := gcdI_step p q hp0
      rw [hg] at hs
      have HS := Lib.hid hs; clear hs hg
      have hm1 : 0 ≤ p % q := Int.emod_nonneg _ hz
      have hm2 : p % q < q := Int.emod_lt_of_pos _ (by omega)
      have hne : ((q == 0) = false) := by simp; omega
      have hq2 : 0 < q := by omega
      go_wp2
      go_round
      case rel => exact ⟨_, _, rfl, rfl, by omega, by omega, by omega, by omega, HS.out⟩
      case measure => simp [intOf]; omega
theorem implMeanG_c {B : Nat} (A : Option Addr) (c : Nat) (xs : List (Int × Int)) (w : World) (h : RdP w B A xs) (hBs : B ≤ w.heap.size) (hm : xs.length ≤ 4611686018427387904) : Calls Try.prog 36 #[.slice A xs.length c] w fun e w' => e = .returned (.tuple #[.int .i64 (meanPR xs).1, .int .i64 (meanPR xs).2.1, .bool (meanPR xs).2.2]) ∧ Below w.heap.size w w' := by
  cases h1 : goodPs xs
  · rw [meanPR_no h1]
    go_enter Try.func36, Try.ntmps36
    go_wp2_with (go_at_call 19; refine (implPipe_c _ _ _ _ h hBs hm).mono ?_; rintro e w1 ⟨rfl, hb1⟩; have hz1 := hb1.size; (repeat (first | rw [World.size_alloc] at hz1 | rw [World.size_drew] at hz1 | rw [World.heap_drewN] at hz1 | rw [World.size_setCell] at hz1)); have hB : Below w.heap.size w w1 := Below.trans (by (repeat' (first | (with_reducible exact Below.refl _ _) | (with_reducible assumption) | (with_reducible refine below_drewN ?_ _) | (with_reducible refine Below.alloc ?_ ?_ _) | (with_reducible refine Below.drew ?_) | (with_reducible refine Below.setCell ?_ ?_ _) | go_size))) (hb1.mono (by go_size)); have hL1 := hb1; clear hb1; obtain ⟨hc1, hf1⟩ := bcell hL1)
    (go_returns; exact ⟨by first | rfl | (simp; done) | (simp; omega), by (repeat' (first | (with_reducible exact Below.refl _ _) | (with_reducible assumption) | (with_reducible refine below_drewN ?_ _) | (with_reducible refine Below.alloc ?_ ?_ _) | (with_reducible refine Below.drew ?_) | (with_reducible refine Below.setCell ?_ ?_ _) | go_size))⟩)
  have g := goodPs_out h1
  have bV := sumV_b g.2.2.1 xs.length (Nat.le_refl _)
  have bM := sumM_b g.2.2.1 xs.length (Nat.le_refl _)
  rw [meanPR_yes h1]
  go_enter Try.func36, Try.ntmps36
  go_wp2_with (first | (go_at_call 19; refine (implPipe_c _ _ _ _ h hBs hm).mono ?_; rintro e w1 ⟨rfl, hb1⟩; have hz1 := hb1.size; (repeat (first | rw [World.size_alloc] at hz1 | rw [World.size_drew] at hz1 | rw [World.heap_drewN] at hz1 | rw [World.size_setCell] at hz1)); have hB : Below w.heap.size w w1 := Below.trans (by (repeat' (first | (with_reducible exact Below.refl _ _) | (with_reducible assumption) | (with_reducible refine below_drewN ?_ _) | (with_reducible refine Below.alloc ?_ ?_ _) | (with_reducible refine Below.drew ?_) | (with_reducible refine Below.setCell ?_ ?_ _) | go_size))) (hb1.mono (by go_size)); have hL1 := hb1; clear hb1; obtain ⟨hc1, hf1⟩ := bcell hL1) | (go_at_call 49; refine (volMass_c _ _ _ _ (h.below (hB.mono hBs)) (by omega) g.2.2.1 (by omega)).mono ?_; rintro e w2 ⟨rfl, hb2⟩; have hz2 := hb2.size; (repeat (first | rw [World.size_alloc] at hz2 | rw [World.size_drew] at hz2 | rw [World.heap_drewN] at hz2 | rw [World.size_setCell] at hz2)); replace hB : Below w.heap.size w w2 := Below.trans (by (repeat' (first | (with_reducible exact Below.refl _ _) | (with_reducible assumption) | (with_reducible refine below_drewN ?_ _) | (with_reducible refine Below.alloc ?_ ?_ _) | (with_reducible refine Below.drew ?_) | (with_reducible refine Below.setCell ?_ ?_ _) | go_size))) (hb2.mono (by go_size)); (first | (refine extend_then hL1 hb2 ?_ ?_ (fun hq => ?_); (focus ((repeat' (first | (with_reducible exact Below.refl _ _) | (with_reducible assumption) | (with_reducible refine below_drewN ?_ _) | (with_reducible refine Below.alloc ?_ ?_ _) | (with_reducible refine Below.drew ?_) | (with_reducible refine Below.setCell ?_ ?_ _) | go_size)); done)); (focus (go_size; done)); replace hL1 := hq; clear hq hc1 hf1; obtain ⟨hc1, hf1⟩ := bcell hL1) | (clear hL1 hc1 hf1) | skip); have hL2 := hb2; clear hb2; obtain ⟨hc2, hf2⟩ := bcell hL2) | (go_at_call 61; refine (lowestTerms_c _ _ _ (by omega) (by omega) (by omega) (by omega)).mono ?_; rintro e w' ⟨rfl, nd, rfl⟩))
  (go_returns; exact ⟨by first | rfl | (simp; done) | (simp; omega), by (repeat' (first | (with_reducible exact Below.refl _ _) | (with_reducible assumption) | (with_reducible refine below_drewN ?_ _) | (with_reducible refine Below.alloc ?_ ?_ _) | (with_reducible refine Below.drew ?_) | (with_reducible refine Below.setCell ?_ ?_ _) | go_size))⟩)
theorem specMeanG_c {B : Nat} (A : Option Addr) (c : Nat) (xs : List (Int × Int)) (w : World) (h : RdP w B A xs) (hBs : B ≤ w.heap.size) (hm : xs.length ≤ 4611686018427387904) : Calls Try.prog 35 #[.slice A xs.length c] w fun e w' => e = .returned (.tuple #[.int .i64 (meanPR xs).1, .int .i64 (meanPR xs).2.1, .bool (meanPR xs).2.2]) ∧ Below w.heap.size w w' := by
  cases h1 : goodPs xs
  · rw [meanPR_no h1]
    go_enter Try.func35, Try.ntmps35
    go_wp2_with (go_at_call 51; refine (specPipe0_c _ _ _ _ h hBs hm).mono ?_; rintro e w1 ⟨rfl, hb1⟩; have hz1 := hb1.size; (repeat (first | rw [World.size_alloc] at hz1 | rw [World.size_drew] at hz1 | rw [World.heap_drewN] at hz1 | rw [World.size_setCell] at hz1)); have hB : Below w.heap.size w w1 := Below.trans (by (repeat' (first | (with_reducible exact Below.refl _ _) | (with_reducible assumption) | (with_reducible refine below_drewN ?_ _) | (with_reducible refine Below.alloc ?_ ?_ _) | (with_reducible refine Below.drew ?_) | (with_reducible refine Below.setCell ?_ ?_ _) | go_size))) (hb1.mono (by go_size)); have hL1 := hb1; clear hb1; obtain ⟨hc1, hf1⟩ := bcell hL1)
    (go_returns; exact ⟨by first | rfl | (simp; done) | (simp; omega), by (repeat' (first | (with_reducible exact Below.refl _ _) | (with_reducible assumption) | (with_reducible refine below_drewN ?_ _) | (with_reducible refine Below.alloc ?_ ?_ _) | (with_reducible refine Below.drew ?_) | (with_reducible refine Below.setCell ?_ ?_ _) | go_size))⟩)
  have g := goodPs_out h1
  have bV := sumV_b g.2.2.1 xs.length (Nat.le_refl _)
  have bM := sumM_b g.2.2.1 xs.length (Nat.le_refl _)
  rw [meanPR_yes h1]
  go_enter Try.func35, Try.ntmps35
  have hg := gcdI_pos (sumM xs xs.length) (sumV xs xs.length) (by omega)
  have hl := gcdI_le (sumM xs xs.length) (sumV xs xs.length) (by omega)
  have hg1 : 1 ≤ gcdI (sumM xs xs.length) (sumV xs xs.length) := hg
  have hne : (gcdI (sumM xs xs.length) (sumV xs xs.length) == 0) = false := by simp; omega
  go_wp2_with (first | (go_at_call 51; refine (specPipe0_c _ _ _ _ h hBs hm).mono ?_; rintro e w1 ⟨rfl, hb1⟩; have hz1 := hb1.size; (repeat (first | rw [World.size_alloc] at hz1 | rw [World.size_drew] at hz1 | rw [World.heap_drewN] at hz1 | rw [World.size_setCell] at hz1)); have hB : Below w.heap.size w w1 := Below.trans (by (repeat' (first | (with_reducible exact Below.refl _ _) | (with_reducible assumption) | (with_reducible refine below_drewN ?_ _) | (with_reducible refine Below.alloc ?_ ?_ _) | (with_reducible refine Below.drew ?_) | (with_reducible refine Below.setCell ?_ ?_ _) | go_size))) (hb1.mono (by go_size)); have hL1 := hb1; clear hb1; obtain ⟨hc1, hf1⟩ := bcell hL1) | (go_at_call 53; refine (l15Sum_c _ _ _ _ (h.below (hB.mono hBs)) g.2.2.1 (by omega)).mono ?_; rintro e w' ⟨rfl, nd, rfl⟩) | (go_at_call 60; refine (l15Common_c _ _ _ (by omega) (by omega) (by omega) (by omega)).mono ?_; rintro e w' ⟨rfl, rfl⟩))
  go_quiet (fail)
  go_wp2
  (go_returns; exact ⟨by first | rfl | (simp; done) | (simp; omega), by (repeat' (first | (with_reducible exact Below.refl _ _) | (with_reducible assumption) | (with_reducible refine below_drewN ?_ _) | (with_reducible refine Below.alloc ?_ ?_ _) | (with_reducible refine Below.drew ?_) | (with_reducible refine Below.setCell ?_ ?_ _) | go_size))⟩)
end Go.Proofs.Ytjpijcmfnckmaaa

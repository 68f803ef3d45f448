/- Contracts: valid pipefuls. -/
import Derived.Test.YtjpijcmfnckmaaaPWalk
import Derived.Test.YtjpijcmfnckmaaaAfter
namespace Go.Proofs.Ytjpijcmfnckmaaa
open Go.RowKit

theorem implPipe_c {B : Nat} (A : Option Addr) (c : Nat) (xs : List (Int × Int)) (w : World) (h : RdP w B A xs) (hBs : B ≤ w.heap.size) (hm : xs.length ≤ 4611686018427387904) : Calls Try.prog 19 #[.slice A xs.length c] w fun e w' => e = .returned (.bool (goodPs xs)) ∧ Below w.heap.size w w' := by
  cases hl : inB xs.length 1 8
  · rw [goodPs_len hl]
    go_enter Try.func19, Try.ntmps19
    go_wp2_with (go_at_call 56; refine (inside_c _ _ _ _).mono ?_; rintro e w' ⟨rfl, rfl⟩)
    (go_returns; exact ⟨by first | rfl | (simp; done) | (simp; omega), by (repeat' (first | (with_reducible exact Below.refl _ _) | (with_reducible assumption) | (with_reducible refine below_drewN ?_ _) | (with_reducible refine Below.alloc ?_ ?_ _) | (with_reducible refine Below.drew ?_) | (with_reducible refine Below.setCell ?_ ?_ _) | go_size))⟩)
  have hlb := inB_out hl
  go_enter Try.func19, Try.ntmps19
  go_wp2_with (go_at_call 56; refine (inside_c _ _ _ _).mono ?_; rintro e w' ⟨rfl, rfl⟩)
  go_loopw [3, 4, 13] (fun _ _ i wr => ∃ k : Nat, k ≤ xs.length ∧ i = .int .i64 k ∧ (∀ j, j < k → okAt xs j = true) ∧ Below w.heap.size w wr) (fun _ _ i _ => xs.length - (intOf i).toNat)
  case atStart => exact ⟨0, by omega, rfl, fun j hj => absurd hj (by omega), by (repeat' (first | (with_reducible exact Below.refl _ _) | (with_reducible assumption) | (with_reducible refine below_drewN ?_ _) | (with_reducible refine Below.alloc ?_ ?_ _) | (with_reducible refine Below.drew ?_) | (with_reducible refine Below.setCell ?_ ?_ _) | go_size))⟩
  case round =>
    obtain ⟨k, hk, rfl, hno, hB⟩ := hrel
    by_cases hlt : k < xs.length
    · have h' := h.below (hB.mono hBs)
      have hsz := hB.size
      obtain ⟨b, off, x, y, rfl, hx, hb, hc0, hc1⟩ := h'.at_ hlt
      have hi : (k : Int) < (xs.length : Int) := by omega
      have hbw : b < wr.heap.size := by omega
      have hcp := isParcel_c x y
      cases hp : okP x y
      all_goals
        simp only [hp] at hcp
        have HCP := Lib.hid hcp
        clear hcp
      · have hr : goodPs xs = false := goodPs_at (allAt_no hlt (okAt_bad hx hp))
        have HR := Lib.hid hr
        clear hno hx h h' hr
        go_wp2
        (refine wp_region_after (by kernel_rfl) (by kernel_rfl) (fun hAf => ?_); (repeat (go_big_quiet_step (first | (go_at_call 48; exact callsAfter (HCP.out _))))); refine wpQuiet_nil ?_; intro w1 hw'; have hb1 := after_out hw'; clear hw' hAf; have hz1 := hb1.size; (repeat (first | rw [World.size_alloc] at hz1 | rw [World.size_drew] at hz1 | rw [World.heap_drewN] at hz1 | rw [World.size_setCell] at hz1)); have hB : Below w.heap.size w w1 := Below.trans (by (repeat' (first | (with_reducible exact Below.refl _ _) | (with_reducible assumption) | (with_reducible refine below_drewN ?_ _) | (with_reducible refine Below.alloc ?_ ?_ _) | (with_reducible refine Below.drew ?_) | (with_reducible refine Below.setCell ?_ ?_ _) | go_size))) (hb1.mono (by go_size)); have hL1 := hb1; clear hb1; obtain ⟨hc1, hf1⟩ := bcell hL1)
        go_wp2
        go_returns
        exact ⟨by rw [HR.out]; rfl, by (repeat' (first | (with_reducible exact Below.refl _ _) | (with_reducible assumption) | (with_reducible refine below_drewN ?_ _) | (with_reducible refine Below.alloc ?_ ?_ _) | (with_reducible refine Below.drew ?_) | (with_reducible refine Below.setCell ?_ ?_ _) | go_size))⟩
      · cases k with
        | zero =>
          rw [Nat.zero_mul, Nat.add_zero] at hc0 hc1
          have ha := okAt_first hx hp
          have HA := Lib.hid ha
          clear hno hx h h' ha
          go_wp2
          (refine wp_region_after (by kernel_rfl) (by kernel_rfl) (fun hAf => ?_); (repeat (go_big_quiet_step (first | (go_at_call 48; exact callsAfter (HCP.out _))))); refine wpQuiet_nil ?_; intro w1 hw'; have hb1 := after_out hw'; clear hw' hAf; have hz1 := hb1.size; (repeat (first | rw [World.size_alloc] at hz1 | rw [World.size_drew] at hz1 | rw [World.heap_drewN] at hz1 | rw [World.size_setCell] at hz1)); have hB : Below w.heap.size w w1 := Below.trans (by (repeat' (first | (with_reducible exact Below.refl _ _) | (with_reducible assumption) | (with_reducible refine below_drewN ?_ _) | (with_reducible refine Below.alloc ?_ ?_ _) | (with_reducible refine Below.drew ?_) | (with_reducible refine Below.setCell ?_ ?_ _) | go_size))) (hb1.mono (by go_size)); have hL1 := hb1; clear hb1; obtain ⟨hc1, hf1⟩ := bcell hL1)
          go_wp2
          go_roundw
          case rel => exact ⟨1, by omega, by go_num, fun j hj => by obtain rfl : j = 0 := by omega
                                                                    exact HA.out, by (repeat' (first | (with_reducible exact Below.refl _ _) | (with_reducible assumption) | (with_reducible refine below_drewN ?_ _) | (with_reducible refine Below.alloc ?_ ?_ _) | (with_reducible refine Below.drew ?_) | (with_reducible refine Below.setCell ?_ ?_ _) | go_size))⟩
          case measure => simp [intOf]; omega
        | succ m =>
          obtain ⟨b2, off2, x', y', hA', hy, hb2, hd0, hd1⟩ := h'.at_ (k := m) (by omega)
          simp only [Option.some.injEq, Addr.mk.injEq, and_true] at hA'
          obtain ⟨rfl, rfl⟩ := hA'
          have wr1 : IntKind.i64.wrap ((m : Int) + 1 - 1) = m := by rw [IntWalk.i64_in _ (by omega)]; omega
          have hi2 : (m : Int) < (xs.length : Int) := by omega
          by_cases hq : y' = y
          · have hr : goodPs xs = false := goodPs_at (allAt_no hlt (okAt_same hx hy hq))
            have HR := Lib.hid hr
            clear hno hx hy h h' hr
            go_wp2
            (refine wp_region_after (by kernel_rfl) (by kernel_rfl) (fun hAf => ?_); (repeat (go_big_quiet_step (first | (go_at_call 48; exact callsAfter (HCP.out _))))); refine wpQuiet_nil ?_; intro w1 hw'; have hb1 := after_out hw'; clear hw' hAf; have hz1 := hb1.size; (repeat (first | rw [World.size_alloc] at hz1 | rw [World.size_drew] at hz1 | rw [World.heap_drewN] at hz1 | rw [World.size_setCell] at hz1)); have hB : Below w.heap.size w w1 := Below.trans (by (repeat' (first | (with_reducible exact Below.refl _ _) | (with_reducible assumption) | (with_reducible refine below_drewN ?_ _) | (with_reducible refine Below.alloc ?_ ?_ _) | (with_reducible refine Below.drew ?_) | (with_reducible refine Below.setCell ?_ ?_ _) | go_size))) (hb1.mono (by go_size)); have hL1 := hb1; clear hb1; obtain ⟨hc1, hf1⟩ := bcell hL1)
            go_wp2
            go_returns
            exact ⟨by rw [HR.out]; rfl, by (repeat' (first | (with_reducible exact Below.refl _ _) | (with_reducible assumption) | (with_reducible refine below_drewN ?_ _) | (with_reducible refine Below.alloc ?_ ?_ _) | (with_reducible refine Below.drew ?_) | (with_reducible refine Below.setCell ?_ ?_ _) | go_size))⟩
          · have ha := okAt_other hx hy hp hq
            have HA := Lib.hid ha
            have HNO := Lib.hid hno
            clear hno hx hy h h' ha
            go_wp2
            (refine wp_region_after (by kernel_rfl) (by kernel_rfl) (fun hAf => ?_); (repeat (go_big_quiet_step (first | (go_at_call 48; exact callsAfter (HCP.out _))))); refine wpQuiet_nil ?_; intro w1 hw'; have hb1 := after_out hw'; clear hw' hAf; have hz1 := hb1.size; (repeat (first | rw [World.size_alloc] at hz1 | rw [World.size_drew] at hz1 | rw [World.heap_drewN] at hz1 | rw [World.size_setCell] at hz1)); have hB : Below w.heap.size w w1 := Below.trans (by (repeat' (first | (with_reducible exact Below.refl _ _) | (with_reducible assumption) | (with_reducible refine below_drewN ?_ _) | (with_reducible refine Below.alloc ?_ ?_ _) | (with_reducible refine Below.drew ?_) | (with_reducible refine Below.setCell ?_ ?_ _) | go_size))) (hb1.mono (by go_size)); have hL1 := hb1; clear hb1; obtain ⟨hc1, hf1⟩ := bcell hL1)
            go_wp2
            go_roundw
            case rel => exact ⟨m + 1 + 1, by omega, by go_num, fun j hj => by
              by_cases e : j = m + 1
              · subst e; exact HA.out
              · exact HNO.out j (by omega), by (repeat' (first | (with_reducible exact Below.refl _ _) | (with_reducible assumption) | (with_reducible refine below_drewN ?_ _) | (with_reducible refine Below.alloc ?_ ?_ _) | (with_reducible refine Below.drew ?_) | (with_reducible refine Below.setCell ?_ ?_ _) | go_size))⟩
            case measure => simp [intOf]; omega
    · obtain rfl : k = xs.length := by omega
      have hall : allAt xs = true := allAt_yes hno
      have hs := goodPs_sum hl hall
      have HS := Lib.hid hs
      have hsz := hB.size
      clear hno hs
      go_wp2_with (go_at_call 49; refine (volMass_c _ _ _ _ (h.below (hB.mono hBs)) (by omega) hall (by omega)).mono ?_; rintro e w1 ⟨rfl, hb1⟩; have hz1 := hb1.size; (repeat (first | rw [World.size_alloc] at hz1 | rw [World.size_drew] at hz1 | rw [World.heap_drewN] at hz1 | rw [World.size_setCell] at hz1)); have hB : Below w.heap.size w w1 := Below.trans (by (repeat' (first | (with_reducible exact Below.refl _ _) | (with_reducible assumption) | (with_reducible refine below_drewN ?_ _) | (with_reducible refine Below.alloc ?_ ?_ _) | (with_reducible refine Below.drew ?_) | (with_reducible refine Below.setCell ?_ ?_ _) | go_size))) (hb1.mono (by go_size)); have hL1 := hb1; clear hb1; obtain ⟨hc1, hf1⟩ := bcell hL1)
      go_returns
      exact ⟨by rw [HS.out]; rfl, by (repeat' (first | (with_reducible exact Below.refl _ _) | (with_reducible assumption) | (with_reducible refine below_drewN ?_ _) | (with_reducible refine Below.alloc ?_ ?_ _) | (with_reducible refine Below.drew ?_) | (with_reducible refine Below.setCell ?_ ?_ _) | go_size))⟩
theorem specPipe0_c {B : Nat} (A : Option Addr) (c : Nat) (xs : List (Int × Int)) (w : World) (h : RdP w B A xs) (hBs : B ≤ w.heap.size) (hm : xs.length ≤ 4611686018427387904) : Calls Try.prog 51 #[.slice A xs.length c] w fun e w' => e = .returned (.bool (goodPs xs)) ∧ Below w.heap.size w w' := by
  go_enter Try.func51, Try.ntmps51
  go_wp2
  go_loopw [3] (fun i wr => ∃ k : Nat, k ≤ xs.length ∧ k ≤ 9 ∧ i = .int .i64 k ∧ (∀ j, j < k → okAt xs j = true) ∧ Below w.heap.size w wr) (fun i _ => xs.length - (intOf i).toNat)
  case atStart => exact ⟨0, by omega, by omega, rfl, fun j hj => absurd hj (by omega), by (repeat' (first | (with_reducible exact Below.refl _ _) | (with_reducible assumption) | (with_reducible refine below_drewN ?_ _) | (with_reducible refine Below.alloc ?_ ?_ _) | (with_reducible refine Below.drew ?_) | (with_reducible refine Below.setCell ?_ ?_ _) | go_size))⟩
  case round =>
    obtain ⟨k, hk, hk9, rfl, hno, hB⟩ := hrel
    have hsz := hB.size
    by_cases hlt : k < xs.length
    · have hi : (k : Int) < (xs.length : Int) := by omega
      by_cases hk8 : k ≤ 8
      · have h' := h.below (hB.mono hBs)
        obtain ⟨b, off, x, y, rfl, hx, hb, hc0, hc1⟩ := h'.at_ hlt
        have hi8 : (k : Int) ≤ 8 := by omega
        have hbw : b < wr.heap.size := by omega
        have hcp := l15Single_c x y
        cases hp : okP x y
        all_goals
          simp only [hp] at hcp
          have HCP := Lib.hid hcp
          clear hcp
        · have hr : goodPs xs = false := goodPs_at (allAt_no hlt (okAt_bad hx hp))
          have HR := Lib.hid hr
          clear hno hx h h' hr
          go_wp2
          (refine wp_region_after (by kernel_rfl) (by kernel_rfl) (fun hAf => ?_); (repeat (go_big_quiet_step (first | (go_at_call 52; exact callsAfter (HCP.out _))))); refine wpQuiet_nil ?_; intro w1 hw'; have hb1 := after_out hw'; clear hw' hAf; have hz1 := hb1.size; (repeat (first | rw [World.size_alloc] at hz1 | rw [World.size_drew] at hz1 | rw [World.heap_drewN] at hz1 | rw [World.size_setCell] at hz1)); have hB : Below w.heap.size w w1 := Below.trans (by (repeat' (first | (with_reducible exact Below.refl _ _) | (with_reducible assumption) | (with_reducible refine below_drewN ?_ _) | (with_reducible refine Below.alloc ?_ ?_ _) | (with_reducible refine Below.drew ?_) | (with_reducible refine Below.setCell ?_ ?_ _) | go_size))) (hb1.mono (by go_size)); have hL1 := hb1; clear hb1; obtain ⟨hc1, hf1⟩ := bcell hL1)
          go_wp2
          go_returns
          exact ⟨by rw [HR.out]; rfl, by (repeat' (first | (with_reducible exact Below.refl _ _) | (with_reducible assumption) | (with_reducible refine below_drewN ?_ _) | (with_reducible refine Below.alloc ?_ ?_ _) | (with_reducible refine Below.drew ?_) | (with_reducible refine Below.setCell ?_ ?_ _) | go_size))⟩
        · cases k with
          | zero =>
            rw [Nat.zero_mul, Nat.add_zero] at hc0 hc1
            have ha := okAt_first hx hp
            have HA := Lib.hid ha
            clear hno hx h h' ha
            go_wp2
            (refine wp_region_after (by kernel_rfl) (by kernel_rfl) (fun hAf => ?_); (repeat (go_big_quiet_step (first | (go_at_call 52; exact callsAfter (HCP.out _))))); refine wpQuiet_nil ?_; intro w1 hw'; have hb1 := after_out hw'; clear hw' hAf; have hz1 := hb1.size; (repeat (first | rw [World.size_alloc] at hz1 | rw [World.size_drew] at hz1 | rw [World.heap_drewN] at hz1 | rw [World.size_setCell] at hz1)); have hB : Below w.heap.size w w1 := Below.trans (by (repeat' (first | (with_reducible exact Below.refl _ _) | (with_reducible assumption) | (with_reducible refine below_drewN ?_ _) | (with_reducible refine Below.alloc ?_ ?_ _) | (with_reducible refine Below.drew ?_) | (with_reducible refine Below.setCell ?_ ?_ _) | go_size))) (hb1.mono (by go_size)); have hL1 := hb1; clear hb1; obtain ⟨hc1, hf1⟩ := bcell hL1)
            go_wp2
            go_roundw
            case rel => exact ⟨1, by omega, by omega, by go_num, fun j hj => by obtain rfl : j = 0 := by omega
                                                                                exact HA.out, by (repeat' (first | (with_reducible exact Below.refl _ _) | (with_reducible assumption) | (with_reducible refine below_drewN ?_ _) | (with_reducible refine Below.alloc ?_ ?_ _) | (with_reducible refine Below.drew ?_) | (with_reducible refine Below.setCell ?_ ?_ _) | go_size))⟩
            case measure => simp [intOf]; omega
          | succ m =>
            obtain ⟨b2, off2, x', y', hA', hy, hb2, hd0, hd1⟩ := h'.at_ (k := m) (by omega)
            simp only [Option.some.injEq, Addr.mk.injEq, and_true] at hA'
            obtain ⟨rfl, rfl⟩ := hA'
            have wr1 : IntKind.i64.wrap ((m : Int) + 1 - 1) = m := by rw [IntWalk.i64_in _ (by omega)]; omega
            have hi2 : (m : Int) < (xs.length : Int) := by omega
            by_cases hq : y' = y
            · have hr : goodPs xs = false := goodPs_at (allAt_no hlt (okAt_same hx hy hq))
              have HR := Lib.hid hr
              clear hno hx hy h h' hr
              go_wp2
              (refine wp_region_after (by kernel_rfl) (by kernel_rfl) (fun hAf => ?_); (repeat (go_big_quiet_step (first | (go_at_call 52; exact callsAfter (HCP.out _))))); refine wpQuiet_nil ?_; intro w1 hw'; have hb1 := after_out hw'; clear hw' hAf; have hz1 := hb1.size; (repeat (first | rw [World.size_alloc] at hz1 | rw [World.size_drew] at hz1 | rw [World.heap_drewN] at hz1 | rw [World.size_setCell] at hz1)); have hB : Below w.heap.size w w1 := Below.trans (by (repeat' (first | (with_reducible exact Below.refl _ _) | (with_reducible assumption) | (with_reducible refine below_drewN ?_ _) | (with_reducible refine Below.alloc ?_ ?_ _) | (with_reducible refine Below.drew ?_) | (with_reducible refine Below.setCell ?_ ?_ _) | go_size))) (hb1.mono (by go_size)); have hL1 := hb1; clear hb1; obtain ⟨hc1, hf1⟩ := bcell hL1)
              go_wp2
              go_returns
              exact ⟨by rw [HR.out]; rfl, by (repeat' (first | (with_reducible exact Below.refl _ _) | (with_reducible assumption) | (with_reducible refine below_drewN ?_ _) | (with_reducible refine Below.alloc ?_ ?_ _) | (with_reducible refine Below.drew ?_) | (with_reducible refine Below.setCell ?_ ?_ _) | go_size))⟩
            · have ha := okAt_other hx hy hp hq
              have HA := Lib.hid ha
              have HNO := Lib.hid hno
              clear hno hx hy h h' ha
              go_wp2
              (refine wp_region_after (by kernel_rfl) (by kernel_rfl) (fun hAf => ?_); (repeat (go_big_quiet_step (first | (go_at_call 52; exact callsAfter (HCP.out _))))); refine wpQuiet_nil ?_; intro w1 hw'; have hb1 := after_out hw'; clear hw' hAf; have hz1 := hb1.size; (repeat (first | rw [World.size_alloc] at hz1 | rw [World.size_drew] at hz1 | rw [World.heap_drewN] at hz1 | rw [World.size_setCell] at hz1)); have hB : Below w.heap.size w w1 := Below.trans (by (repeat' (first | (with_reducible exact Below.refl _ _) | (with_reducible assumption) | (with_reducible refine below_drewN ?_ _) | (with_reducible refine Below.alloc ?_ ?_ _) | (with_reducible refine Below.drew ?_) | (with_reducible refine Below.setCell ?_ ?_ _) | go_size))) (hb1.mono (by go_size)); have hL1 := hb1; clear hb1; obtain ⟨hc1, hf1⟩ := bcell hL1)
              go_wp2
              go_roundw
              case rel => exact ⟨m + 1 + 1, by omega, by omega, by go_num, fun j hj => by
                by_cases e : j = m + 1
                · subst e; exact HA.out
                · exact HNO.out j (by omega), by (repeat' (first | (with_reducible exact Below.refl _ _) | (with_reducible assumption) | (with_reducible refine below_drewN ?_ _) | (with_reducible refine Below.alloc ?_ ?_ _) | (with_reducible refine Below.drew ?_) | (with_reducible refine Below.setCell ?_ ?_ _) | go_size))⟩
              case measure => simp [intOf]; omega
      · have hi8 : ¬ (k : Int) ≤ 8 := by omega
        have hl : inB xs.length 1 8 = false := inB_hi (by omega)
        have hr := goodPs_len hl
        have HR := Lib.hid hr
        clear hno h hr
        go_wp2_with (go_at_call 59; refine (l1In_c _ _ _ _).mono ?_; rintro e w' ⟨rfl, rfl⟩)
        go_returns
        exact ⟨by rw [HR.out]; rfl, by (repeat' (first | (with_reducible exact Below.refl _ _) | (with_reducible assumption) | (with_reducible refine below_drewN ?_ _) | (with_reducible refine Below.alloc ?_ ?_ _) | (with_reducible refine Below.drew ?_) | (with_reducible refine Below.setCell ?_ ?_ _) | go_size))⟩
    · obtain rfl : k = xs.length := by omega
      cases hl : inB xs.length 1 8
      · have hr := goodPs_len hl
        have HR := Lib.hid hr
        clear hno h hr
        go_wp2_with (go_at_call 59; refine (l1In_c _ _ _ _).mono ?_; rintro e w' ⟨rfl, rfl⟩)
        go_returns
        exact ⟨by rw [HR.out]; rfl, by (repeat' (first | (with_reducible exact Below.refl _ _) | (with_reducible assumption) | (with_reducible refine below_drewN ?_ _) | (with_reducible refine Below.alloc ?_ ?_ _) | (with_reducible refine Below.drew ?_) | (with_reducible refine Below.setCell ?_ ?_ _) | go_size))⟩
      · have hall : allAt xs = true := allAt_yes hno
        have hs := goodPs_sum hl hall
        have HS := Lib.hid hs
        have hl8 := inB_out hl
        clear hno hs
        go_wp2_with (first | (go_at_call 59; refine (l1In_c _ _ _ _).mono ?_; rintro e w' ⟨rfl, rfl⟩) | (go_at_call 53; refine (l15Sum_c _ _ _ _ (h.below (hB.mono hBs)) hall (by omega)).mono ?_; rintro e w' ⟨rfl, nd, rfl⟩))
        go_returns
        exact ⟨by rw [HS.out]; rfl, by (repeat' (first | (with_reducible exact Below.refl _ _) | (with_reducible assumption) | (with_reducible refine below_drewN ?_ _) | (with_reducible refine Below.alloc ?_ ?_ _) | (with_reducible refine Below.drew ?_) | (with_reducible refine Below.setCell ?_ ?_ _) | go_size))⟩
theorem specPipe_c {B : Nat} (A : Option Addr) (c : Nat) (xs : List (Int × Int)) (w : World) (h : RdP w B A xs) (hBs : B ≤ w.heap.size) (hm : xs.length ≤ 4611686018427387904) : Calls Try.prog 20 #[.slice A xs.length c] w fun e w' => e = .returned (.bool (goodPs xs)) ∧ Below w.heap.size w w' := by
  go_enter Try.func20, Try.ntmps20
  go_wp2_with fail; (go_at_call 51; refine (specPipe0_c _ _ _ _ h hBs hm).mono ?_; rintro e w1 ⟨rfl, hb1⟩; have hz1 := hb1.size; (repeat (first | rw [World.size_alloc] at hz1 | rw [World.size_drew] at hz1 | rw [World.heap_drewN] at hz1 | rw [World.size_setCell] at hz1)); have hB : Below w.heap.size w w1 := Below.trans (by (repeat' (first | (with_reducible exact Below.refl _ _) | (with_reducible assumption) | (with_reducible refine below_drewN ?_ _) | (with_reducible refine Below.alloc ?_ ?_ _) | (with_reducible refine Below.drew ?_) | (with_reducible refine Below.setCell ?_ ?_ _) | go_size))) (hb1.mono (by go_size)); have hL1 := hb1; clear hb1; obtain ⟨hc1, hf1⟩ := bcell hL1)
  go_wp2
  (go_returns; exact ⟨by first | rfl | (simp; done) | (simp; omega), by (repeat' (first | (with_reducible exact Below.refl _ _) | (with_reducible assumption) | (with_reducible refine below_drewN ?_ _) | (with_reducible refine Below.alloc ?_ ?_ _) | (with_reducible refine Below.drew ?_) | (with_reducible refine Below.setCell ?_ ?_ _) | go_size))⟩)
end Go.Proofs.Ytjpijcmfnckmaaa

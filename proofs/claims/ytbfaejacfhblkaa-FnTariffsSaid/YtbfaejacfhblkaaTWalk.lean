/- Contracts: valid tariffs. -/
import Derived.Test.YtbfaejacfhblkaaPairs
import Derived.Test.YtbfaejacfhblkaaAfter
import Derived.Test.YtbfaejacfhblkaaTPlain
namespace Go.Proofs.Ytbfaejacfhblkaa
open Go.RowKit

set_option maxHeartbeats 1000000 in
theorem implTar_c {B : Nat} (F : Int) (A : Option Addr) (c : Nat) (xs : List (Int × Int)) (w : World) (h : RdP w B A xs) (hBs : B ≤ w.heap.size) (hm : xs.length ≤ 4611686018427387904) : Calls Try.prog 18 #[.agg #[.int .i64 F, .slice A xs.length c]] w fun e w' => e = .returned (.bool (goodT F xs)) ∧ Below w.heap.size w w' := by
  cases h1 : inB F 0 100000
  · rw [goodT_fee h1]
    go_enter Try.func18, Try.ntmps18
    go_wp2_with (go_at_call 55; refine (inside_c _ _ _ _).mono ?_; rintro e w' ⟨rfl, rfl⟩)
    (go_returns; exact ⟨by first | rfl | (simp; done) | (simp; omega), by (repeat' (first | (with_reducible exact Below.refl _ _) | (with_reducible assumption) | (with_reducible refine below_drewN ?_ _) | (with_reducible refine Below.alloc ?_ ?_ _) | (with_reducible refine Below.drew ?_) | (with_reducible refine Below.setCell ?_ ?_ _) | go_size))⟩)
  cases h2 : inB xs.length 1 5
  · rw [goodT_len h2]
    go_enter Try.func18, Try.ntmps18
    go_wp2_with (go_at_call 55; refine (inside_c _ _ _ _).mono ?_; rintro e w' ⟨rfl, rfl⟩)
    (go_returns; exact ⟨by first | rfl | (simp; done) | (simp; omega), by (repeat' (first | (with_reducible exact Below.refl _ _) | (with_reducible assumption) | (with_reducible refine below_drewN ?_ _) | (with_reducible refine Below.alloc ?_ ?_ _) | (with_reducible refine Below.drew ?_) | (with_reducible refine Below.setCell ?_ ?_ _) | go_size))⟩)
  have hlb := inB_out h2
  go_enter Try.func18, Try.ntmps18
  go_wp2_with (go_at_call 55; refine (inside_c _ _ _ _).mono ?_; rintro e w' ⟨rfl, rfl⟩)
  go_loopw [3, 4, 19] (fun _ _ i wr => ∃ k : Nat, k ≤ xs.length ∧ i = .int .i64 k ∧ (∀ j, j < k → okT xs j = true) ∧ Below w.heap.size w wr ∧ w.heap.size < wr.heap.size ∧ wr.cell? ⟨w.heap.size, 1, none⟩ = some (.slice A xs.length c)) (fun _ _ i _ => xs.length - (intOf i).toNat)
  case atStart => exact ⟨0, by omega, rfl, fun j hj => absurd hj (by omega), by (repeat' (first | (with_reducible exact Below.refl _ _) | (with_reducible assumption) | (with_reducible refine below_drewN ?_ _) | (with_reducible refine Below.alloc ?_ ?_ _) | (with_reducible refine Below.drew ?_) | (with_reducible refine Below.setCell ?_ ?_ _) | go_size)), by simp, by simp [go_sem]⟩
  case round =>
    obtain ⟨k, hk, rfl, hno, hB, hsz, k1⟩ := hrel
    by_cases hlt : k < xs.length
    · have h' := h.below (hB.mono hBs)
      obtain ⟨b, off, x, y, rfl, hx, hb, hc0, hc1⟩ := h'.at_ hlt
      have hi : (k : Int) < (xs.length : Int) := by omega
      have hbw : b < wr.heap.size := by omega
      cases hp : inB x 1 100000
      · have hr : goodT F xs = false := goodT_at (allK_no hlt (okT_bad1 hx hp))
        have HR := Lib.hid hr
        clear hno hx h h' hr
        go_wp2
        go_quiet ((go_at_call 55; exact Calls.quiet_of_same ((inside_c _ _ _ _).mono fun _ _ hh => ⟨hh.1, hh.2.symm⟩)))
        go_wp2
        go_returns
        exact ⟨by rw [HR.out]; rfl, by (repeat' (first | (with_reducible exact Below.refl _ _) | (with_reducible assumption) | (with_reducible refine below_drewN ?_ _) | (with_reducible refine Below.alloc ?_ ?_ _) | (with_reducible refine Below.drew ?_) | (with_reducible refine Below.setCell ?_ ?_ _) | go_size))⟩
      · cases hp2 : inB y 0 1000
        · have hr : goodT F xs = false := goodT_at (allK_no hlt (okT_bad2 hx hp2))
          have HR := Lib.hid hr
          clear hno hx h h' hr
          go_wp2
          go_quiet ((go_at_call 55; exact Calls.quiet_of_same ((inside_c _ _ _ _).mono fun _ _ hh => ⟨hh.1, hh.2.symm⟩)))
          go_wp2
          go_returns
          exact ⟨by rw [HR.out]; rfl, by (repeat' (first | (with_reducible exact Below.refl _ _) | (with_reducible assumption) | (with_reducible refine below_drewN ?_ _) | (with_reducible refine Below.alloc ?_ ?_ _) | (with_reducible refine Below.drew ?_) | (with_reducible refine Below.setCell ?_ ?_ _) | go_size))⟩
        · cases k with
          | zero =>
            rw [Nat.zero_mul, Nat.add_zero] at hc0 hc1
            have HA := Lib.hid (okT_first hx hp hp2)
            clear hno hx h h'
            go_wp2
            go_quiet ((go_at_call 55; exact Calls.quiet_of_same ((inside_c _ _ _ _).mono fun _ _ hh => ⟨hh.1, hh.2.symm⟩)))
            go_wp2
            go_roundw
            case rel => exact ⟨1, by omega, by go_num, fun j hj => by obtain rfl : j = 0 := by omega
                                                                      exact HA.out, by (repeat' (first | (with_reducible exact Below.refl _ _) | (with_reducible assumption) | (with_reducible refine below_drewN ?_ _) | (with_reducible refine Below.alloc ?_ ?_ _) | (with_reducible refine Below.drew ?_) | (with_reducible refine Below.setCell ?_ ?_ _) | go_size)), by simp; omega, by simp [*, go_sem]⟩
            case measure => simp [intOf]; omega
          | succ m =>
            obtain ⟨b2, off2, x', y', hA', hy, hb2, hd0, hd1⟩ := h'.at_ (k := m) (by omega)
            simp only [Option.some.injEq, Addr.mk.injEq, and_true] at hA'
            obtain ⟨rfl, rfl⟩ := hA'
            have wr1 : IntKind.i64.wrap ((m : Int) + 1 - 1) = m := by rw [IntWalk.i64_in _ (by omega)]; omega
            have hi2 : (m : Int) < (xs.length : Int) := by omega
            by_cases hq : x ≤ x'
            · have hr : goodT F xs = false := goodT_at (allK_no hlt (okT_bad3 hx hy hq))
              have HR := Lib.hid hr
              clear hno hx hy h h' hr
              go_wp2
              go_quiet ((go_at_call 55; exact Calls.quiet_of_same ((inside_c _ _ _ _).mono fun _ _ hh => ⟨hh.1, hh.2.symm⟩)))
              go_wp2
              go_returns
              exact ⟨by rw [HR.out]; rfl, by (repeat' (first | (with_reducible exact Below.refl _ _) | (with_reducible assumption) | (with_reducible refine below_drewN ?_ _) | (with_reducible refine Below.alloc ?_ ?_ _) | (with_reducible refine Below.drew ?_) | (with_reducible refine Below.setCell ?_ ?_ _) | go_size))⟩
            · have HA := Lib.hid (okT_next hx hy hp hp2 hq)
              have HNO := Lib.hid hno
              clear hno hx hy h h'
              go_wp2
              go_quiet ((go_at_call 55; exact Calls.quiet_of_same ((inside_c _ _ _ _).mono fun _ _ hh => ⟨hh.1, hh.2.symm⟩)))
              go_wp2
              go_roundw
              case rel => exact ⟨m + 1 + 1, by omega, by go_num, fun j hj => by
                by_cases e : j = m + 1
                · subst e; exact HA.out
                · exact HNO.out j (by omega), by (repeat' (first | (with_reducible exact Below.refl _ _) | (with_reducible assumption) | (with_reducible refine below_drewN ?_ _) | (with_reducible refine Below.alloc ?_ ?_ _) | (with_reducible refine Below.drew ?_) | (with_reducible refine Below.setCell ?_ ?_ _) | go_size)), by simp; omega, by simp [*, go_sem]⟩
              case measure => simp [intOf]; omega
    · obtain rfl : k = xs.length := by omega
      have hall := goodT_end h1 h2 (allK_yes hno)
      obtain ⟨m, hml⟩ : ∃ m, xs.length = m + 1 := ⟨xs.length - 1, by omega⟩
      obtain ⟨b, off, x, y, rfl, hx, hb, hc0, hc1⟩ := (h.below (hB.mono hBs)).at_ (k := m) (by omega)
      rw [hml, Nat.add_sub_cancel, up_of hx] at hall
      have wr1 : IntKind.i64.wrap ((xs.length : Int) - 1) = (m : Int) := by rw [IntWalk.i64_in _ (by omega)]; omega
      have hmi : (m : Int) < (xs.length : Int) := by omega
      have HA := Lib.hid hall
      clear hno h hall hx hml
      go_wp2
      go_returns
      exact ⟨by rw [HA.out]; by_cases hq : x = 100000 <;> simp [hq], by (repeat' (first | (with_reducible exact Below.refl _ _) | (with_reducible assumption) | (with_reducible refine below_drewN ?_ _) | (with_reducible refine Below.alloc ?_ ?_ _) | (with_reducible refine Below.drew ?_) | (with_reducible refine Below.setCell ?_ ?_ _) | go_size))⟩
set_option maxHeartbeats 1500000 in
theorem specTar0_c {B : Nat} (F : Int) (A : Option Addr) (c : Nat) (xs : List (Int × Int)) (w : World) (h : RdP w B A xs) (hBs : B ≤ w.heap.size) (hm : xs.length ≤ 4611686018427387904) : Calls Try.prog 53 #[.agg #[.int .i64 F, .slice A xs.length c]] w fun e w' => e = .returned (.bool (goodT F xs)) ∧ Below w.heap.size w w' := by
  cases h1 : inB F 0 100000
  · rw [goodT_fee h1]
    go_enter Try.func53, Try.ntmps53
    go_wp2_with (go_at_call 65; refine (l1In_c _ _ _ _).mono ?_; rintro e w' ⟨rfl, rfl⟩)
    (go_returns; exact ⟨by first | rfl | (simp; done) | (simp; omega), by (repeat' (first | (with_reducible exact Below.refl _ _) | (with_reducible assumption) | (with_reducible refine below_drewN ?_ _) | (with_reducible refine Below.alloc ?_ ?_ _) | (with_reducible refine Below.drew ?_) | (with_reducible refine Below.setCell ?_ ?_ _) | go_size))⟩)
  cases h2 : inB xs.length 1 5
  · rw [goodT_len h2]
    go_enter Try.func53, Try.ntmps53
    go_wp2_with (go_at_call 65; refine (l1In_c _ _ _ _).mono ?_; rintro e w' ⟨rfl, rfl⟩)
    (go_returns; exact ⟨by first | rfl | (simp; done) | (simp; omega), by (repeat' (first | (with_reducible exact Below.refl _ _) | (with_reducible assumption) | (with_reducible refine below_drewN ?_ _) | (with_reducible refine Below.alloc ?_ ?_ _) | (with_reducible refine Below.drew ?_) | (with_reducible refine Below.setCell ?_ ?_ _) | go_size))⟩)
  have hlb := inB_out h2
  obtain ⟨m0, hml⟩ : ∃ m, xs.length = m + 1 := ⟨xs.length - 1, by omega⟩
  obtain ⟨b0, off0, x0, y0, rfl, hx0, hb0, hz0, hz1⟩ := h.at_ (k := m0) (by omega)
  have wr0 : IntKind.i64.wrap ((xs.length : Int) - 1) = (m0 : Int) := by rw [IntWalk.i64_in _ (by omega)]; omega
  have hmi : (m0 : Int) < (xs.length : Int) := by omega
  have hlast : upT xs (xs.length - 1) = x0 := by rw [hml, Nat.add_sub_cancel, up_of hx0]
  have HL := Lib.hid hlast
  clear hlast hx0
  by_cases h3 : x0 = 100000
  · subst h3
    have h3 := HL.out
    have H3 := Lib.hid h3
    clear hml h3
    go_enter Try.func53, Try.ntmps53
    go_wp2_with (go_at_call 65; refine (l1In_c _ _ _ _).mono ?_; rintro e w' ⟨rfl, rfl⟩)
    go_loopw [4, 5] (fun i _ wr => ∃ k : Nat, k ≤ xs.length ∧ i = .int .i64 k ∧ (∀ j, j < k → okS xs j = true) ∧ Below w.heap.size w wr ∧ w.heap.size < wr.heap.size ∧ wr.cell? ⟨w.heap.size, 1, none⟩ = some (.slice (some ⟨b0, off0, none⟩) xs.length c)) (fun i _ _ => xs.length - (intOf i).toNat)
    case atStart => exact ⟨0, by omega, rfl, fun j hj => absurd hj (by omega), by (repeat' (first | (with_reducible exact Below.refl _ _) | (with_reducible assumption) | (with_reducible refine below_drewN ?_ _) | (with_reducible refine Below.alloc ?_ ?_ _) | (with_reducible refine Below.drew ?_) | (with_reducible refine Below.setCell ?_ ?_ _) | go_size)), by simp, by simp [go_sem]⟩
    case round =>
      clear hz0 hz1 wr0 hmi
      have h3 := H3.out
      have HG := Lib.hid (goodT_S h1 h2 h3)
      clear h3
      obtain ⟨k, hk, rfl, hno, hB, hsz, k1⟩ := hrel
      by_cases hlt : k < xs.length
      · have h' := h.below (hB.mono hBs)
        obtain ⟨b, off, x, y, hA0, hx, hb, hc0, hc1⟩ := h'.at_ hlt
        simp only [Option.some.injEq, Addr.mk.injEq, and_true] at hA0
        obtain ⟨rfl, rfl⟩ := hA0
        have hi : (k : Int) < (xs.length : Int) := by omega
        have hbw : b0 < wr.heap.size := by omega
        by_cases hp : x < 1
        · have hr : goodT F xs = false := HG.out.trans (allK_no hlt (okS_bad1 hx hp))
          have HR := Lib.hid hr
          clear hno hx h h' hr
          go_wp2
          go_quiet ((go_at_call 65; exact Calls.quiet_of_same ((l1In_c _ _ _ _).mono fun _ _ hh => ⟨hh.1, hh.2.symm⟩)))
          go_wp2
          go_returns
          exact ⟨by rw [HR.out]; rfl, by (repeat' (first | (with_reducible exact Below.refl _ _) | (with_reducible assumption) | (with_reducible refine below_drewN ?_ _) | (with_reducible refine Below.alloc ?_ ?_ _) | (with_reducible refine Below.drew ?_) | (with_reducible refine Below.setCell ?_ ?_ _) | go_size))⟩
        · have hpd : decide (x < 1) = false := by simp; omega
          cases hp2 : inB y 0 1000
          · have hr : goodT F xs = false := HG.out.trans (allK_no hlt (okS_bad2 hx hp2))
            have HR := Lib.hid hr
            clear hno hx h h' hr
            go_wp2
            go_quiet ((go_at_call 65; exact Calls.quiet_of_same ((l1In_c _ _ _ _).mono fun _ _ hh => ⟨hh.1, hh.2.symm⟩)))
            go_wp2
            go_returns
            exact ⟨by rw [HR.out]; rfl, by (repeat' (first | (with_reducible exact Below.refl _ _) | (with_reducible assumption) | (with_reducible refine below_drewN ?_ _) | (with_reducible refine Below.alloc ?_ ?_ _) | (with_reducible refine Below.drew ?_) | (with_reducible refine Below.setCell ?_ ?_ _) | go_size))⟩
          · cases k with
            | zero =>
              rw [Nat.zero_mul, Nat.add_zero] at hc0 hc1
              have HA := Lib.hid (okS_first hx hp hp2)
              clear hno hx h h'
              go_wp2
              go_quiet ((go_at_call 65; exact Calls.quiet_of_same ((l1In_c _ _ _ _).mono fun _ _ hh => ⟨hh.1, hh.2.symm⟩)))
              go_wp2
              go_roundw
              case rel => exact ⟨1, by omega, by go_num, fun j hj => by obtain rfl : j = 0 := by omega
                                                                        exact HA.out, by (repeat' (first | (with_reducible exact Below.refl _ _) | (with_reducible assumption) | (with_reducible refine below_drewN ?_ _) | (with_reducible refine Below.alloc ?_ ?_ _) | (with_reducible refine Below.drew ?_) | (with_reducible refine Below.setCell ?_ ?_ _) | go_size)), by simp; omega, by simp [*, go_sem]⟩
              case measure => simp [intOf]; omega
            | succ m =>
              obtain ⟨b2, off2, x', y', hA', hy, hb2, hd0, hd1⟩ := h'.at_ (k := m) (by omega)
              simp only [Option.some.injEq, Addr.mk.injEq, and_true] at hA'
              obtain ⟨rfl, rfl⟩ := hA'
              have wr1 : IntKind.i64.wrap ((m : Int) + 1 - 1) = m := by rw [IntWalk.i64_in _ (by omega)]; omega
              have hi2 : (m : Int) < (xs.length : Int) := by omega
              by_cases hq : x ≤ x'
              · have hr : goodT F xs = false := HG.out.trans (allK_no hlt (okS_bad3 hx hy hq))
                have HR := Lib.hid hr
                clear hno hx hy h h' hr
                go_wp2
                go_quiet ((go_at_call 65; exact Calls.quiet_of_same ((l1In_c _ _ _ _).mono fun _ _ hh => ⟨hh.1, hh.2.symm⟩)))
                go_wp2
                go_returns
                exact ⟨by rw [HR.out]; rfl, by (repeat' (first | (with_reducible exact Below.refl _ _) | (with_reducible assumption) | (with_reducible refine below_drewN ?_ _) | (with_reducible refine Below.alloc ?_ ?_ _) | (with_reducible refine Below.drew ?_) | (with_reducible refine Below.setCell ?_ ?_ _) | go_size))⟩
              · have HA := Lib.hid (okS_next hx hy hp hp2 hq)
                have HNO := Lib.hid hno
                clear hno hx hy h h'
                go_wp2
                go_quiet ((go_at_call 65; exact Calls.quiet_of_same ((l1In_c _ _ _ _).mono fun _ _ hh => ⟨hh.1, hh.2.symm⟩)))
                go_wp2
                go_roundw
                case rel => exact ⟨m + 1 + 1, by omega, by go_num, fun j hj => by
                  by_cases e : j = m + 1
                  · subst e; exact HA.out
                  · exact HNO.out j (by omega), by (repeat' (first | (with_reducible exact Below.refl _ _) | (with_reducible assumption) | (with_reducible refine below_drewN ?_ _) | (with_reducible refine Below.alloc ?_ ?_ _) | (with_reducible refine Below.drew ?_) | (with_reducible refine Below.setCell ?_ ?_ _) | go_size)), by simp; omega, by simp [*, go_sem]⟩
                case measure => simp [intOf]; omega
      · obtain rfl : k = xs.length := by omega
        have hall := HG.out.trans (allK_yes hno)
        have HA := Lib.hid hall
        clear hno h hall
        go_wp2
        go_returns
        exact ⟨by rw [HA.out]; rfl, by (repeat' (first | (with_reducible exact Below.refl _ _) | (with_reducible assumption) | (with_reducible refine below_drewN ?_ _) | (with_reducible refine Below.alloc ?_ ?_ _) | (with_reducible refine Below.drew ?_) | (with_reducible refine Below.setCell ?_ ?_ _) | go_size))⟩
  · have hr : goodT F xs = false := goodT_last (by rw [HL.out]; exact h3)
    rw [hr]
    clear h hml hr
    go_enter Try.func53, Try.ntmps53
    go_wp2_with (go_at_call 65; refine (l1In_c _ _ _ _).mono ?_; rintro e w' ⟨rfl, rfl⟩)
    (go_returns; exact ⟨by first | rfl | (simp; done) | (simp; omega), by (repeat' (first | (with_reducible exact Below.refl _ _) | (with_reducible assumption) | (with_reducible refine below_drewN ?_ _) | (with_reducible refine Below.alloc ?_ ?_ _) | (with_reducible refine Below.drew ?_) | (with_reducible refine Below.setCell ?_ ?_ _) | go_size))⟩)
theorem specTar_c {B : Nat} (F : Int) (A : Option Addr) (c : Nat) (xs : List (Int × Int)) (w : World) (h : RdP w B A xs) (hBs : B ≤ w.heap.size) (hm : xs.length ≤ 4611686018427387904) : Calls Try.prog 16 #[.agg #[.int .i64 F, .slice A xs.length c]] w fun e w' => e = .returned (.bool (goodT F xs)) ∧ Below w.heap.size w w' := by
  go_enter Try.func16, Try.ntmps16
  go_wp2_with fail; (go_at_call 53; refine (specTar0_c _ _ _ _ _ (h.alloc hBs _) (by simp; omega) hm).mono ?_; rintro e w1 ⟨rfl, hb1⟩; have hz1 := hb1.size; (repeat (first | rw [World.size_alloc] at hz1 | rw [World.size_drew] at hz1 | rw [World.heap_drewN] at hz1 | rw [World.size_setCell] at hz1)); have hB : Below w.heap.size w w1 := Below.trans (by (repeat' (first | (with_reducible exact Below.refl _ _) | (with_reducible assumption) | (with_reducible refine below_drewN ?_ _) | (with_reducible refine Below.alloc ?_ ?_ _) | (with_reducible refine Below.drew ?_) | (with_reducible refine Below.setCell ?_ ?_ _) | go_size))) (hb1.mono (by go_size)); have hL1 := hb1; clear hb1; obtain ⟨hc1, hf1⟩ := bcell hL1)
  go_wp2
  (go_returns; exact ⟨by first | rfl | (simp; done) | (simp; omega), by (repeat' (first | (with_reducible exact Below.refl _ _) | (with_reducible assumption) | (with_reducible refine below_drewN ?_ _) | (with_reducible refine Below.alloc ?_ ?_ _) | (with_reducible refine Below.drew ?_) | (with_reducible refine Below.setCell ?_ ?_ _) | go_size))⟩)
end Go.Proofs.Ytbfaejacfhblkaa

/- Contracts: valid parcels, sums, valid pipefuls. -/
import Derived.Test.YtjpijcmfnckmaaaPairs
import Derived.Test.YtjpijcmfnckmaaaPPlain
namespace Go.Proofs.Ytjpijcmfnckmaaa
open Go.RowKit

theorem l15Single_c (V G : Int) (w : World) : Calls Try.prog 52 #[.agg #[.int .i64 V, .int .i64 G]] w fun e w' => e = .returned (.bool (okP V G)) ∧ Below w.heap.size w w' := by
  cases hV : inB V 1 1000
  · have e : okP V G = false := by simp [okP, hV]
    rw [e]
    go_enter Try.func52, Try.ntmps52
    go_wp2_with (go_at_call 59; refine (l1In_c _ _ _ _).mono ?_; rintro e w' ⟨rfl, rfl⟩)
    (go_returns; exact ⟨by first | rfl | (simp; done) | (simp; omega), by (repeat' (first | (with_reducible exact Below.refl _ _) | (with_reducible assumption) | (with_reducible refine below_drewN ?_ _) | (with_reducible refine Below.alloc ?_ ?_ _) | (with_reducible refine Below.drew ?_) | (with_reducible refine Below.setCell ?_ ?_ _) | go_size))⟩)
  · have e : okP V G = inB G 0 10000 := by simp [okP, hV]
    rw [e]
    go_enter Try.func52, Try.ntmps52
    go_wp2_with (go_at_call 59; refine (l1In_c _ _ _ _).mono ?_; rintro e w' ⟨rfl, rfl⟩)
    (go_returns; exact ⟨by first | rfl | (simp; done) | (simp; omega), by (repeat' (first | (with_reducible exact Below.refl _ _) | (with_reducible assumption) | (with_reducible refine below_drewN ?_ _) | (with_reducible refine Below.alloc ?_ ?_ _) | (with_reducible refine Below.drew ?_) | (with_reducible refine Below.setCell ?_ ?_ _) | go_size))⟩)
theorem isParcel_c (V G : Int) (w : World) : Calls Try.prog 48 #[.agg #[.int .i64 V, .int .i64 G]] w fun e w' => e = .returned (.bool (okP V G)) ∧ Below w.heap.size w w' := by
  cases hV : inB V 1 1000
  · have e : okP V G = false := by simp [okP, hV]
    rw [e]
    go_enter Try.func48, Try.ntmps48
    go_wp2_with (go_at_call 56; refine (inside_c _ _ _ _).mono ?_; rintro e w' ⟨rfl, rfl⟩)
    (go_returns; exact ⟨by first | rfl | (simp; done) | (simp; omega), by (repeat' (first | (with_reducible exact Below.refl _ _) | (with_reducible assumption) | (with_reducible refine below_drewN ?_ _) | (with_reducible refine Below.alloc ?_ ?_ _) | (with_reducible refine Below.drew ?_) | (with_reducible refine Below.setCell ?_ ?_ _) | go_size))⟩)
  · have e : okP V G = inB G 0 10000 := by simp [okP, hV]
    rw [e]
    go_enter Try.func48, Try.ntmps48
    go_wp2_with (go_at_call 56; refine (inside_c _ _ _ _).mono ?_; rintro e w' ⟨rfl, rfl⟩)
    (go_returns; exact ⟨by first | rfl | (simp; done) | (simp; omega), by (repeat' (first | (with_reducible exact Below.refl _ _) | (with_reducible assumption) | (with_reducible refine below_drewN ?_ _) | (with_reducible refine Below.alloc ?_ ?_ _) | (with_reducible refine Below.drew ?_) | (with_reducible refine Below.setCell ?_ ?_ _) | go_size))⟩)
theorem l15Sum_c {B : Nat} (A : Option Addr) (c : Nat) (xs : List (Int × Int)) (w : World) (h : RdP w B A xs) (hg : allAt xs = true) (hn : xs.length ≤ 8) :
    Calls Try.prog 53 #[.slice A xs.length c] w fun e w' => e = .returned (.tuple #[.int .i64 (sumV xs xs.length), .int .i64 (sumM xs xs.length)]) ∧ ∃ n, w' = w.drewN n := by
  go_enter Try.func53, Try.ntmps53
  go_wp2
  go_loopw [4, 5, 6] (fun v m i wr => ∃ k : Nat, k ≤ xs.length ∧ i = .int .i64 k ∧ v = .int .i64 (sumV xs k) ∧ m = .int .i64 (sumM xs k) ∧ ∃ n, wr = w.drewN n) (fun _ _ i _ => xs.length - (intOf i).toNat)
  case atStart => exact ⟨0, by omega, rfl, rfl, rfl, 0, rfl⟩
  case round =>
    obtain ⟨k, hk, rfl, rfl, rfl, n, rfl⟩ := hrel
    by_cases hlt : k < xs.length
    · have bV := sumV_b hg k hk
      have bM := sumM_b hg k hk
      obtain ⟨b, off, x, y, rfl, hx, hb, hc0, hc1⟩ := h.at_ hlt
      have ok := allAt_xy hg hlt hx
      have mb := mul_b (a := 1000) (b := 10000) (by omega : 0 ≤ x) ok.2.1 ok.2.2.1 ok.2.2.2
      have w0 : IntKind.i64.wrap (x * y) = x * y := IntWalk.i64_in _ (by omega)
      have w1 : IntKind.i64.wrap (sumV xs k + x) = sumV xs k + x := IntWalk.i64_in _ (by omega)
      have w2 : IntKind.i64.wrap (sumM xs k + x * y) = sumM xs k + x * y := IntWalk.i64_in _ (by omega)
      have HV := Lib.hid (sumV_succ hx)
      have HM := Lib.hid (sumM_succ hx)
      have hi : (k : Int) < (xs.length : Int) := by omega
      clear hx h bV bM ok mb hg
      go_wp2
      go_quiet (fail)
      go_wp2
      go_roundw
      case rel => exact ⟨k + 1, by omega, by go_num, by rw [HV.out], by rw [HM.out], _, by first | rfl | exact World.drewN_drewN _ _ _⟩
      case measure => simp [intOf]; omega
    · obtain rfl : k = xs.length := by omega
      clear h hg
      go_wp2
      go_returns
      exact ⟨rfl, _, rfl⟩
theorem volMass_c {B : Nat} (A : Option Addr) (c : Nat) (xs : List (Int × Int)) (w : World) (h : RdP w B A xs) (hBs : B ≤ w.heap.size) (hg : allAt xs = true) (hn : xs.length ≤ 8) :
    Calls Try.prog 49 #[.slice A xs.length c] w fun e w' => e = .returned (.tuple #[.int .i64 (sumV xs xs.length), .int .i64 (sumM xs xs.length)]) ∧ Below w.heap.size w w' := by
  go_enter Try.func49, Try.ntmps49
  go_wp2
  go_loopw [4, 5, 7, 10] (fun v m _ i wr => ∃ k : Nat, k ≤ xs.length ∧ i = .int .i64 k ∧ v = .int .i64 (sumV xs k) ∧ m = .int .i64 (sumM xs k) ∧ Below w.heap.size w wr) (fun _ _ _ i _ => xs.length - (intOf i).toNat)
  case atStart => exact ⟨0, by omega, rfl, rfl, rfl, by (repeat' (first | (with_reducible exact Below.refl _ _) | (with_reducible assumption) | (with_reducible refine below_drewN ?_ _) | (with_reducible refine Below.alloc ?_ ?_ _) | (with_reducible refine Below.drew ?_) | (with_reducible refine Below.setCell ?_ ?_ _) | go_size))⟩
  case round =>
    obtain ⟨k, hk, rfl, rfl, rfl, hB⟩ := hrel
    by_cases hlt : k < xs.length
    · have bV := sumV_b hg k hk
      have bM := sumM_b hg k hk
      have h' := h.below (hB.mono hBs)
      have hsz := hB.size
      obtain ⟨b, off, x, y, rfl, hx, hb, hc0, hc1⟩ := h'.at_ hlt
      have ok := allAt_xy hg hlt hx
      have mb := mul_b (a := 1000) (b := 10000) (by omega : 0 ≤ x) ok.2.1 ok.2.2.1 ok.2.2.2
      have w0 : IntKind.i64.wrap (x * y) = x * y := IntWalk.i64_in _ (by omega)
      have w1 : IntKind.i64.wrap (sumV xs k + x) = sumV xs k + x := IntWalk.i64_in _ (by omega)
      have w2 : IntKind.i64.wrap (sumM xs k + x * y) = sumM xs k + x * y := IntWalk.i64_in _ (by omega)
      have HV := Lib.hid (sumV_succ hx)
      have HM := Lib.hid (sumM_succ hx)
      have hi : (k : Int) < (xs.length : Int) := by omega
      clear hx h h' bV bM ok mb hg
      go_wp2
      go_roundw
      case rel => exact ⟨k + 1, by omega, by go_num, by rw [HV.out], by rw [HM.out], by (repeat' (first | (with_reducible exact Below.refl _ _) | (with_reducible assumption) | (with_reducible refine below_drewN ?_ _) | (with_reducible refine Below.alloc ?_ ?_ _) | (with_reducible refine Below.drew ?_) | (with_reducible refine Below.setCell ?_ ?_ _) | go_size))⟩
      case measure => simp [intOf]; omega
    · obtain rfl : k = xs.length := by omega
      clear h hg
      go_wp2
      go_returns
      exact ⟨rfl, by (repeat' (first | (with_reducible exact Below.refl _ _) | (with_reducible assumption) | (with_reducible refine below_drewN ?_ _) | (with_reducible refine Below.alloc ?_ ?_ _) | (with_reducible refine Below.drew ?_) | (with_reducible refine Below.setCell ?_ ?_ _) | go_size))⟩
end Go.Proofs.Ytjpijcmfnckmaaa

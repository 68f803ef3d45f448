/- Contracts: good schedules, the program. -/
import Derived.Test.YtofcienabddpjaaSRun
namespace Go.Proofs.Ytofcienabddpjaa
open Go.RowKit

theorem sumInts_c {B : Nat} (A : Option Addr) (c : Nat) (ys : List Int) (w : World) (h : RdI w B A ys) (hb : ∀ k, k ≤ ys.length → 0 ≤ sumI ys k ∧ sumI ys k ≤ 1000000000) (hm : ys.length ≤ 60000) :
    Calls Try.prog 62 #[.slice A ys.length c] w fun e w' => e = .returned (.int .i64 (sumI ys ys.length)) ∧ w = w' := by
  go_enter Try.func62, Try.ntmps62
  go_wp2
  go_loop [3, 5, 8] (fun s _ i => ∃ k : Nat, k ≤ ys.length ∧ i = .int .i64 k ∧ s = .int .i64 (sumI ys k)) (fun _ _ i => ys.length - (intOf i).toNat)
  case atStart => exact ⟨0, by omega, rfl, rfl⟩
  case round =>
    obtain ⟨k, hk, rfl, rfl⟩ := hrel
    by_cases hlt : k < ys.length
    · obtain ⟨b, off, x, rfl, hx, hbB, hc0⟩ := h.at_ hlt
      have hi : (k : Int) < (ys.length : Int) := by omega
      have hs := sumI_succ hx
      have b1 := hb (k + 1) (by omega)
      have wr1 : IntKind.i64.wrap (sumI ys k + x) = sumI ys k + x := IntWalk.i64_in _ (by omega)
      have HS := Lib.hid hs
      clear hx h hs hb b1
      go_wp2
      go_round
      case rel => exact ⟨k + 1, by omega, by go_num, by rw [HS.out]⟩
      case measure => simp [intOf]; omega
    · obtain rfl : k = ys.length := by omega
      clear h hb
      go_wp2
      go_ret
      exact ⟨rfl, rfl⟩
theorem end_c {B : Nat} (A1 A2 A3 : Option Addr) (c1 c2 c3 j : Nat) (xs : List Int) (w : World) (hx : xs.length = j + 1) (hj : j ≤ 60000) (h : RdI w B A1 xs) (hB : B ≤ w.heap.size) :
    Calls Try.prog 63 #[.agg #[.slice A1 (j + 1) c1, .slice A2 (j + 1) c2, .slice A3 (j + 1) c3]] w fun e w' => e = .returned (.int .i64 (xs.getD j 0)) ∧ Below w.heap.size w w' := by
  obtain ⟨b, off, x, rfl, hv, hbB, hc⟩ := h.at_ (k := j) (by omega)
  rw [← hv]
  have hbw : b < w.heap.size := by omega
  have w1 : IntKind.i64.wrap (j : Int) = j := IntWalk.i64_in _ (by omega)
  have w2 : IntKind.i64.wrap ((j : Int) + 1 - 1) = j := by rw [Int.add_sub_cancel]; exact w1
  have hi : (j : Int) < (j : Int) + 1 := by omega
  clear hv hx hbB h hB
  go_enter Try.func63, Try.ntmps63
  go_wp2
  (go_returns; exact ⟨by first | rfl | (simp; done) | (simp; omega), by (repeat' (first | (with_reducible exact Below.refl _ _) | (with_reducible assumption) | (with_reducible refine below_drewN ?_ _) | (with_reducible refine Below.alloc ?_ ?_ _) | (with_reducible refine Below.drew ?_) | (with_reducible refine Below.setCell ?_ ?_ _) | go_size))⟩)
end Go.Proofs.Ytofcienabddpjaa

/- The laws' own comparison of two slices of ints. -/
import Derived.Test.YtbfaejacfhblkaaSlices
namespace Go.Proofs.Ytbfaejacfhblkaa
open Go.RowKit

set_option maxHeartbeats 400000 in
theorem rInts_c {B B' : Nat} (A A' : Option Addr) (c c' : Nat) (xs : List Int) (w : World) (h : RdI w B A xs) (h' : RdI w B' A' xs) (hm : xs.length ≤ 9223372036854775807) :
    Calls Try.prog 49 #[.slice A xs.length c, .slice A' xs.length c'] w fun e w' => e = .returned (.bool true) ∧ ∃ n, w' = w.drewN n := by
  go_enter Try.func49, Try.ntmps49
  go_wp2
  go_loopw [5] (fun i wr => ∃ k : Nat, k ≤ xs.length ∧ i = .int .i64 k ∧ ∃ n, wr = w.drewN n) (fun i _ => xs.length - (intOf i).toNat)
  case atStart => exact ⟨0, by omega, rfl, 0, rfl⟩
  case round =>
    obtain ⟨k, hk, rfl, n, rfl⟩ := hrel
    by_cases hlt : k < xs.length
    · obtain ⟨b, off, x, rfl, hx, hb, hc⟩ := h.at_ hlt
      obtain ⟨b', off', x', rfl, hx', hb', hc'⟩ := h'.at_ hlt
      obtain rfl : x' = x := hx'.trans hx.symm
      have hl1 : (k : Int) < (xs.length : Int) := by omega
      clear hx hx' h h'
      go_wp2
      go_quiet (fail)
      go_wp2
      go_roundw
      case rel => exact ⟨k + 1, by omega, by go_num, _, rfl⟩
      case measure => simp [intOf]; omega
    · clear h h'
      go_wp2
      go_ret
      exact ⟨rfl, _, rfl⟩
end Go.Proofs.Ytbfaejacfhblkaa

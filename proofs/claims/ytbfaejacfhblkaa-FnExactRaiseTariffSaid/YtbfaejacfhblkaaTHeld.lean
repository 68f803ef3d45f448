/- The marks of a tariff that is handed back. -/
import Derived.Test.YtbfaejacfhblkaaTTar
import Derived.Test.YtbfaejacfhblkaaTMark
namespace Go.Proofs.Ytbfaejacfhblkaa
open Go.RowKit

theorem heldTar_c {B : Nat} (F : Int) (A : Option Addr) (c n : Nat) (k0 : Int) (w : World) (h : RdP w B A (marksP k0 n)) (hB : B ≤ w.heap.size) (h0 : 0 ≤ k0) (h1 : k0 ≤ 1000000) (hm : n ≤ 1048576) :
    Calls Try.prog 29 #[.agg #[.int .i64 F, .slice A n c], .int .i64 k0] w fun e w' => e = .returned (.int .i64 (k0 + 2 * n)) ∧ Below w.heap.size w w' := by
  have e1 : ¬ (k0 + 2 * (n : Int) < 0) := by omega
  have e2 : decide (k0 + 2 * (n : Int) < 0) = false := by simp; omega
  have H := Lib.hid (h.alloc hB (.cells #[.int .i64 F, .slice A n c] 29))
  clear h
  go_enter Try.func29, Try.ntmps29
  go_wp2_with (go_at_call 63; refine (heldParS_c A c n k0 _ H.out h0 (by omega) (by omega)).mono ?_; rintro e w' ⟨rfl, rfl⟩)
  (go_returns; exact ⟨by first | rfl | (simp; done) | (simp; omega), by (repeat' (first | (with_reducible exact Below.refl _ _) | (with_reducible assumption) | (with_reducible refine below_drewN ?_ _) | (with_reducible refine Below.alloc ?_ ?_ _) | (with_reducible refine Below.drew ?_) | (with_reducible refine Below.setCell ?_ ?_ _) | go_size))⟩)
end Go.Proofs.Ytbfaejacfhblkaa

/- The law on StepTest, walked. -/
import Derived.Test.YtdkhiedgikjnkaaAStep
namespace Go.Proofs.Ytdkhiedgikjnkaa
open Go.RowKit

set_option maxHeartbeats 2000000 in
theorem stepTest_law (A : Option Addr) (c : Nat) (xs : List Int)  (w : World) (h0 : RdI w w.heap.size A xs) (hmax : xs.length ≤ 9223372036854775807) : Calls Try.prog 3 #[.slice A xs.length c] w fun e w' => e = .returned (.bool true) ∧ Below w.heap.size w w' := by
  have BW := Below.refl w.heap.size w
  by_cases hbig : xs.length ≤ 1048576
  · have hbi : ¬ (1048576 : Int) < (xs.length : Int) := by omega
    have hm : xs.length ≤ 4611686018427387904 := by omega
    clear hmax
    go_enter Try.func3, Try.ntmps3
    go_wp2_with fail
    refine (toIntS_c _ _ xs _ ((h0.below BW).more BW.size) hbig).mono ?_
    rintro e w1 ⟨A1, c1, rfl, o1, hb1⟩
    have hq1 := BW.size
    have l1 := own_least BW o1
    replace BW := stepB BW hb1
    clear hb1 hq1
    go_wp2_with fail
    refine (specStep_c A1 c1 xs _ o1.rd hm).mono ?_
    rintro e w' ⟨rfl, nd2, rfl⟩
    replace BW := below_drewN BW nd2
    replace o1 := o1.drewN nd2
    clear o1
    go_wp2_with fail
    refine (toIntS_c _ _ xs _ ((h0.below BW).more BW.size) hbig).mono ?_
    rintro e w3 ⟨A3, c3, rfl, o3, hb3⟩
    have hq3 := BW.size
    have l3 := own_least BW o3
    replace BW := stepB BW hb3
    clear hb3 hq3
    go_wp2_with fail
    refine (implStep_c A3 c3 xs _ o3.rd hm).mono ?_
    rintro e w' ⟨rfl, nd4, rfl⟩
    replace BW := below_drewN BW nd4
    replace o3 := o3.drewN nd4
    go_wp2_with fail
    refine (toIntS_c _ _ xs _ ((h0.below BW).more BW.size) hbig).mono ?_
    rintro e w5 ⟨A5, c5, rfl, o5, hb5⟩
    have hq5 := BW.size
    have no35 := own_older o3 o5 (Nat.le_refl _)
    have n5o3 := own_newer o5 o3 (Nat.le_refl _)
    have l5 := own_least BW o5
    replace BW := stepB BW hb5
    replace o3 := o3.below hb5
    clear hb5 hq5
    go_wp2_with fail
    refine (eqIntS_c _ _ _ _ _ _ o3.rd o5.rd (by omega)).mono ?_
    rintro e w' ⟨rfl, nd6, rfl⟩
    replace BW := below_drewN BW nd6
    replace o3 := o3.drewN nd6
    replace o5 := o5.drewN nd6
    go_wp2
    go_ret
    exact ⟨rfl, BW⟩
  · have hbi : (1048576 : Int) < (xs.length : Int) := by omega
    go_enter Try.func3, Try.ntmps3
    go_wp2
    go_ret
    exact ⟨rfl, by (repeat' (first | (with_reducible exact Below.refl _ _) | (with_reducible assumption) | (with_reducible refine below_drewN ?_ _) | (with_reducible refine Below.alloc ?_ ?_ _) | (with_reducible refine Below.drew ?_) | (with_reducible refine Below.setCell ?_ ?_ _) | go_size))⟩
end Go.Proofs.Ytdkhiedgikjnkaa

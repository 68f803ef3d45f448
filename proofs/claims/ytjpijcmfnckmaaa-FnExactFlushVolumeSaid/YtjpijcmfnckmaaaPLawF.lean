/- The law on FlushVolume, walked. -/
import Derived.Test.YtjpijcmfnckmaaaPVol
import Derived.Test.YtjpijcmfnckmaaaPar
namespace Go.Proofs.Ytjpijcmfnckmaaa
open Go.RowKit

set_option maxHeartbeats 2000000 in
theorem flushVolume_law (A : Option Addr) (c : Nat) (xs : List (Int × Int)) (n : Int) (w : World) (h0 : RdP w w.heap.size A xs) (hmax : xs.length ≤ 9223372036854775807) : Calls Try.prog 7 #[.slice A xs.length c, .int .i64 n] w fun e w' => e = .returned (.bool true) ∧ Below w.heap.size w w' := by
  have BW := Below.refl w.heap.size w
  by_cases hbig : xs.length ≤ 1048576
  · have hsz : ¬ (1048576 - (xs.length : Int) < 0) := by omega
    have hm : xs.length ≤ 4611686018427387904 := by omega
    clear hmax
    go_enter Try.func7, Try.ntmps7
    go_wp2_with fail
    refine (szParS_ok A c xs.length _ hbig).mono ?_
    rintro e w' ⟨rfl, rfl⟩
    go_wp2_with fail
    refine (toParS_c _ _ xs _ ((h0.below BW).more BW.size) hbig).mono ?_
    rintro e w1 ⟨A1, c1, rfl, o1, hb1⟩
    have hq1 := BW.size
    have l1 := ownP_least BW o1
    replace BW := stepB BW hb1
    clear hb1 hq1
    go_wp2_with fail
    refine (specFlush_c A1 c1 xs n _ o1.rd (Nat.le_refl _) hm).mono ?_
    rintro e w2 ⟨rfl, hb2⟩
    have hq2 := BW.size
    replace BW := stepB BW hb2
    replace o1 := o1.below hb2
    clear hb2 hq2
    clear o1
    go_wp2_with fail
    refine (toParS_c _ _ xs _ ((h0.below BW).more BW.size) hbig).mono ?_
    rintro e w3 ⟨A3, c3, rfl, o3, hb3⟩
    have hq3 := BW.size
    have l3 := ownP_least BW o3
    replace BW := stepB BW hb3
    clear hb3 hq3
    go_wp2_with fail
    refine (implFlush_c A3 c3 xs n _ o3.rd (Nat.le_refl _) hm).mono ?_
    rintro e w4 ⟨rfl, hb4⟩
    have hq4 := BW.size
    replace BW := stepB BW hb4
    replace o3 := o3.below hb4
    clear hb4 hq4
    go_wp2_with fail
    refine (toParS_c _ _ xs _ ((h0.below BW).more BW.size) hbig).mono ?_
    rintro e w5 ⟨A5, c5, rfl, o5, hb5⟩
    have hq5 := BW.size
    have no35 := ownP_older o3 o5 (Nat.le_refl _)
    have n5o3 := ownP_newer o5 o3 (Nat.le_refl _)
    have l5 := ownP_least BW o5
    replace BW := stepB BW hb5
    replace o3 := o3.below hb5
    clear hb5 hq5
    go_wp2_with fail
    refine (eqParS_c _ _ _ _ _ _ o3.rd o5.rd (Nat.le_refl _) (Nat.le_refl _) (by omega)).mono ?_
    rintro e w6 ⟨rfl, hb6⟩
    have hq6 := BW.size
    replace BW := stepB BW hb6
    replace o3 := o3.below hb6
    replace o5 := o5.below hb6
    clear hb6 hq6
    go_wp2
    go_ret
    exact ⟨rfl, BW⟩
  · go_enter Try.func7, Try.ntmps7
    go_wp2_with fail
    refine (szParS_no A c xs.length _ (by omega) hmax).mono ?_
    rintro e w1 ⟨rfl, rfl⟩
    go_wp2
    go_ret
    exact ⟨rfl, BW⟩
end Go.Proofs.Ytjpijcmfnckmaaa

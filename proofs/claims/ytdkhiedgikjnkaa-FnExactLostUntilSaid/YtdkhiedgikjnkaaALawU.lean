/- The law on LostUntil, walked. -/
import Derived.Test.YtdkhiedgikjnkaaALost2
import Derived.Test.YtdkhiedgikjnkaaABurst
namespace Go.Proofs.Ytdkhiedgikjnkaa
open Go.RowKit

set_option maxHeartbeats 4000000 in
theorem lostUntil_law (A A' A'' : Option Addr) (c c' c'' : Nat) (ls hs os : List Int) (w : World) (h0 : RdI w w.heap.size A ls) (h1 : RdI w w.heap.size A' hs) (h2 : RdI w w.heap.size A'' os) (hmax0 : ls.length ≤ 9223372036854775807) (hmax1 : hs.length ≤ 9223372036854775807) (hmax2 : os.length ≤ 9223372036854775807) : Calls Try.prog 5 #[.slice A ls.length c, .slice A' hs.length c', .slice A'' os.length c''] w fun e w' => e = .returned (.bool true) ∧ Below w.heap.size w w' := by
  by_cases b0 : ls.length ≤ 1048576
  case neg =>
    have hbi : (1048576 : Int) < (ls.length : Int) := by omega
    go_enter Try.func5, Try.ntmps5
    go_wp2
    go_ret
    exact ⟨rfl, by (repeat' (first | (with_reducible exact Below.refl _ _) | (with_reducible assumption) | (with_reducible refine below_drewN ?_ _) | (with_reducible refine Below.alloc ?_ ?_ _) | (with_reducible refine Below.drew ?_) | (with_reducible refine Below.setCell ?_ ?_ _) | go_size))⟩
  have hb0 : ¬ (1048576 : Int) < (ls.length : Int) := by omega
  by_cases b1 : hs.length ≤ 1048576
  case neg =>
    have hbi : (1048576 : Int) < (hs.length : Int) := by omega
    go_enter Try.func5, Try.ntmps5
    go_wp2
    go_ret
    exact ⟨rfl, by (repeat' (first | (with_reducible exact Below.refl _ _) | (with_reducible assumption) | (with_reducible refine below_drewN ?_ _) | (with_reducible refine Below.alloc ?_ ?_ _) | (with_reducible refine Below.drew ?_) | (with_reducible refine Below.setCell ?_ ?_ _) | go_size))⟩
  have hb1 : ¬ (1048576 : Int) < (hs.length : Int) := by omega
  by_cases b2 : os.length ≤ 1048576
  case neg =>
    have hbi : (1048576 : Int) < (os.length : Int) := by omega
    go_enter Try.func5, Try.ntmps5
    go_wp2
    go_ret
    exact ⟨rfl, by (repeat' (first | (with_reducible exact Below.refl _ _) | (with_reducible assumption) | (with_reducible refine below_drewN ?_ _) | (with_reducible refine Below.alloc ?_ ?_ _) | (with_reducible refine Below.drew ?_) | (with_reducible refine Below.setCell ?_ ?_ _) | go_size))⟩
  · have hb2 : ¬ (1048576 : Int) < (os.length : Int) := by omega
    have BW := Below.refl w.heap.size w
    have hm : ls.length ≤ 4611686018427387904 := by omega
    have hm2 : os.length ≤ 4611686018427387904 := by omega
    clear hmax0 hmax1 hmax2
    go_enter Try.func5, Try.ntmps5
    go_wp2_with fail
    refine (toIntS_c _ _ ls _ ((h0.below BW).more BW.size) b0).mono ?_
    rintro e w1 ⟨A1, c1, rfl, o1, hb1⟩
    have hq1 := BW.size
    have l1 := own_least BW o1
    replace BW := stepB BW hb1
    clear hb1 hq1
    go_wp2_with fail
    refine (toIntS_c _ _ hs _ ((h1.below BW).more BW.size) b1).mono ?_
    rintro e w2 ⟨A2, c2, rfl, o2, hb2⟩
    have hq2 := BW.size
    have no12 := own_older o1 o2 (Nat.le_refl _)
    have n2o1 := own_newer o2 o1 (Nat.le_refl _)
    have l2 := own_least BW o2
    replace BW := stepB BW hb2
    replace o1 := o1.below hb2
    clear hb2 hq2
    go_wp2_with fail
    refine (toIntS_c _ _ os _ ((h2.below BW).more BW.size) b2).mono ?_
    rintro e w3 ⟨A3, c3, rfl, o3, hb3⟩
    have hq3 := BW.size
    have no13 := own_older o1 o3 (Nat.le_refl _)
    have n3o1 := own_newer o3 o1 (Nat.le_refl _)
    have no23 := own_older o2 o3 (Nat.le_refl _)
    have n3o2 := own_newer o3 o2 (Nat.le_refl _)
    have l3 := own_least BW o3
    replace BW := stepB BW hb3
    replace o1 := o1.below hb3
    replace o2 := o2.below hb3
    clear hb3 hq3
    have cap3 := own_cap o3
    go_wp2_with fail
    refine (specLost_c A1 A2 A3 c1 c2 c3 ls hs os _ o1.rd o2.rd o3.rd hm hm2 cap3).mono ?_
    rintro e w' ⟨rfl, nd4, rfl⟩
    replace BW := below_drewN BW nd4
    replace o1 := o1.drewN nd4
    replace o2 := o2.drewN nd4
    replace o3 := o3.drewN nd4
    clear o1
    clear o2
    clear o3
    go_wp2_with fail
    refine (toIntS_c _ _ ls _ ((h0.below BW).more BW.size) b0).mono ?_
    rintro e w5 ⟨A5, c5, rfl, o5, hb5⟩
    have hq5 := BW.size
    have l5 := own_least BW o5
    replace BW := stepB BW hb5
    clear hb5 hq5
    go_wp2_with fail
    refine (toIntS_c _ _ hs _ ((h1.below BW).more BW.size) b1).mono ?_
    rintro e w6 ⟨A6, c6, rfl, o6, hb6⟩
    have hq6 := BW.size
    have no56 := own_older o5 o6 (Nat.le_refl _)
    have n6o5 := own_newer o6 o5 (Nat.le_refl _)
    have l6 := own_least BW o6
    replace BW := stepB BW hb6
    replace o5 := o5.below hb6
    clear hb6 hq6
    go_wp2_with fail
    refine (toIntS_c _ _ os _ ((h2.below BW).more BW.size) b2).mono ?_
    rintro e w7 ⟨A7, c7, rfl, o7, hb7⟩
    have hq7 := BW.size
    have no57 := own_older o5 o7 (Nat.le_refl _)
    have n7o5 := own_newer o7 o5 (Nat.le_refl _)
    have no67 := own_older o6 o7 (Nat.le_refl _)
    have n7o6 := own_newer o7 o6 (Nat.le_refl _)
    have l7 := own_least BW o7
    replace BW := stepB BW hb7
    replace o5 := o5.below hb7
    replace o6 := o6.below hb7
    clear hb7 hq7
    have cap7 := own_cap o7
    go_wp2_with fail
    refine (implLost_c A5 A6 A7 c5 c6 c7 ls hs os _ o5.rd o6.rd o7.rd hm hm2 cap7).mono ?_
    rintro e w' ⟨rfl, rfl⟩
    go_wp2_with fail
    refine (toIntS_c _ _ ls _ ((h0.below BW).more BW.size) b0).mono ?_
    rintro e w8 ⟨A9, c9, rfl, o9, hb8⟩
    have hq8 := BW.size
    have no59 := own_older o5 o9 (Nat.le_refl _)
    have n9o5 := own_newer o9 o5 (Nat.le_refl _)
    have no69 := own_older o6 o9 (Nat.le_refl _)
    have n9o6 := own_newer o9 o6 (Nat.le_refl _)
    have no79 := own_older o7 o9 (Nat.le_refl _)
    have n9o7 := own_newer o9 o7 (Nat.le_refl _)
    have l9 := own_least BW o9
    replace BW := stepB BW hb8
    replace o5 := o5.below hb8
    replace o6 := o6.below hb8
    replace o7 := o7.below hb8
    clear hb8 hq8
    go_wp2_with fail
    refine (eqIntS_c _ _ _ _ _ _ o5.rd o9.rd (by omega)).mono ?_
    rintro e w' ⟨rfl, nd9, rfl⟩
    replace BW := below_drewN BW nd9
    replace o5 := o5.drewN nd9
    replace o6 := o6.drewN nd9
    replace o7 := o7.drewN nd9
    replace o9 := o9.drewN nd9
    clear o9
    go_wp2_with fail
    refine (toIntS_c _ _ hs _ ((h1.below BW).more BW.size) b1).mono ?_
    rintro e w10 ⟨A10, c10, rfl, o10, hb10⟩
    have hq10 := BW.size
    have no510 := own_older o5 o10 (Nat.le_refl _)
    have n10o5 := own_newer o10 o5 (Nat.le_refl _)
    have no610 := own_older o6 o10 (Nat.le_refl _)
    have n10o6 := own_newer o10 o6 (Nat.le_refl _)
    have no710 := own_older o7 o10 (Nat.le_refl _)
    have n10o7 := own_newer o10 o7 (Nat.le_refl _)
    have l10 := own_least BW o10
    replace BW := stepB BW hb10
    replace o5 := o5.below hb10
    replace o6 := o6.below hb10
    replace o7 := o7.below hb10
    clear hb10 hq10
    go_wp2_with fail
    refine (eqIntS_c _ _ _ _ _ _ o6.rd o10.rd (by omega)).mono ?_
    rintro e w' ⟨rfl, nd11, rfl⟩
    replace BW := below_drewN BW nd11
    replace o5 := o5.drewN nd11
    replace o6 := o6.drewN nd11
    replace o7 := o7.drewN nd11
    replace o10 := o10.drewN nd11
    clear o10
    go_wp2_with fail
    refine (toIntS_c _ _ os _ ((h2.below BW).more BW.size) b2).mono ?_
    rintro e w12 ⟨A11, c11, rfl, o11, hb12⟩
    have hq12 := BW.size
    have no511 := own_older o5 o11 (Nat.le_refl _)
    have n11o5 := own_newer o11 o5 (Nat.le_refl _)
    have no611 := own_older o6 o11 (Nat.le_refl _)
    have n11o6 := own_newer o11 o6 (Nat.le_refl _)
    have no711 := own_older o7 o11 (Nat.le_refl _)
    have n11o7 := own_newer o11 o7 (Nat.le_refl _)
    have l11 := own_least BW o11
    replace BW := stepB BW hb12
    replace o5 := o5.below hb12
    replace o6 := o6.below hb12
    replace o7 := o7.below hb12
    clear hb12 hq12
    go_wp2_with fail
    refine (eqIntS_c _ _ _ _ _ _ o7.rd o11.rd (by omega)).mono ?_
    rintro e w' ⟨rfl, nd13, rfl⟩
    replace BW := below_drewN BW nd13
    replace o5 := o5.drewN nd13
    replace o6 := o6.drewN nd13
    replace o7 := o7.drewN nd13
    replace o11 := o11.drewN nd13
    clear o11
    go_wp2
    go_ret
    exact ⟨rfl, BW⟩
end Go.Proofs.Ytdkhiedgikjnkaa

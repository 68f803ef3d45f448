/- The law on DecayParcels, walked. -/
import Derived.Test.YtjpijcmfnckmaaaPDec
import Derived.Test.YtjpijcmfnckmaaaPar
namespace Go.Proofs.Ytjpijcmfnckmaaa
open Go.RowKit

set_option maxHeartbeats 2000000 in
theorem decayParcels_law (A : Option Addr) (c : Nat) (xs : List (Int × Int)) (n d : Int) (w : World) (h0 : RdP w w.heap.size A xs) (hmax : xs.length ≤ 9223372036854775807) : Calls Try.prog 11 #[.slice A xs.length c, .int .i64 n, .int .i64 d] w fun e w' => e = .returned (.bool true) ∧ Below w.heap.size w w' := by
  have BW := Below.refl w.heap.size w
  by_cases hbig : xs.length ≤ 1048576
  · have hsz : ¬ (1048576 - (xs.length : Int) < 0) := by omega
    have hm : xs.length ≤ 4611686018427387904 := by omega
    have hr : (decR xs n d).1.length ≤ 1048576 := decR_len xs n d hbig
    clear hmax
    go_enter Try.func11, Try.ntmps11
    go_wp2_with fail
    refine (szParS_ok A c xs.length _ hbig).mono ?_
    rintro e w' ⟨rfl, rfl⟩
    go_wp2_with fail
    refine (toParS_c _ _ xs _ ((h0.below BW).more BW.size) hbig).mono ?_
    rintro e w1 ⟨A1, c1, rfl, o1, hb1⟩
    have hq1 := BW.size
    have l1 := ownP_least BW o1
    replace BW := stepB BW hb1
    clear hb1 hq1
    go_wp2_with fail
    refine (specDec_c A1 c1 xs n d _ o1.rd hbig).mono ?_
    rintro e w2 ⟨A2, c2, rfl, o2, hb2⟩
    have hq2 := BW.size
    have no12 := ownP_older o1 o2 (Nat.le_refl _)
    have n2o1 := ownP_newer o2 o1 (Nat.le_refl _)
    have l2 := ownP_least BW o2
    replace BW := stepB BW hb2
    replace o1 := o1.below hb2
    clear hb2 hq2
    clear o1
    go_wp2_with fail
    refine (toParS_c _ _ xs _ ((h0.below BW).more BW.size) hbig).mono ?_
    rintro e w3 ⟨A3, c3, rfl, o3, hb3⟩
    have hq3 := BW.size
    have no23 := ownP_older o2 o3 (Nat.le_refl _)
    have n3o2 := ownP_newer o3 o2 (Nat.le_refl _)
    have l3 := ownP_least BW o3
    replace BW := stepB BW hb3
    replace o2 := o2.below hb3
    clear hb3 hq3
    go_wp2_with fail
    refine (implDec_c A3 c3 xs n d _ o3.rd hbig).mono ?_
    rintro e w4 ⟨A4, c4, rfl, o4, hb4⟩
    have hq4 := BW.size
    have no24 := ownP_older o2 o4 (Nat.le_refl _)
    have n4o2 := ownP_newer o4 o2 (Nat.le_refl _)
    have no34 := ownP_older o3 o4 (Nat.le_refl _)
    have n4o3 := ownP_newer o4 o3 (Nat.le_refl _)
    have l4 := ownP_least BW o4
    replace BW := stepB BW hb4
    replace o2 := o2.below hb4
    replace o3 := o3.below hb4
    clear hb4 hq4
    go_wp2_with fail
    refine (eqParS_c _ _ _ _ _ _ o4.rd o2.rd (Nat.le_refl _) (Nat.le_refl _) (by omega)).mono ?_
    rintro e w5 ⟨rfl, hb5⟩
    have hq5 := BW.size
    replace BW := stepB BW hb5
    replace o2 := o2.below hb5
    replace o3 := o3.below hb5
    replace o4 := o4.below hb5
    clear hb5 hq5
    go_wp2_with fail
    refine (toParS_c _ _ xs _ ((h0.below BW).more BW.size) hbig).mono ?_
    rintro e w6 ⟨A5, c5, rfl, o5, hb6⟩
    have hq6 := BW.size
    have no25 := ownP_older o2 o5 (Nat.le_refl _)
    have n5o2 := ownP_newer o5 o2 (Nat.le_refl _)
    have no35 := ownP_older o3 o5 (Nat.le_refl _)
    have n5o3 := ownP_newer o5 o3 (Nat.le_refl _)
    have no45 := ownP_older o4 o5 (Nat.le_refl _)
    have n5o4 := ownP_newer o5 o4 (Nat.le_refl _)
    have l5 := ownP_least BW o5
    replace BW := stepB BW hb6
    replace o2 := o2.below hb6
    replace o3 := o3.below hb6
    replace o4 := o4.below hb6
    clear hb6 hq6
    go_wp2_with fail
    refine (eqParS_c _ _ _ _ _ _ o3.rd o5.rd (Nat.le_refl _) (Nat.le_refl _) (by omega)).mono ?_
    rintro e w7 ⟨rfl, hb7⟩
    have hq7 := BW.size
    replace BW := stepB BW hb7
    replace o2 := o2.below hb7
    replace o3 := o3.below hb7
    replace o4 := o4.below hb7
    replace o5 := o5.below hb7
    clear hb7 hq7
    clear o5
    go_wp2_with fail
    have hq8 := BW.size
    refine (markParS_c _ _ _ _ _ _ o3 (by omega) (by omega) (by omega)).mono ?_
    rintro e w8 ⟨rfl, om8, hg8⟩
    replace BW := stepM BW hg8 l3
    replace o2 := o2.kept hg8 no23
    replace o4 := o4.kept hg8 n4o3
    have r3 := marksP_rd om8
    clear o3 om8 hg8 hq8
    clear r3
    go_wp2_with fail
    refine (eqParS_c _ _ _ _ _ _ o4.rd o2.rd (Nat.le_refl _) (Nat.le_refl _) (by omega)).mono ?_
    rintro e w9 ⟨rfl, hb9⟩
    have hq9 := BW.size
    replace BW := stepB BW hb9
    replace o2 := o2.below hb9
    replace o4 := o4.below hb9
    clear hb9 hq9
    go_wp2_with fail
    have hq10 := BW.size
    refine (markParS_c _ _ _ _ _ _ o4 (by omega) (by omega) (by omega)).mono ?_
    rintro e w10 ⟨rfl, om10, hg10⟩
    replace BW := stepM BW hg10 l4
    replace o2 := o2.kept hg10 no24
    have r4 := marksP_rd om10
    clear o4 om10 hg10 hq10
    go_wp2_with fail
    refine (heldParS_c _ _ _ _ _ r4 (by omega) (by omega) (by omega)).mono ?_
    rintro e w' ⟨rfl, rfl⟩
    go_wp2_with fail
    refine (toParS_c _ _ xs _ ((h0.below BW).more BW.size) hbig).mono ?_
    rintro e w11 ⟨A6, c6, rfl, o6, hb11⟩
    have hq11 := BW.size
    have no26 := ownP_older o2 o6 (Nat.le_refl _)
    have n6o2 := ownP_newer o6 o2 (Nat.le_refl _)
    have l6 := ownP_least BW o6
    replace BW := stepB BW hb11
    replace o2 := o2.below hb11
    replace r4 := (r4.below hb11).more hb11.size
    clear hb11 hq11
    go_wp2_with fail
    refine (implDec_c A6 c6 xs n d _ o6.rd hbig).mono ?_
    rintro e w12 ⟨A7, c7, rfl, o7, hb12⟩
    have hq12 := BW.size
    have no27 := ownP_older o2 o7 (Nat.le_refl _)
    have n7o2 := ownP_newer o7 o2 (Nat.le_refl _)
    have no67 := ownP_older o6 o7 (Nat.le_refl _)
    have n7o6 := ownP_newer o7 o6 (Nat.le_refl _)
    have l7 := ownP_least BW o7
    replace BW := stepB BW hb12
    replace o2 := o2.below hb12
    replace o6 := o6.below hb12
    replace r4 := (r4.below hb12).more hb12.size
    clear hb12 hq12
    clear o6
    go_wp2_with fail
    refine (eqParS_c _ _ _ _ _ _ o7.rd o2.rd (Nat.le_refl _) (Nat.le_refl _) (by omega)).mono ?_
    rintro e w13 ⟨rfl, hb13⟩
    have hq13 := BW.size
    replace BW := stepB BW hb13
    replace o2 := o2.below hb13
    replace o7 := o7.below hb13
    replace r4 := (r4.below hb13).more hb13.size
    clear hb13 hq13
    go_wp2_with fail
    refine (heldParS_c _ _ _ _ _ r4 (by omega) (by omega) (by omega)).mono ?_
    rintro e w' ⟨rfl, rfl⟩
    go_wp2
    go_ret
    exact ⟨rfl, BW⟩
  · go_enter Try.func11, Try.ntmps11
    go_wp2_with fail
    refine (szParS_no A c xs.length _ (by omega) hmax).mono ?_
    rintro e w1 ⟨rfl, rfl⟩
    go_wp2
    go_ret
    exact ⟨rfl, BW⟩
end Go.Proofs.Ytjpijcmfnckmaaa

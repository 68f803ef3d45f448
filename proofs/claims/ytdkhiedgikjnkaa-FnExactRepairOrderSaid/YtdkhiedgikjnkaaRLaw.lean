/- The law on RepairOrder, walked. -/
import Derived.Test.YtdkhiedgikjnkaaRImpl
import Derived.Test.YtdkhiedgikjnkaaRSpec
namespace Go.Proofs.Ytdkhiedgikjnkaa
open Go.RowKit

set_option maxHeartbeats 4000000 in
theorem repairOrder_law (A A' : Option Addr) (c c' : Nat) (ls hs : List Int) (w : World) (h0 : RdI w w.heap.size A ls) (h1 : RdI w w.heap.size A' hs) (hmax0 : ls.length ≤ 9223372036854775807) (hmax1 : hs.length ≤ 9223372036854775807) : Calls Try.prog 11 #[.slice A ls.length c, .slice A' hs.length c'] w fun e w' => e = .returned (.bool true) ∧ Below w.heap.size w w' := by
  by_cases b0 : ls.length ≤ 1048576
  case neg =>
    have hbi : (1048576 : Int) < (ls.length : Int) := by omega
    go_enter Try.func11, Try.ntmps11
    go_wp2
    go_ret
    exact ⟨rfl, by (repeat' (first | (with_reducible exact Below.refl _ _) | (with_reducible assumption) | (with_reducible refine below_drewN ?_ _) | (with_reducible refine Below.alloc ?_ ?_ _) | (with_reducible refine Below.drew ?_) | (with_reducible refine Below.setCell ?_ ?_ _) | go_size))⟩
  have hb0 : ¬ (1048576 : Int) < (ls.length : Int) := by omega
  by_cases b1 : hs.length ≤ 1048576
  case neg =>
    have hbi : (1048576 : Int) < (hs.length : Int) := by omega
    go_enter Try.func11, Try.ntmps11
    go_wp2
    go_ret
    exact ⟨rfl, by (repeat' (first | (with_reducible exact Below.refl _ _) | (with_reducible assumption) | (with_reducible refine below_drewN ?_ _) | (with_reducible refine Below.alloc ?_ ?_ _) | (with_reducible refine Below.drew ?_) | (with_reducible refine Below.setCell ?_ ?_ _) | go_size))⟩
  · have hb1 : ¬ (1048576 : Int) < (hs.length : Int) := by omega
    have BW := Below.refl w.heap.size w
    have hm : ls.length ≤ 4611686018427387904 := by omega
    have hr : (repO ls hs).1.length ≤ 1048576 := Nat.le_trans (repO_len ls hs) b0
    clear hmax0 hmax1
    go_enter Try.func11, Try.ntmps11
    go_wp2_with fail
    refine (toIntS_c _ _ ls _ ((h0.below BW).more BW.size) b0).mono ?_
    rintro e w1 ⟨A1, c1, rfl, o1, hb1⟩
    have hq1 := BW.size
    have l1 := own_least BW o1
    replace BW := stepB BW hb1
    clear hb1 hq1
    go_wp2_with fail
    refine (toIntS_c _ _ hs _ ((h1.below BW).more BW.size) b1).mono ?_
    rintro e w2 ⟨A2, c2, rfl, o2, hb2⟩
    have hq2 := BW.size
    have no12 := own_older o1 o2 (Nat.le_refl _)
    have n2o1 := own_newer o2 o1 (Nat.le_refl _)
    have l2 := own_least BW o2
    replace BW := stepB BW hb2
    replace o1 := o1.below hb2
    clear hb2 hq2
    go_wp2_with fail
    refine (specOrder_c A1 A2 c1 c2 ls hs _ o1.rd o2.rd (Nat.le_refl _) (Nat.le_refl _) hm).mono ?_
    rintro e w3 ⟨A3, c3, rfl, o3, hb3⟩
    have hq3 := BW.size
    have no13 := own_older o1 o3 (Nat.le_refl _)
    have n3o1 := own_newer o3 o1 (Nat.le_refl _)
    have no23 := own_older o2 o3 (Nat.le_refl _)
    have n3o2 := own_newer o3 o2 (Nat.le_refl _)
    have l3 := own_least BW o3
    replace BW := stepB BW hb3
    replace o1 := o1.below hb3
    replace o2 := o2.below hb3
    clear hb3 hq3
    clear o1
    clear o2
    go_wp2_with fail
    refine (toIntS_c _ _ ls _ ((h0.below BW).more BW.size) b0).mono ?_
    rintro e w4 ⟨A4, c4, rfl, o4, hb4⟩
    have hq4 := BW.size
    have no34 := own_older o3 o4 (Nat.le_refl _)
    have n4o3 := own_newer o4 o3 (Nat.le_refl _)
    have l4 := own_least BW o4
    replace BW := stepB BW hb4
    replace o3 := o3.below hb4
    clear hb4 hq4
    go_wp2_with fail
    refine (toIntS_c _ _ hs _ ((h1.below BW).more BW.size) b1).mono ?_
    rintro e w5 ⟨A5, c5, rfl, o5, hb5⟩
    have hq5 := BW.size
    have no35 := own_older o3 o5 (Nat.le_refl _)
    have n5o3 := own_newer o5 o3 (Nat.le_refl _)
    have no45 := own_older o4 o5 (Nat.le_refl _)
    have n5o4 := own_newer o5 o4 (Nat.le_refl _)
    have l5 := own_least BW o5
    replace BW := stepB BW hb5
    replace o3 := o3.below hb5
    replace o4 := o4.below hb5
    clear hb5 hq5
    go_wp2_with fail
    refine (implOrder_c A4 A5 c4 c5 ls hs _ o4.rd o5.rd (Nat.le_refl _) (Nat.le_refl _) hm).mono ?_
    rintro e w6 ⟨A6, c6, rfl, o6, hb6⟩
    have hq6 := BW.size
    have no36 := own_older o3 o6 (Nat.le_refl _)
    have n6o3 := own_newer o6 o3 (Nat.le_refl _)
    have no46 := own_older o4 o6 (Nat.le_refl _)
    have n6o4 := own_newer o6 o4 (Nat.le_refl _)
    have no56 := own_older o5 o6 (Nat.le_refl _)
    have n6o5 := own_newer o6 o5 (Nat.le_refl _)
    have l6 := own_least BW o6
    replace BW := stepB BW hb6
    replace o3 := o3.below hb6
    replace o4 := o4.below hb6
    replace o5 := o5.below hb6
    clear hb6 hq6
    go_wp2_with fail
    refine (eqIntS_c _ _ _ _ _ _ o6.rd o3.rd (by omega)).mono ?_
    rintro e w' ⟨rfl, nd7, rfl⟩
    replace BW := below_drewN BW nd7
    replace o3 := o3.drewN nd7
    replace o4 := o4.drewN nd7
    replace o5 := o5.drewN nd7
    replace o6 := o6.drewN nd7
    go_wp2_with fail
    refine (toIntS_c _ _ ls _ ((h0.below BW).more BW.size) b0).mono ?_
    rintro e w8 ⟨A7, c7, rfl, o7, hb8⟩
    have hq8 := BW.size
    have no37 := own_older o3 o7 (Nat.le_refl _)
    have n7o3 := own_newer o7 o3 (Nat.le_refl _)
    have no47 := own_older o4 o7 (Nat.le_refl _)
    have n7o4 := own_newer o7 o4 (Nat.le_refl _)
    have no57 := own_older o5 o7 (Nat.le_refl _)
    have n7o5 := own_newer o7 o5 (Nat.le_refl _)
    have no67 := own_older o6 o7 (Nat.le_refl _)
    have n7o6 := own_newer o7 o6 (Nat.le_refl _)
    have l7 := own_least BW o7
    replace BW := stepB BW hb8
    replace o3 := o3.below hb8
    replace o4 := o4.below hb8
    replace o5 := o5.below hb8
    replace o6 := o6.below hb8
    clear hb8 hq8
    go_wp2_with fail
    refine (eqIntS_c _ _ _ _ _ _ o4.rd o7.rd (by omega)).mono ?_
    rintro e w' ⟨rfl, nd9, rfl⟩
    replace BW := below_drewN BW nd9
    replace o3 := o3.drewN nd9
    replace o4 := o4.drewN nd9
    replace o5 := o5.drewN nd9
    replace o6 := o6.drewN nd9
    replace o7 := o7.drewN nd9
    clear o7
    go_wp2_with fail
    refine (toIntS_c _ _ hs _ ((h1.below BW).more BW.size) b1).mono ?_
    rintro e w10 ⟨A8, c8, rfl, o8, hb10⟩
    have hq10 := BW.size
    have no38 := own_older o3 o8 (Nat.le_refl _)
    have n8o3 := own_newer o8 o3 (Nat.le_refl _)
    have no48 := own_older o4 o8 (Nat.le_refl _)
    have n8o4 := own_newer o8 o4 (Nat.le_refl _)
    have no58 := own_older o5 o8 (Nat.le_refl _)
    have n8o5 := own_newer o8 o5 (Nat.le_refl _)
    have no68 := own_older o6 o8 (Nat.le_refl _)
    have n8o6 := own_newer o8 o6 (Nat.le_refl _)
    have l8 := own_least BW o8
    replace BW := stepB BW hb10
    replace o3 := o3.below hb10
    replace o4 := o4.below hb10
    replace o5 := o5.below hb10
    replace o6 := o6.below hb10
    clear hb10 hq10
    go_wp2_with fail
    refine (eqIntS_c _ _ _ _ _ _ o5.rd o8.rd (by omega)).mono ?_
    rintro e w' ⟨rfl, nd11, rfl⟩
    replace BW := below_drewN BW nd11
    replace o3 := o3.drewN nd11
    replace o4 := o4.drewN nd11
    replace o5 := o5.drewN nd11
    replace o6 := o6.drewN nd11
    replace o8 := o8.drewN nd11
    clear o8
    go_wp2_with fail
    have hq12 := BW.size
    refine (markIntS_c _ _ _ _ _ _ o4 (by omega) (by omega) (by omega)).mono ?_
    rintro e w12 ⟨rfl, om12, hg12⟩
    replace BW := stepM BW hg12 l4
    replace o3 := o3.kept hg12 no34
    replace o5 := o5.kept hg12 n5o4
    replace o6 := o6.kept hg12 n6o4
    replace o4 := om12
    clear om12 hg12 hq12
    clear o4
    go_wp2_with fail
    have hq13 := BW.size
    refine (markIntS_c _ _ _ _ _ _ o5 (by omega) (by omega) (by omega)).mono ?_
    rintro e w13 ⟨rfl, om13, hg13⟩
    replace BW := stepM BW hg13 l5
    replace o3 := o3.kept hg13 no35
    replace o6 := o6.kept hg13 n6o5
    replace o5 := om13
    clear om13 hg13 hq13
    clear o5
    have hk0 : ¬ (1 + (ls.length : Int) + (hs.length : Int) < 0) := by omega
    have hk1 : decide (1 + (ls.length : Int) + (hs.length : Int) < 0) = false := by simp; omega
    go_wp2_with fail
    refine (eqIntS_c _ _ _ _ _ _ o6.rd o3.rd (by omega)).mono ?_
    rintro e w' ⟨rfl, nd14, rfl⟩
    replace BW := below_drewN BW nd14
    replace o3 := o3.drewN nd14
    replace o6 := o6.drewN nd14
    go_wp2_with fail
    have hq15 := BW.size
    refine (markIntS_c _ _ _ _ _ _ o6 (by omega) (by omega) (by omega)).mono ?_
    rintro e w15 ⟨rfl, om15, hg15⟩
    replace BW := stepM BW hg15 l6
    replace o3 := o3.kept hg15 no36
    have r6 := marks_rd om15
    clear o6 om15 hg15 hq15
    go_wp2_with fail
    refine (heldIntS_c _ _ _ _ _ r6 (by omega) (by omega) (by omega)).mono ?_
    rintro e w' ⟨rfl, rfl⟩
    go_wp2_with fail
    refine (toIntS_c _ _ ls _ ((h0.below BW).more BW.size) b0).mono ?_
    rintro e w16 ⟨A9, c9, rfl, o9, hb16⟩
    have hq16 := BW.size
    have no39 := own_older o3 o9 (Nat.le_refl _)
    have n9o3 := own_newer o9 o3 (Nat.le_refl _)
    have l9 := own_least BW o9
    replace BW := stepB BW hb16
    replace o3 := o3.below hb16
    replace r6 := (r6.below hb16).more hb16.size
    clear hb16 hq16
    go_wp2_with fail
    refine (toIntS_c _ _ hs _ ((h1.below BW).more BW.size) b1).mono ?_
    rintro e w17 ⟨A10, c10, rfl, o10, hb17⟩
    have hq17 := BW.size
    have no310 := own_older o3 o10 (Nat.le_refl _)
    have n10o3 := own_newer o10 o3 (Nat.le_refl _)
    have no910 := own_older o9 o10 (Nat.le_refl _)
    have n10o9 := own_newer o10 o9 (Nat.le_refl _)
    have l10 := own_least BW o10
    replace BW := stepB BW hb17
    replace o3 := o3.below hb17
    replace o9 := o9.below hb17
    replace r6 := (r6.below hb17).more hb17.size
    clear hb17 hq17
    go_wp2_with fail
    refine (implOrder_c A9 A10 c9 c10 ls hs _ o9.rd o10.rd (Nat.le_refl _) (Nat.le_refl _) hm).mono ?_
    rintro e w18 ⟨A11, c11, rfl, o11, hb18⟩
    have hq18 := BW.size
    have no311 := own_older o3 o11 (Nat.le_refl _)
    have n11o3 := own_newer o11 o3 (Nat.le_refl _)
    have no911 := own_older o9 o11 (Nat.le_refl _)
    have n11o9 := own_newer o11 o9 (Nat.le_refl _)
    have no1011 := own_older o10 o11 (Nat.le_refl _)
    have n11o10 := own_newer o11 o10 (Nat.le_refl _)
    have l11 := own_least BW o11
    replace BW := stepB BW hb18
    replace o3 := o3.below hb18
    replace o9 := o9.below hb18
    replace o10 := o10.below hb18
    replace r6 := (r6.below hb18).more hb18.size
    clear hb18 hq18
    clear o9
    clear o10
    go_wp2_with fail
    refine (eqIntS_c _ _ _ _ _ _ o11.rd o3.rd (by omega)).mono ?_
    rintro e w' ⟨rfl, nd19, rfl⟩
    replace BW := below_drewN BW nd19
    replace o3 := o3.drewN nd19
    replace o11 := o11.drewN nd19
    replace r6 := r6.drewN nd19
    go_wp2_with fail
    refine (heldIntS_c _ _ _ _ _ r6 (by omega) (by omega) (by omega)).mono ?_
    rintro e w' ⟨rfl, rfl⟩
    go_wp2
    go_ret
    exact ⟨rfl, BW⟩
end Go.Proofs.Ytdkhiedgikjnkaa

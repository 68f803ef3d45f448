/- The law on PushParcel, walked. -/
import Derived.Test.YtjpijcmfnckmaaaPPushS
import Derived.Test.YtjpijcmfnckmaaaPar
namespace Go.Proofs.Ytjpijcmfnckmaaa
open Go.RowKit

set_option maxHeartbeats 4000000 in
theorem pushParcel_law (A : Option Addr) (c : Nat) (xs : List (Int × Int)) (V G : Int) (w : World) (h : RdP w w.heap.size A xs) (hmax : xs.length ≤ 9223372036854775807) : Calls Try.prog 12 #[.slice A xs.length c, .agg #[.int .i64 V, .int .i64 G]] w fun e w' => e = .returned (.bool true) ∧ Below w.heap.size w w' := by
  by_cases hbig : xs.length ≤ 1048576
  · have hsz : ¬ (1048576 - (xs.length : Int) < 0) := by omega
    obtain ⟨hra, hrb⟩ := pushR_len xs V G hbig
    clear hmax
    obtain ⟨W, hW⟩ : ∃ W, W = w.alloc (.cells #[.int .i64 V, .int .i64 G] 49) := ⟨_, rfl⟩
    have h0 : RdP W W.heap.size A xs := by rw [hW]; exact (h.alloc (Nat.le_refl _) _).more (by simp)
    have k0b : w.heap.size < W.heap.size := by rw [hW]; simp
    have k1b := k0b
    have B0 : Below w.heap.size w W := by rw [hW]; exact (Below.refl _ _).alloc (Nat.le_refl _) _
    have k0 : W.cell? ⟨w.heap.size, 0, none⟩ = some (.int .i64 V) := by rw [hW]; simp [go_sem]
    have k1 : W.cell? ⟨w.heap.size, 1, none⟩ = some (.int .i64 G) := by rw [hW]; simp [go_sem]
    have BW := Below.refl W.heap.size W
    have HW := Lib.hid hW
    clear hW h
    go_enter Try.func12, Try.ntmps12
    go_wp2_with fail
    rw [← HW.out]
    clear HW
    go_wp2_with fail
    refine (szParS_ok A c xs.length _ hbig).mono ?_
    rintro e w' ⟨rfl, rfl⟩
    go_wp2_with fail
    go_region_held3 (fun w' => w'.cell? ⟨w.heap.size, 0, none⟩ = some (.int .i64 V) ∧ w'.cell? ⟨w.heap.size, 1, none⟩ = some (.int .i64 G)) (simp [*]) (first | (go_at_call 28; refine (toParS_c _ _ xs _ (((h0.below BW).more BW.size).drewN 1) hbig).mono ?_; rintro e w1 ⟨A1, c1, rfl, o1, hb1⟩; replace BW := BW.drew; have hq1 := BW.size; have l1 := ownP_least BW o1; replace BW := stepB BW hb1; replace k0 := (hb1.cell (p := ⟨w.heap.size, 0, none⟩) (Nat.lt_of_lt_of_le k0b hq1)).trans k0; replace k1 := (hb1.cell (p := ⟨w.heap.size, 1, none⟩) (Nat.lt_of_lt_of_le k1b hq1)).trans k1; clear hb1 hq1) | (go_at_call 41; refine (toPar_c _ _ _).mono ?_; rintro e w2 ⟨rfl, hb2⟩; have hq2 := BW.size; replace BW := stepB BW hb2; replace k0 := (hb2.cell (p := ⟨w.heap.size, 0, none⟩) (Nat.lt_of_lt_of_le k0b hq2)).trans k0; replace k1 := (hb2.cell (p := ⟨w.heap.size, 1, none⟩) (Nat.lt_of_lt_of_le k1b hq2)).trans k1; replace o1 := o1.below hb2; clear hb2 hq2) | (go_at_call 17; refine (specPush_c _ _ xs V G _ o1.rd hbig).mono ?_; rintro e w3 ⟨A2, c2, A3, c3, rfl, oo, hb3⟩; have hq3 := BW.size; have o2 := oo.1; have o3 := oo.2.1; have no23 := apart_of' oo.2.2; have n3o2 := apart_of oo.2.2; have no12 := ownP_older o1 o2 (Nat.le_refl _); have n2o1 := ownP_newer o2 o1 (Nat.le_refl _); have l2 := ownP_least BW o2; have no13 := ownP_older o1 o3 (Nat.le_refl _); have n3o1 := ownP_newer o3 o1 (Nat.le_refl _); have l3 := ownP_least BW o3; replace BW := stepB BW hb3; replace k0 := (hb3.cell (p := ⟨w.heap.size, 0, none⟩) (Nat.lt_of_lt_of_le k0b hq3)).trans k0; replace k1 := (hb3.cell (p := ⟨w.heap.size, 1, none⟩) (Nat.lt_of_lt_of_le k1b hq3)).trans k1; replace o1 := o1.below hb3; clear hb3 hq3 oo))
    clear o1
    go_wp2_with fail
    refine (toParS_c _ _ xs _ (((h0.below BW).more BW.size)) hbig).mono ?_
    rintro e w4 ⟨A4, c4, rfl, o4, hb4⟩
    have hq4 := BW.size
    have no24 := ownP_older o2 o4 (Nat.le_refl _)
    have n4o2 := ownP_newer o4 o2 (Nat.le_refl _)
    have no34 := ownP_older o3 o4 (Nat.le_refl _)
    have n4o3 := ownP_newer o4 o3 (Nat.le_refl _)
    have l4 := ownP_least BW o4
    replace BW := stepB BW hb4
    replace k0 := (hb4.cell (p := ⟨w.heap.size, 0, none⟩) (Nat.lt_of_lt_of_le k0b hq4)).trans k0
    replace k1 := (hb4.cell (p := ⟨w.heap.size, 1, none⟩) (Nat.lt_of_lt_of_le k1b hq4)).trans k1
    replace o2 := o2.below hb4
    replace o3 := o3.below hb4
    clear hb4 hq4
    go_wp2_with fail
    refine (toPar_c _ _ _).mono ?_
    rintro e w5 ⟨rfl, hb5⟩
    have hq5 := BW.size
    replace BW := stepB BW hb5
    replace k0 := (hb5.cell (p := ⟨w.heap.size, 0, none⟩) (Nat.lt_of_lt_of_le k0b hq5)).trans k0
    replace k1 := (hb5.cell (p := ⟨w.heap.size, 1, none⟩) (Nat.lt_of_lt_of_le k1b hq5)).trans k1
    replace o2 := o2.below hb5
    replace o3 := o3.below hb5
    replace o4 := o4.below hb5
    clear hb5 hq5
    go_wp2_with fail
    refine (implPush_c _ _ xs V G _ o4.rd hbig).mono ?_
    rintro e w6 ⟨A5, c5, A6, c6, rfl, oo, hb6⟩
    have hq6 := BW.size
    have o5 := oo.1
    have o6 := oo.2.1
    have no56 := apart_of' oo.2.2
    have n6o5 := apart_of oo.2.2
    have no25 := ownP_older o2 o5 (Nat.le_refl _)
    have n5o2 := ownP_newer o5 o2 (Nat.le_refl _)
    have no35 := ownP_older o3 o5 (Nat.le_refl _)
    have n5o3 := ownP_newer o5 o3 (Nat.le_refl _)
    have no45 := ownP_older o4 o5 (Nat.le_refl _)
    have n5o4 := ownP_newer o5 o4 (Nat.le_refl _)
    have l5 := ownP_least BW o5
    have no26 := ownP_older o2 o6 (Nat.le_refl _)
    have n6o2 := ownP_newer o6 o2 (Nat.le_refl _)
    have no36 := ownP_older o3 o6 (Nat.le_refl _)
    have n6o3 := ownP_newer o6 o3 (Nat.le_refl _)
    have no46 := ownP_older o4 o6 (Nat.le_refl _)
    have n6o4 := ownP_newer o6 o4 (Nat.le_refl _)
    have l6 := ownP_least BW o6
    replace BW := stepB BW hb6
    replace k0 := (hb6.cell (p := ⟨w.heap.size, 0, none⟩) (Nat.lt_of_lt_of_le k0b hq6)).trans k0
    replace k1 := (hb6.cell (p := ⟨w.heap.size, 1, none⟩) (Nat.lt_of_lt_of_le k1b hq6)).trans k1
    replace o2 := o2.below hb6
    replace o3 := o3.below hb6
    replace o4 := o4.below hb6
    clear hb6 hq6 oo
    go_wp2_with fail
    refine (eqParS_c _ _ _ _ _ _ o5.rd o2.rd (Nat.le_refl _) (Nat.le_refl _) (by omega)).mono ?_
    rintro e w7 ⟨rfl, hb7⟩
    have hq7 := BW.size
    replace BW := stepB BW hb7
    replace k0 := (hb7.cell (p := ⟨w.heap.size, 0, none⟩) (Nat.lt_of_lt_of_le k0b hq7)).trans k0
    replace k1 := (hb7.cell (p := ⟨w.heap.size, 1, none⟩) (Nat.lt_of_lt_of_le k1b hq7)).trans k1
    replace o2 := o2.below hb7
    replace o3 := o3.below hb7
    replace o4 := o4.below hb7
    replace o5 := o5.below hb7
    replace o6 := o6.below hb7
    clear hb7 hq7
    go_wp2_with fail
    refine (eqParS_c _ _ _ _ _ _ o6.rd o3.rd (Nat.le_refl _) (Nat.le_refl _) (by omega)).mono ?_
    rintro e w8 ⟨rfl, hb8⟩
    have hq8 := BW.size
    replace BW := stepB BW hb8
    replace k0 := (hb8.cell (p := ⟨w.heap.size, 0, none⟩) (Nat.lt_of_lt_of_le k0b hq8)).trans k0
    replace k1 := (hb8.cell (p := ⟨w.heap.size, 1, none⟩) (Nat.lt_of_lt_of_le k1b hq8)).trans k1
    replace o2 := o2.below hb8
    replace o3 := o3.below hb8
    replace o4 := o4.below hb8
    replace o5 := o5.below hb8
    replace o6 := o6.below hb8
    clear hb8 hq8
    go_wp2_with fail
    refine (toParS_c _ _ xs _ (((h0.below BW).more BW.size)) hbig).mono ?_
    rintro e w9 ⟨A7, c7, rfl, o7, hb9⟩
    have hq9 := BW.size
    have no27 := ownP_older o2 o7 (Nat.le_refl _)
    have n7o2 := ownP_newer o7 o2 (Nat.le_refl _)
    have no37 := ownP_older o3 o7 (Nat.le_refl _)
    have n7o3 := ownP_newer o7 o3 (Nat.le_refl _)
    have no47 := ownP_older o4 o7 (Nat.le_refl _)
    have n7o4 := ownP_newer o7 o4 (Nat.le_refl _)
    have no57 := ownP_older o5 o7 (Nat.le_refl _)
    have n7o5 := ownP_newer o7 o5 (Nat.le_refl _)
    have no67 := ownP_older o6 o7 (Nat.le_refl _)
    have n7o6 := ownP_newer o7 o6 (Nat.le_refl _)
    have l7 := ownP_least BW o7
    replace BW := stepB BW hb9
    replace k0 := (hb9.cell (p := ⟨w.heap.size, 0, none⟩) (Nat.lt_of_lt_of_le k0b hq9)).trans k0
    replace k1 := (hb9.cell (p := ⟨w.heap.size, 1, none⟩) (Nat.lt_of_lt_of_le k1b hq9)).trans k1
    replace o2 := o2.below hb9
    replace o3 := o3.below hb9
    replace o4 := o4.below hb9
    replace o5 := o5.below hb9
    replace o6 := o6.below hb9
    clear hb9 hq9
    go_wp2_with fail
    refine (eqParS_c _ _ _ _ _ _ o4.rd o7.rd (Nat.le_refl _) (Nat.le_refl _) (by omega)).mono ?_
    rintro e w10 ⟨rfl, hb10⟩
    have hq10 := BW.size
    replace BW := stepB BW hb10
    replace k0 := (hb10.cell (p := ⟨w.heap.size, 0, none⟩) (Nat.lt_of_lt_of_le k0b hq10)).trans k0
    replace k1 := (hb10.cell (p := ⟨w.heap.size, 1, none⟩) (Nat.lt_of_lt_of_le k1b hq10)).trans k1
    replace o2 := o2.below hb10
    replace o3 := o3.below hb10
    replace o4 := o4.below hb10
    replace o5 := o5.below hb10
    replace o6 := o6.below hb10
    replace o7 := o7.below hb10
    clear hb10 hq10
    clear o7
    go_wp2_with fail
    have hq11 := BW.size
    refine (markParS_c _ _ _ _ _ _ o4 (by omega) (by omega) (by omega)).mono ?_
    rintro e w11 ⟨rfl, om11, hg11⟩
    replace BW := stepM BW hg11 l4
    replace k0 := (World.cell?_of_block (a := ⟨w.heap.size, 0, none⟩) (hg11.block _ (Nat.lt_of_lt_of_le k0b hq11) (fun e => absurd (l4 _ e.symm) (Nat.not_le_of_lt k0b)))).trans k0
    replace k1 := (World.cell?_of_block (a := ⟨w.heap.size, 1, none⟩) (hg11.block _ (Nat.lt_of_lt_of_le k1b hq11) (fun e => absurd (l4 _ e.symm) (Nat.not_le_of_lt k1b)))).trans k1
    replace o2 := o2.kept hg11 no24
    replace o3 := o3.kept hg11 no34
    replace o5 := o5.kept hg11 n5o4
    replace o6 := o6.kept hg11 n6o4
    have r4 := marksP_rd om11
    clear o4 om11 hg11 hq11
    clear r4
    go_wp2_with fail
    refine (eqParS_c _ _ _ _ _ _ o5.rd o2.rd (Nat.le_refl _) (Nat.le_refl _) (by omega)).mono ?_
    rintro e w12 ⟨rfl, hb12⟩
    have hq12 := BW.size
    replace BW := stepB BW hb12
    replace k0 := (hb12.cell (p := ⟨w.heap.size, 0, none⟩) (Nat.lt_of_lt_of_le k0b hq12)).trans k0
    replace k1 := (hb12.cell (p := ⟨w.heap.size, 1, none⟩) (Nat.lt_of_lt_of_le k1b hq12)).trans k1
    replace o2 := o2.below hb12
    replace o3 := o3.below hb12
    replace o5 := o5.below hb12
    replace o6 := o6.below hb12
    clear hb12 hq12
    go_wp2_with fail
    refine (eqParS_c _ _ _ _ _ _ o6.rd o3.rd (Nat.le_refl _) (Nat.le_refl _) (by omega)).mono ?_
    rintro e w13 ⟨rfl, hb13⟩
    have hq13 := BW.size
    replace BW := stepB BW hb13
    replace k0 := (hb13.cell (p := ⟨w.heap.size, 0, none⟩) (Nat.lt_of_lt_of_le k0b hq13)).trans k0
    replace k1 := (hb13.cell (p := ⟨w.heap.size, 1, none⟩) (Nat.lt_of_lt_of_le k1b hq13)).trans k1
    replace o2 := o2.below hb13
    replace o3 := o3.below hb13
    replace o5 := o5.below hb13
    replace o6 := o6.below hb13
    clear hb13 hq13
    go_wp2_with fail
    have hq14 := BW.size
    refine (markParS_c _ _ _ _ _ _ o5 (by omega) (by omega) (by omega)).mono ?_
    rintro e w14 ⟨rfl, om14, hg14⟩
    replace BW := stepM BW hg14 l5
    replace k0 := (World.cell?_of_block (a := ⟨w.heap.size, 0, none⟩) (hg14.block _ (Nat.lt_of_lt_of_le k0b hq14) (fun e => absurd (l5 _ e.symm) (Nat.not_le_of_lt k0b)))).trans k0
    replace k1 := (World.cell?_of_block (a := ⟨w.heap.size, 1, none⟩) (hg14.block _ (Nat.lt_of_lt_of_le k1b hq14) (fun e => absurd (l5 _ e.symm) (Nat.not_le_of_lt k1b)))).trans k1
    replace o2 := o2.kept hg14 no25
    replace o3 := o3.kept hg14 no35
    replace o6 := o6.kept hg14 n6o5
    replace o5 := om14
    clear om14 hg14 hq14
    go_wp2_with fail
    have hq15 := BW.size
    refine (markParS_c _ _ _ _ _ _ o6 (by omega) (by omega) (by omega)).mono ?_
    rintro e w15 ⟨rfl, om15, hg15⟩
    replace BW := stepM BW hg15 l6
    replace k0 := (World.cell?_of_block (a := ⟨w.heap.size, 0, none⟩) (hg15.block _ (Nat.lt_of_lt_of_le k0b hq15) (fun e => absurd (l6 _ e.symm) (Nat.not_le_of_lt k0b)))).trans k0
    replace k1 := (World.cell?_of_block (a := ⟨w.heap.size, 1, none⟩) (hg15.block _ (Nat.lt_of_lt_of_le k1b hq15) (fun e => absurd (l6 _ e.symm) (Nat.not_le_of_lt k1b)))).trans k1
    replace o2 := o2.kept hg15 no26
    replace o3 := o3.kept hg15 no36
    replace o5 := o5.kept hg15 no56
    have r6 := marksP_rd om15
    clear o6 om15 hg15 hq15
    have r5 := o5.rd
    clear o5
    go_wp2_with fail
    refine (heldParS_c _ _ _ _ _ r5 (by omega) (by omega) (by omega)).mono ?_
    rintro e w' ⟨rfl, rfl⟩
    go_wp2_with fail
    refine (heldParS_c _ _ _ _ _ r6 (by omega) (by omega) (by omega)).mono ?_
    rintro e w' ⟨rfl, rfl⟩
    go_wp2_with fail
    go_region_held3 (fun w' => w'.cell? ⟨w.heap.size, 0, none⟩ = some (.int .i64 V) ∧ w'.cell? ⟨w.heap.size, 1, none⟩ = some (.int .i64 G)) (simp [*]) (first | (go_at_call 28; refine (toParS_c _ _ xs _ (((h0.below BW).more BW.size).drewN 1) hbig).mono ?_; rintro e w16 ⟨A8, c8, rfl, o8, hb16⟩; replace BW := BW.drew; replace o2 := o2.drewN 1; replace o3 := o3.drewN 1; replace r6 := r6.drewN 1; replace r5 := r5.drewN 1; have hq16 := BW.size; have no28 := ownP_older o2 o8 (Nat.le_refl _); have n8o2 := ownP_newer o8 o2 (Nat.le_refl _); have no38 := ownP_older o3 o8 (Nat.le_refl _); have n8o3 := ownP_newer o8 o3 (Nat.le_refl _); have l8 := ownP_least BW o8; replace BW := stepB BW hb16; replace k0 := (hb16.cell (p := ⟨w.heap.size, 0, none⟩) (Nat.lt_of_lt_of_le k0b hq16)).trans k0; replace k1 := (hb16.cell (p := ⟨w.heap.size, 1, none⟩) (Nat.lt_of_lt_of_le k1b hq16)).trans k1; replace o2 := o2.below hb16; replace o3 := o3.below hb16; replace r6 := (r6.below hb16).more hb16.size; replace r5 := (r5.below hb16).more hb16.size; clear hb16 hq16) | (go_at_call 41; refine (toPar_c _ _ _).mono ?_; rintro e w17 ⟨rfl, hb17⟩; have hq17 := BW.size; replace BW := stepB BW hb17; replace k0 := (hb17.cell (p := ⟨w.heap.size, 0, none⟩) (Nat.lt_of_lt_of_le k0b hq17)).trans k0; replace k1 := (hb17.cell (p := ⟨w.heap.size, 1, none⟩) (Nat.lt_of_lt_of_le k1b hq17)).trans k1; replace o2 := o2.below hb17; replace o3 := o3.below hb17; replace o8 := o8.below hb17; replace r6 := (r6.below hb17).more hb17.size; replace r5 := (r5.below hb17).more hb17.size; clear hb17 hq17) | (go_at_call 16; refine (implPush_c _ _ xs V G _ o8.rd hbig).mono ?_; rintro e w18 ⟨A9, c9, A10, c10, rfl, oo, hb18⟩; have hq18 := BW.size; have o9 := oo.1; have o10 := oo.2.1; have no910 := apart_of' oo.2.2; have n10o9 := apart_of oo.2.2; have no29 := ownP_older o2 o9 (Nat.le_refl _); have n9o2 := ownP_newer o9 o2 (Nat.le_refl _); have no39 := ownP_older o3 o9 (Nat.le_refl _); have n9o3 := ownP_newer o9 o3 (Nat.le_refl _); have no89 := ownP_older o8 o9 (Nat.le_refl _); have n9o8 := ownP_newer o9 o8 (Nat.le_refl _); have l9 := ownP_least BW o9; have no210 := ownP_older o2 o10 (Nat.le_refl _); have n10o2 := ownP_newer o10 o2 (Nat.le_refl _); have no310 := ownP_older o3 o10 (Nat.le_refl _); have n10o3 := ownP_newer o10 o3 (Nat.le_refl _); have no810 := ownP_older o8 o10 (Nat.le_refl _); have n10o8 := ownP_newer o10 o8 (Nat.le_refl _); have l10 := ownP_least BW o10; replace BW := stepB BW hb18; replace k0 := (hb18.cell (p := ⟨w.heap.size, 0, none⟩) (Nat.lt_of_lt_of_le k0b hq18)).trans k0; replace k1 := (hb18.cell (p := ⟨w.heap.size, 1, none⟩) (Nat.lt_of_lt_of_le k1b hq18)).trans k1; replace o2 := o2.below hb18; replace o3 := o3.below hb18; replace o8 := o8.below hb18; replace r6 := (r6.below hb18).more hb18.size; replace r5 := (r5.below hb18).more hb18.size; clear hb18 hq18 oo))
    clear o8
    go_wp2_with fail
    refine (eqParS_c _ _ _ _ _ _ o9.rd o2.rd (Nat.le_refl _) (Nat.le_refl _) (by omega)).mono ?_
    rintro e w19 ⟨rfl, hb19⟩
    have hq19 := BW.size
    replace BW := stepB BW hb19
    replace k0 := (hb19.cell (p := ⟨w.heap.size, 0, none⟩) (Nat.lt_of_lt_of_le k0b hq19)).trans k0
    replace k1 := (hb19.cell (p := ⟨w.heap.size, 1, none⟩) (Nat.lt_of_lt_of_le k1b hq19)).trans k1
    replace o2 := o2.below hb19
    replace o3 := o3.below hb19
    replace o9 := o9.below hb19
    replace o10 := o10.below hb19
    replace r6 := (r6.below hb19).more hb19.size
    replace r5 := (r5.below hb19).more hb19.size
    clear hb19 hq19
    go_wp2_with fail
    refine (eqParS_c _ _ _ _ _ _ o10.rd o3.rd (Nat.le_refl _) (Nat.le_refl _) (by omega)).mono ?_
    rintro e w20 ⟨rfl, hb20⟩
    have hq20 := BW.size
    replace BW := stepB BW hb20
    replace k0 := (hb20.cell (p := ⟨w.heap.size, 0, none⟩) (Nat.lt_of_lt_of_le k0b hq20)).trans k0
    replace k1 := (hb20.cell (p := ⟨w.heap.size, 1, none⟩) (Nat.lt_of_lt_of_le k1b hq20)).trans k1
    replace o2 := o2.below hb20
    replace o3 := o3.below hb20
    replace o9 := o9.below hb20
    replace o10 := o10.below hb20
    replace r6 := (r6.below hb20).more hb20.size
    replace r5 := (r5.below hb20).more hb20.size
    clear hb20 hq20
    go_wp2_with fail
    refine (heldParS_c _ _ _ _ _ r5 (by omega) (by omega) (by omega)).mono ?_
    rintro e w' ⟨rfl, rfl⟩
    go_wp2_with fail
    refine (heldParS_c _ _ _ _ _ r6 (by omega) (by omega) (by omega)).mono ?_
    rintro e w' ⟨rfl, rfl⟩
    go_wp2
    go_ret
    exact ⟨rfl, B0.trans (BW.mono (Nat.le_of_lt k0b))⟩
  · go_enter Try.func12, Try.ntmps12
    go_wp2_with fail
    refine (szParS_no A c xs.length _ (by omega) hmax).mono ?_
    rintro e w1 ⟨rfl, rfl⟩
    go_wp2
    go_ret
    exact ⟨rfl, by (repeat' (first | (with_reducible exact Below.refl _ _) | (with_reducible assumption) | (with_reducible refine below_drewN ?_ _) | (with_reducible refine Below.alloc ?_ ?_ _) | (with_reducible refine Below.drew ?_) | (with_reducible refine Below.setCell ?_ ?_ _) | go_size))⟩
end Go.Proofs.Ytjpijcmfnckmaaa

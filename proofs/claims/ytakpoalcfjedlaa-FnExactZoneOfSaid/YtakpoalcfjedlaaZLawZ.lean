/- The law on ZoneOf, walked. -/
import Derived.Test.YtakpoalcfjedlaaZZone
namespace Go.Proofs.Ytakpoalcfjedlaa
open Go.RowKit

set_option maxHeartbeats 2000000 in
theorem zoneOf_law (A : Option Addr) (c : Nat) (xs : List Int) (L M : Int)  (w : World) (h : RdI w w.heap.size A xs) (hmax : xs.length ≤ 9223372036854775807)  : Calls Try.prog 10 #[.slice A xs.length c, .agg #[.int .i64 L, .int .i64 M]] w fun e w' => e = .returned (.bool true) ∧ Below w.heap.size w w' := by
  by_cases hbig : xs.length ≤ 1048576
  · have hbi : ¬ (1048576 : Int) < (xs.length : Int) := by omega
    have hr : (zoneL xs L M).1.length ≤ 1048576 := zoneL_len xs L M hbig
    clear hmax
    obtain ⟨W, hW⟩ : ∃ W, W = w.alloc (.cells #[.int .i64 L, .int .i64 M] 30) := ⟨_, rfl⟩
    have h0 : RdI W W.heap.size A xs := by rw [hW]; exact (h.alloc (Nat.le_refl _) _).more (by simp)
    have k0b : w.heap.size < W.heap.size := by rw [hW]; simp
    have k1b := k0b
    have B0 : Below w.heap.size w W := by rw [hW]; exact (Below.refl _ _).alloc (Nat.le_refl _) _
    have k0 : W.cell? ⟨w.heap.size, 0, none⟩ = some (.int .i64 L) := by rw [hW]; simp [go_sem]
    have k1 : W.cell? ⟨w.heap.size, 1, none⟩ = some (.int .i64 M) := by rw [hW]; simp [go_sem]
    have BW := Below.refl W.heap.size W
    have HW := Lib.hid hW
    clear hW h
    go_enter Try.func10, Try.ntmps10
    go_wp2_with fail
    rw [← HW.out]
    clear HW
    go_wp2_with fail
    go_region_held3 (fun w' => w'.cell? ⟨w.heap.size, 0, none⟩ = some (.int .i64 L) ∧ w'.cell? ⟨w.heap.size, 1, none⟩ = some (.int .i64 M)) (simp [*]) (first | (go_at_call 13; refine (toIntS_c _ _ xs _ (((h0.below BW).more BW.size).drewN 1) hbig).mono ?_; rintro e w1 ⟨A1, c1, rfl, o1, hb1⟩; replace BW := BW.drew; have hq1 := BW.size; have l1 := own_least BW o1; replace BW := stepB BW hb1; replace k0 := (hb1.cell (p := ⟨w.heap.size, 0, none⟩) (Nat.lt_of_lt_of_le k0b hq1)).trans k0; replace k1 := (hb1.cell (p := ⟨w.heap.size, 1, none⟩) (Nat.lt_of_lt_of_le k1b hq1)).trans k1; clear hb1 hq1) | (go_at_call 21; refine (toZoneRule_c _ _ _).mono ?_; rintro e w2 ⟨rfl, hb2⟩; have hq2 := BW.size; replace BW := stepB BW hb2; replace k0 := (hb2.cell (p := ⟨w.heap.size, 0, none⟩) (Nat.lt_of_lt_of_le k0b hq2)).trans k0; replace k1 := (hb2.cell (p := ⟨w.heap.size, 1, none⟩) (Nat.lt_of_lt_of_le k1b hq2)).trans k1; replace o1 := o1.below hb2; clear hb2 hq2) | (go_at_call 38; refine (specZone_c A1 c1 xs L M _ o1.rd hbig).mono ?_; rintro e w3 ⟨A2, c2, rfl, o2, hb3⟩; have hq3 := BW.size; have no12 := own_older o1 o2 (Nat.le_refl _); have n2o1 := own_newer o2 o1 (Nat.le_refl _); have l2 := own_least BW o2; replace BW := stepB BW hb3; replace k0 := (hb3.cell (p := ⟨w.heap.size, 0, none⟩) (Nat.lt_of_lt_of_le k0b hq3)).trans k0; replace k1 := (hb3.cell (p := ⟨w.heap.size, 1, none⟩) (Nat.lt_of_lt_of_le k1b hq3)).trans k1; replace o1 := o1.below hb3; clear hb3 hq3))
    clear o1
    go_wp2_with fail
    refine (toIntS_c _ _ xs _ ((h0.below BW).more BW.size) hbig).mono ?_
    rintro e w4 ⟨A3, c3, rfl, o3, hb4⟩
    have hq4 := BW.size
    have no23 := own_older o2 o3 (Nat.le_refl _)
    have n3o2 := own_newer o3 o2 (Nat.le_refl _)
    have l3 := own_least BW o3
    replace BW := stepB BW hb4
    replace k0 := (hb4.cell (p := ⟨w.heap.size, 0, none⟩) (Nat.lt_of_lt_of_le k0b hq4)).trans k0
    replace k1 := (hb4.cell (p := ⟨w.heap.size, 1, none⟩) (Nat.lt_of_lt_of_le k1b hq4)).trans k1
    replace o2 := o2.below hb4
    clear hb4 hq4
    go_wp2_with fail
    refine (toZoneRule_c _ _ _).mono ?_
    rintro e w5 ⟨rfl, hb5⟩
    have hq5 := BW.size
    replace BW := stepB BW hb5
    replace k0 := (hb5.cell (p := ⟨w.heap.size, 0, none⟩) (Nat.lt_of_lt_of_le k0b hq5)).trans k0
    replace k1 := (hb5.cell (p := ⟨w.heap.size, 1, none⟩) (Nat.lt_of_lt_of_le k1b hq5)).trans k1
    replace o2 := o2.below hb5
    replace o3 := o3.below hb5
    clear hb5 hq5
    go_wp2_with fail
    refine (implZone_c A3 c3 xs L M _ o3.rd (own_nilcap o3) hbig).mono ?_
    rintro e w6 ⟨A4, c4, rfl, o4, hb6⟩
    have hq6 := BW.size
    have no24 := own_older o2 o4 (Nat.le_refl _)
    have n4o2 := own_newer o4 o2 (Nat.le_refl _)
    have no34 := own_older o3 o4 (Nat.le_refl _)
    have n4o3 := own_newer o4 o3 (Nat.le_refl _)
    have l4 := own_least BW o4
    replace BW := stepB BW hb6
    replace k0 := (hb6.cell (p := ⟨w.heap.size, 0, none⟩) (Nat.lt_of_lt_of_le k0b hq6)).trans k0
    replace k1 := (hb6.cell (p := ⟨w.heap.size, 1, none⟩) (Nat.lt_of_lt_of_le k1b hq6)).trans k1
    replace o2 := o2.below hb6
    replace o3 := o3.below hb6
    clear hb6 hq6
    go_wp2_with fail
    refine (eqIntS_c _ _ _ _ _ _ o4.rd o2.rd (by omega)).mono ?_
    rintro e w' ⟨rfl, nd7, rfl⟩
    replace BW := below_drewN BW nd7
    replace o2 := o2.drewN nd7
    replace o3 := o3.drewN nd7
    replace o4 := o4.drewN nd7
    go_wp2_with fail
    refine (toIntS_c _ _ xs _ ((h0.below BW).more BW.size) hbig).mono ?_
    rintro e w8 ⟨A5, c5, rfl, o5, hb8⟩
    have hq8 := BW.size
    have no25 := own_older o2 o5 (Nat.le_refl _)
    have n5o2 := own_newer o5 o2 (Nat.le_refl _)
    have no35 := own_older o3 o5 (Nat.le_refl _)
    have n5o3 := own_newer o5 o3 (Nat.le_refl _)
    have no45 := own_older o4 o5 (Nat.le_refl _)
    have n5o4 := own_newer o5 o4 (Nat.le_refl _)
    have l5 := own_least BW o5
    replace BW := stepB BW hb8
    replace k0 := (hb8.cell (p := ⟨w.heap.size, 0, none⟩) (Nat.lt_of_lt_of_le k0b hq8)).trans k0
    replace k1 := (hb8.cell (p := ⟨w.heap.size, 1, none⟩) (Nat.lt_of_lt_of_le k1b hq8)).trans k1
    replace o2 := o2.below hb8
    replace o3 := o3.below hb8
    replace o4 := o4.below hb8
    clear hb8 hq8
    go_wp2_with fail
    refine (eqIntS_c _ _ _ _ _ _ o3.rd o5.rd (by omega)).mono ?_
    rintro e w' ⟨rfl, nd9, rfl⟩
    replace BW := below_drewN BW nd9
    replace o2 := o2.drewN nd9
    replace o3 := o3.drewN nd9
    replace o4 := o4.drewN nd9
    replace o5 := o5.drewN nd9
    clear o5
    go_wp2_with fail
    have hq10 := BW.size
    refine (markIntS_c _ _ _ _ _ _ o3 (by omega) (by omega) (by omega)).mono ?_
    rintro e w10 ⟨rfl, om10, hg10⟩
    replace BW := stepM BW hg10 l3
    replace k0 := (World.cell?_of_block (a := ⟨w.heap.size, 0, none⟩) (hg10.block _ (Nat.lt_of_lt_of_le k0b hq10) (fun e => absurd (l3 _ e.symm) (Nat.not_le_of_lt k0b)))).trans k0
    replace k1 := (World.cell?_of_block (a := ⟨w.heap.size, 1, none⟩) (hg10.block _ (Nat.lt_of_lt_of_le k1b hq10) (fun e => absurd (l3 _ e.symm) (Nat.not_le_of_lt k1b)))).trans k1
    replace o2 := o2.kept hg10 no23
    replace o4 := o4.kept hg10 n4o3
    have r3 := marks_rd om10
    clear o3 om10 hg10 hq10
    clear r3
    go_wp2_with fail
    refine (eqIntS_c _ _ _ _ _ _ o4.rd o2.rd (by omega)).mono ?_
    rintro e w' ⟨rfl, nd11, rfl⟩
    replace BW := below_drewN BW nd11
    replace o2 := o2.drewN nd11
    replace o4 := o4.drewN nd11
    go_wp2_with fail
    have hq12 := BW.size
    refine (markIntS_c _ _ _ _ _ _ o4 (by omega) (by omega) (by omega)).mono ?_
    rintro e w12 ⟨rfl, om12, hg12⟩
    replace BW := stepM BW hg12 l4
    replace k0 := (World.cell?_of_block (a := ⟨w.heap.size, 0, none⟩) (hg12.block _ (Nat.lt_of_lt_of_le k0b hq12) (fun e => absurd (l4 _ e.symm) (Nat.not_le_of_lt k0b)))).trans k0
    replace k1 := (World.cell?_of_block (a := ⟨w.heap.size, 1, none⟩) (hg12.block _ (Nat.lt_of_lt_of_le k1b hq12) (fun e => absurd (l4 _ e.symm) (Nat.not_le_of_lt k1b)))).trans k1
    replace o2 := o2.kept hg12 no24
    have r4 := marks_rd om12
    clear o4 om12 hg12 hq12
    go_wp2_with fail
    refine (heldIntS_c _ _ _ _ _ r4 (by omega) (by omega) (by omega)).mono ?_
    rintro e w' ⟨rfl, rfl⟩
    go_wp2_with fail
    go_region_held3 (fun w' => w'.cell? ⟨w.heap.size, 0, none⟩ = some (.int .i64 L) ∧ w'.cell? ⟨w.heap.size, 1, none⟩ = some (.int .i64 M)) (simp [*]) (first | (go_at_call 13; refine (toIntS_c _ _ xs _ (((h0.below BW).more BW.size).drewN 1) hbig).mono ?_; rintro e w13 ⟨A6, c6, rfl, o6, hb13⟩; replace BW := BW.drew; replace o2 := o2.drewN 1; replace r4 := r4.drewN 1; have hq13 := BW.size; have no26 := own_older o2 o6 (Nat.le_refl _); have n6o2 := own_newer o6 o2 (Nat.le_refl _); have l6 := own_least BW o6; replace BW := stepB BW hb13; replace k0 := (hb13.cell (p := ⟨w.heap.size, 0, none⟩) (Nat.lt_of_lt_of_le k0b hq13)).trans k0; replace k1 := (hb13.cell (p := ⟨w.heap.size, 1, none⟩) (Nat.lt_of_lt_of_le k1b hq13)).trans k1; replace o2 := o2.below hb13; replace r4 := (r4.below hb13).more hb13.size; clear hb13 hq13) | (go_at_call 21; refine (toZoneRule_c _ _ _).mono ?_; rintro e w14 ⟨rfl, hb14⟩; have hq14 := BW.size; replace BW := stepB BW hb14; replace k0 := (hb14.cell (p := ⟨w.heap.size, 0, none⟩) (Nat.lt_of_lt_of_le k0b hq14)).trans k0; replace k1 := (hb14.cell (p := ⟨w.heap.size, 1, none⟩) (Nat.lt_of_lt_of_le k1b hq14)).trans k1; replace o2 := o2.below hb14; replace o6 := o6.below hb14; replace r4 := (r4.below hb14).more hb14.size; clear hb14 hq14) | (go_at_call 39; refine (implZone_c A6 c6 xs L M _ o6.rd (own_nilcap o6) hbig).mono ?_; rintro e w15 ⟨A7, c7, rfl, o7, hb15⟩; have hq15 := BW.size; have no27 := own_older o2 o7 (Nat.le_refl _); have n7o2 := own_newer o7 o2 (Nat.le_refl _); have no67 := own_older o6 o7 (Nat.le_refl _); have n7o6 := own_newer o7 o6 (Nat.le_refl _); have l7 := own_least BW o7; replace BW := stepB BW hb15; replace k0 := (hb15.cell (p := ⟨w.heap.size, 0, none⟩) (Nat.lt_of_lt_of_le k0b hq15)).trans k0; replace k1 := (hb15.cell (p := ⟨w.heap.size, 1, none⟩) (Nat.lt_of_lt_of_le k1b hq15)).trans k1; replace o2 := o2.below hb15; replace o6 := o6.below hb15; replace r4 := (r4.below hb15).more hb15.size; clear hb15 hq15))
    clear o6
    go_wp2_with fail
    refine (eqIntS_c _ _ _ _ _ _ o7.rd o2.rd (by omega)).mono ?_
    rintro e w' ⟨rfl, nd16, rfl⟩
    replace BW := below_drewN BW nd16
    replace o2 := o2.drewN nd16
    replace o7 := o7.drewN nd16
    replace r4 := r4.drewN nd16
    go_wp2_with fail
    refine (heldIntS_c _ _ _ _ _ r4 (by omega) (by omega) (by omega)).mono ?_
    rintro e w' ⟨rfl, rfl⟩
    go_wp2
    go_ret
    exact ⟨rfl, B0.trans (BW.mono (Nat.le_of_lt k0b))⟩
  · have hbi : (1048576 : Int) < (xs.length : Int) := by omega
    go_enter Try.func10, Try.ntmps10
    go_wp2
    go_ret
    exact ⟨rfl, by (repeat' (first | (with_reducible exact Below.refl _ _) | (with_reducible assumption) | (with_reducible refine below_drewN ?_ _) | (with_reducible refine Below.alloc ?_ ?_ _) | (with_reducible refine Below.drew ?_) | (with_reducible refine Below.setCell ?_ ?_ _) | go_size))⟩
end Go.Proofs.Ytakpoalcfjedlaa

/- The law on SplitCost, walked. -/
import Derived.Test.YtbfaejacfhblkaaTOf
import Derived.Test.YtbfaejacfhblkaaTMark
namespace Go.Proofs.Ytbfaejacfhblkaa
open Go.RowKit

set_option maxHeartbeats 2000000 in
theorem splitCost_law (F : Int) (A : Option Addr) (c : Nat) (xs : List (Int × Int)) (n : Int) (w : World) (h : RdP w w.heap.size A xs) (hmax : xs.length ≤ 9223372036854775807) : Calls Try.prog 11 #[.agg #[.int .i64 F, .slice A xs.length c], .int .i64 n] w fun e w' => e = .returned (.bool true) ∧ Below w.heap.size w w' := by
  obtain ⟨W, hW⟩ : ∃ W, W = w.alloc (.cells #[.int .i64 F, .slice A xs.length c] 24) := ⟨_, rfl⟩
  have h0 : RdP W W.heap.size A xs := by rw [hW]; exact (h.alloc (Nat.le_refl _) _).more (by simp)
  have k0b : w.heap.size < W.heap.size := by rw [hW]; simp
  have k1b := k0b
  have B0 : Below w.heap.size w W := by rw [hW]; exact (Below.refl _ _).alloc (Nat.le_refl _) _
  have k0 : W.cell? ⟨w.heap.size, 0, none⟩ = some (.int .i64 F) := by rw [hW]; simp [go_sem]
  have k1 : W.cell? ⟨w.heap.size, 1, none⟩ = some (.slice A xs.length c) := by rw [hW]; simp [go_sem]
  have BW := Below.refl W.heap.size W
  have HW := Lib.hid hW
  clear hW h
  by_cases hbig : xs.length ≤ 1048576
  · have hsz : ¬ (1048576 - (xs.length : Int) < 0) := by omega
    have hm : xs.length ≤ 4611686018427387904 := by omega
    have hr : (splitR F xs n).1.length ≤ 1048577 := splitR_len F xs n hbig
    clear hmax
    go_enter Try.func11, Try.ntmps11
    go_wp2_with fail
    rw [← HW.out]
    clear HW
    go_wp2_with fail
    refine (szTar_ok F A c xs _ hbig).mono ?_
    rintro e w1 ⟨rfl, hb1⟩
    have hq1 := BW.size
    replace BW := stepB BW hb1
    replace k0 := (hb1.cell (p := ⟨w.heap.size, 0, none⟩) (Nat.lt_of_lt_of_le k0b hq1)).trans k0
    replace k1 := (hb1.cell (p := ⟨w.heap.size, 1, none⟩) (Nat.lt_of_lt_of_le k1b hq1)).trans k1
    clear hb1 hq1
    go_wp2_with fail
    refine (toTar_c F _ _ xs _ ((h0.below BW).more BW.size) hbig).mono ?_
    rintro e w2 ⟨A1, c1, rfl, o1, hb2⟩
    have hq2 := BW.size
    have l1 := ownX_least BW o1.lt
    replace BW := stepB BW hb2
    replace k0 := (hb2.cell (p := ⟨w.heap.size, 0, none⟩) (Nat.lt_of_lt_of_le k0b hq2)).trans k0
    replace k1 := (hb2.cell (p := ⟨w.heap.size, 1, none⟩) (Nat.lt_of_lt_of_le k1b hq2)).trans k1
    clear hb2 hq2
    go_wp2_with fail
    refine (specSplitC_c _ n A1 c1 xs _ o1.rd (Nat.le_refl _) hm).mono ?_
    rintro e w3 ⟨A2, c2, rfl, o2, hb3⟩
    have hq3 := BW.size
    have no12 := ownX_older o1.lt o2.lt (Nat.le_refl _)
    have n2o1 := ownX_newer o2.lt o1.lt (Nat.le_refl _)
    have l2 := ownX_least BW o2.lt
    replace BW := stepB BW hb3
    replace k0 := (hb3.cell (p := ⟨w.heap.size, 0, none⟩) (Nat.lt_of_lt_of_le k0b hq3)).trans k0
    replace k1 := (hb3.cell (p := ⟨w.heap.size, 1, none⟩) (Nat.lt_of_lt_of_le k1b hq3)).trans k1
    replace o1 := o1.below hb3
    clear hb3 hq3
    clear o1
    go_wp2_with fail
    refine (toTar_c F _ _ xs _ ((h0.below BW).more BW.size) hbig).mono ?_
    rintro e w4 ⟨A3, c3, rfl, o3, hb4⟩
    have hq4 := BW.size
    have no23 := ownX_older o2.lt o3.lt (Nat.le_refl _)
    have n3o2 := ownX_newer o3.lt o2.lt (Nat.le_refl _)
    have l3 := ownX_least BW o3.lt
    replace BW := stepB BW hb4
    replace k0 := (hb4.cell (p := ⟨w.heap.size, 0, none⟩) (Nat.lt_of_lt_of_le k0b hq4)).trans k0
    replace k1 := (hb4.cell (p := ⟨w.heap.size, 1, none⟩) (Nat.lt_of_lt_of_le k1b hq4)).trans k1
    replace o2 := o2.below hb4
    clear hb4 hq4
    go_wp2_with fail
    obtain ⟨V, hV⟩ : ∃ V, V = w4.alloc (.cells #[.int .i64 F, .slice A3 xs.length c3] 29) := ⟨_, rfl⟩
    rw [← hV]
    have qb : w4.heap.size < V.heap.size := by rw [hV]; simp
    have q0 : V.cell? ⟨w4.heap.size, 0, none⟩ = some (.int .i64 F) := by rw [hV]; simp [go_sem]
    have q1 : V.cell? ⟨w4.heap.size, 1, none⟩ = some (.slice A3 xs.length c3) := by rw [hV]; simp [go_sem]
    have hqV := BW.size
    replace k0 : V.cell? ⟨w.heap.size, 0, none⟩ = some (.int .i64 F) := by rw [hV]; exact (World.cell?_alloc_lt _ _ _ (Nat.lt_of_lt_of_le k0b hqV)).trans k0
    replace k1 : V.cell? ⟨w.heap.size, 1, none⟩ = some (.slice A xs.length c) := by rw [hV]; exact (World.cell?_alloc_lt _ _ _ (Nat.lt_of_lt_of_le k1b hqV)).trans k1
    replace o3 : OwnP V w3.heap.size (.slice A3 xs.length c3) xs := by rw [hV]; exact o3.alloc _
    have ho2 := o2.alloc (.cells #[.int .i64 F, .slice A3 xs.length c3] 29)
    rw [← hV] at ho2
    replace o2 := ho2
    clear ho2
    replace BW : Below W.heap.size W V := by rw [hV]; exact BW.alloc hqV _
    generalize w4.heap.size = q at qb q0 q1 ⊢
    clear hV hqV
    go_wp2_with fail
    refine (implSplitC_c _ n A3 c3 xs _ o3.rd (Nat.le_refl _) hm).mono ?_
    rintro e w5 ⟨A4, c4, rfl, o4, hb5⟩
    have hq5 := BW.size
    have no24 := ownX_older o2.lt o4.lt (Nat.le_refl _)
    have n4o2 := ownX_newer o4.lt o2.lt (Nat.le_refl _)
    have no34 := ownX_older o3.lt o4.lt (Nat.le_refl _)
    have n4o3 := ownX_newer o4.lt o3.lt (Nat.le_refl _)
    have l4 := ownX_least BW o4.lt
    replace BW := stepB BW hb5
    replace k0 := (hb5.cell (p := ⟨w.heap.size, 0, none⟩) (Nat.lt_of_lt_of_le k0b hq5)).trans k0
    replace k1 := (hb5.cell (p := ⟨w.heap.size, 1, none⟩) (Nat.lt_of_lt_of_le k1b hq5)).trans k1
    replace q0 := (hb5.cell (p := ⟨q, 0, none⟩) qb).trans q0
    replace q1 := (hb5.cell (p := ⟨q, 1, none⟩) qb).trans q1
    replace qb := Nat.lt_of_lt_of_le qb hb5.size
    replace o2 := o2.below hb5
    replace o3 := o3.below hb5
    clear hb5 hq5
    go_wp2_with fail
    refine (eqIntS_c _ _ _ _ _ _ o4.rd o2.rd (by omega)).mono ?_
    rintro e w' ⟨rfl, nd6, rfl⟩
    replace BW := below_drewN BW nd6
    replace o2 := o2.drewN nd6
    replace o3 := o3.drewN nd6
    replace o4 := o4.drewN nd6
    go_wp2_with fail
    go_region_held3 (fun w' => w'.cell? ⟨w.heap.size, 0, none⟩ = some (.int .i64 F) ∧ w'.cell? ⟨w.heap.size, 1, none⟩ = some (.slice A xs.length c) ∧ w'.cell? ⟨q, 0, none⟩ = some (.int .i64 F) ∧ w'.cell? ⟨q, 1, none⟩ = some (.slice A3 xs.length c3)) (simp [*]) (first | (go_at_call 17; refine (toTar_c F _ _ xs _ (((h0.below BW).more BW.size).drewN 1) hbig).mono ?_; rintro e w7 ⟨A5, c5, rfl, o5, hb7⟩; replace BW := BW.drew; replace o2 := o2.drewN 1; replace o3 := o3.drewN 1; replace o4 := o4.drewN 1; have hq7 := BW.size; have no25 := ownX_older o2.lt o5.lt (Nat.le_refl _); have n5o2 := ownX_newer o5.lt o2.lt (Nat.le_refl _); have no35 := ownX_older o3.lt o5.lt (Nat.le_refl _); have n5o3 := ownX_newer o5.lt o3.lt (Nat.le_refl _); have no45 := ownX_older o4.lt o5.lt (Nat.le_refl _); have n5o4 := ownX_newer o5.lt o4.lt (Nat.le_refl _); have l5 := ownX_least BW o5.lt; replace BW := stepB BW hb7; replace k0 := (hb7.cell (p := ⟨w.heap.size, 0, none⟩) (Nat.lt_of_lt_of_le k0b hq7)).trans k0; replace k1 := (hb7.cell (p := ⟨w.heap.size, 1, none⟩) (Nat.lt_of_lt_of_le k1b hq7)).trans k1; replace q0 := (hb7.cell (p := ⟨q, 0, none⟩) qb).trans q0; replace q1 := (hb7.cell (p := ⟨q, 1, none⟩) qb).trans q1; replace qb := Nat.lt_of_lt_of_le qb hb7.size; replace o2 := o2.below hb7; replace o3 := o3.below hb7; replace o4 := o4.below hb7; clear hb7 hq7) | (go_at_call 19; refine (eqTar_c F _ _ _ _ xs _ o3.rd o5.rd (Nat.le_refl _) (Nat.le_refl _) (by omega)).mono ?_; rintro e w8 ⟨rfl, hb8⟩; have hq8 := BW.size; replace BW := stepB BW hb8; replace k0 := (hb8.cell (p := ⟨w.heap.size, 0, none⟩) (Nat.lt_of_lt_of_le k0b hq8)).trans k0; replace k1 := (hb8.cell (p := ⟨w.heap.size, 1, none⟩) (Nat.lt_of_lt_of_le k1b hq8)).trans k1; replace q0 := (hb8.cell (p := ⟨q, 0, none⟩) qb).trans q0; replace q1 := (hb8.cell (p := ⟨q, 1, none⟩) qb).trans q1; replace qb := Nat.lt_of_lt_of_le qb hb8.size; replace o2 := o2.below hb8; replace o3 := o3.below hb8; replace o4 := o4.below hb8; replace o5 := o5.below hb8; clear hb8 hq8))
    clear o5
    go_wp2_with fail
    have hq9 := BW.size
    refine (markTar_c F _ _ _ _ _ _ o3 (by omega) (by omega) (by omega)).mono ?_
    rintro e w9 ⟨rfl, om9, hg9⟩
    replace BW := stepM BW hg9 l3
    replace k0 := (World.cell?_of_block (a := ⟨w.heap.size, 0, none⟩) (hg9.block _ (Nat.lt_of_lt_of_le k0b hq9) (fun e => absurd (l3 _ e.symm) (Nat.not_le_of_lt k0b)))).trans k0
    replace k1 := (World.cell?_of_block (a := ⟨w.heap.size, 1, none⟩) (hg9.block _ (Nat.lt_of_lt_of_le k1b hq9) (fun e => absurd (l3 _ e.symm) (Nat.not_le_of_lt k1b)))).trans k1
    replace o2 := o2.kept hg9 no23
    replace o4 := o4.kept hg9 n4o3
    have r3 := marksP_rd om9
    clear o3 om9 hg9 hq9
    clear r3
    go_wp2_with fail
    refine (eqIntS_c _ _ _ _ _ _ o4.rd o2.rd (by omega)).mono ?_
    rintro e w' ⟨rfl, nd10, rfl⟩
    replace BW := below_drewN BW nd10
    replace o2 := o2.drewN nd10
    replace o4 := o4.drewN nd10
    go_wp2_with fail
    have hq11 := BW.size
    refine (markIntS_c _ _ _ _ _ _ o4 (by omega) (by omega) (by omega)).mono ?_
    rintro e w11 ⟨rfl, om11, hg11⟩
    replace BW := stepM BW hg11 l4
    replace k0 := (World.cell?_of_block (a := ⟨w.heap.size, 0, none⟩) (hg11.block _ (Nat.lt_of_lt_of_le k0b hq11) (fun e => absurd (l4 _ e.symm) (Nat.not_le_of_lt k0b)))).trans k0
    replace k1 := (World.cell?_of_block (a := ⟨w.heap.size, 1, none⟩) (hg11.block _ (Nat.lt_of_lt_of_le k1b hq11) (fun e => absurd (l4 _ e.symm) (Nat.not_le_of_lt k1b)))).trans k1
    replace o2 := o2.kept hg11 no24
    have r4 := marks_rd om11
    clear o4 om11 hg11 hq11
    go_wp2_with fail
    refine (heldIntS_c _ _ _ _ _ r4 (by omega) (by omega) (by omega)).mono ?_
    rintro e w' ⟨rfl, rfl⟩
    go_wp2_with fail
    refine (toTar_c F _ _ xs _ ((h0.below BW).more BW.size) hbig).mono ?_
    rintro e w12 ⟨A6, c6, rfl, o6, hb12⟩
    have hq12 := BW.size
    have no26 := ownX_older o2.lt o6.lt (Nat.le_refl _)
    have n6o2 := ownX_newer o6.lt o2.lt (Nat.le_refl _)
    have l6 := ownX_least BW o6.lt
    replace BW := stepB BW hb12
    replace k0 := (hb12.cell (p := ⟨w.heap.size, 0, none⟩) (Nat.lt_of_lt_of_le k0b hq12)).trans k0
    replace k1 := (hb12.cell (p := ⟨w.heap.size, 1, none⟩) (Nat.lt_of_lt_of_le k1b hq12)).trans k1
    replace o2 := o2.below hb12
    replace r4 := (r4.below hb12).more hb12.size
    clear hb12 hq12
    go_wp2_with fail
    refine (implSplitC_c _ n A6 c6 xs _ o6.rd (Nat.le_refl _) hm).mono ?_
    rintro e w13 ⟨A7, c7, rfl, o7, hb13⟩
    have hq13 := BW.size
    have no27 := ownX_older o2.lt o7.lt (Nat.le_refl _)
    have n7o2 := ownX_newer o7.lt o2.lt (Nat.le_refl _)
    have no67 := ownX_older o6.lt o7.lt (Nat.le_refl _)
    have n7o6 := ownX_newer o7.lt o6.lt (Nat.le_refl _)
    have l7 := ownX_least BW o7.lt
    replace BW := stepB BW hb13
    replace k0 := (hb13.cell (p := ⟨w.heap.size, 0, none⟩) (Nat.lt_of_lt_of_le k0b hq13)).trans k0
    replace k1 := (hb13.cell (p := ⟨w.heap.size, 1, none⟩) (Nat.lt_of_lt_of_le k1b hq13)).trans k1
    replace o2 := o2.below hb13
    replace o6 := o6.below hb13
    replace r4 := (r4.below hb13).more hb13.size
    clear hb13 hq13
    clear o6
    go_wp2_with fail
    refine (eqIntS_c _ _ _ _ _ _ o7.rd o2.rd (by omega)).mono ?_
    rintro e w' ⟨rfl, nd14, rfl⟩
    replace BW := below_drewN BW nd14
    replace o2 := o2.drewN nd14
    replace o7 := o7.drewN nd14
    replace r4 := r4.drewN nd14
    go_wp2_with fail
    refine (heldIntS_c _ _ _ _ _ r4 (by omega) (by omega) (by omega)).mono ?_
    rintro e w' ⟨rfl, rfl⟩
    go_wp2
    go_ret
    exact ⟨rfl, B0.trans (BW.mono (Nat.le_of_lt k0b))⟩
  · go_enter Try.func11, Try.ntmps11
    go_wp2_with fail
    rw [← HW.out]
    clear HW
    go_wp2_with fail
    refine (szTar_no F A c xs _ (by omega) hmax).mono ?_
    rintro e w1 ⟨rfl, hb1⟩
    go_wp2
    go_ret
    exact ⟨rfl, B0.trans (hb1.mono (Nat.le_of_lt k0b))⟩
end Go.Proofs.Ytbfaejacfhblkaa

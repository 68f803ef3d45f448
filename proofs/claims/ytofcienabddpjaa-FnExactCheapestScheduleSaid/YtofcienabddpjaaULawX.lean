/- The law on CheapestSchedule, walked. -/
import Derived.Test.YtofcienabddpjaaUMark
import Derived.Test.YtofcienabddpjaaQCheap
import Derived.Test.YtofcienabddpjaaQRef
namespace Go.Proofs.Ytofcienabddpjaa
open Go.RowKit

set_option maxHeartbeats 4000000 in
theorem cheapestSchedule_law (L E M P : Int) (A A' : Option Addr) (c c' : Nat) (xs ys : List Int) (w : World) (h : RdI w w.heap.size A xs) (i : RdI w w.heap.size A' ys) (hmax : xs.length ≤ 9223372036854775807) (hmax2 : ys.length ≤ 9223372036854775807) : Calls Try.prog 11 #[.agg #[.int .i64 L, .int .i64 E, .int .i64 M, .int .i64 P, .slice A xs.length c, .slice A' ys.length c']] w fun e w' => e = .returned (.bool true) ∧ Below w.heap.size w w' := by
  obtain ⟨W, hW⟩ : ∃ W, W = w.alloc (.cells #[.int .i64 L, .int .i64 E, .int .i64 M, .int .i64 P, .slice A xs.length c, .slice A' ys.length c'] 40) := ⟨_, rfl⟩
  have h0 : RdI W W.heap.size A xs := by rw [hW]; exact (h.alloc (Nat.le_refl _) _).more (by simp)
  have i0 : RdI W W.heap.size A' ys := by rw [hW]; exact (i.alloc (Nat.le_refl _) _).more (by simp)
  have k0b : w.heap.size < W.heap.size := by rw [hW]; simp
  have k1b := k0b
  have k2b := k0b
  have k3b := k0b
  have k4b := k0b
  have k5b := k0b
  have B0 : Below w.heap.size w W := by rw [hW]; exact (Below.refl _ _).alloc (Nat.le_refl _) _
  have k0 : W.cell? ⟨w.heap.size, 0, none⟩ = some (.int .i64 L) := by rw [hW]; simp [go_sem]
  have k1 : W.cell? ⟨w.heap.size, 1, none⟩ = some (.int .i64 E) := by rw [hW]; simp [go_sem]
  have k2 : W.cell? ⟨w.heap.size, 2, none⟩ = some (.int .i64 M) := by rw [hW]; simp [go_sem]
  have k3 : W.cell? ⟨w.heap.size, 3, none⟩ = some (.int .i64 P) := by rw [hW]; simp [go_sem]
  have k4 : W.cell? ⟨w.heap.size, 4, none⟩ = some (.slice A xs.length c) := by rw [hW]; simp [go_sem]
  have k5 : W.cell? ⟨w.heap.size, 5, none⟩ = some (.slice A' ys.length c') := by rw [hW]; simp [go_sem]
  have BW := Below.refl W.heap.size W
  have HW := Lib.hid hW
  clear hW h i
  by_cases hsum : xs.length + ys.length ≤ 1048576
  · have hsz : ¬ (1048576 - (xs.length : Int) - (ys.length : Int) < 0) := by omega
    have hbig : xs.length ≤ 1048576 := by omega
    have hbig2 : ys.length ≤ 1048576 := by omega
    have hr : (cheapT E M P L xs ys).1.length ≤ 1048576 := Nat.le_trans (cheapT_len E M P L xs ys) hbig2
    clear hmax hmax2
    go_enter Try.func11, Try.ntmps11
    go_wp2_with fail
    rw [← HW.out]
    clear HW
    go_wp2_with fail
    refine (szPm_ok _ _ _ _ _ _ _ _ xs ys _ hsum).mono ?_
    rintro e w1 ⟨rfl, hb1⟩
    have hq1 := BW.size
    replace BW := stepB BW hb1
    replace k0 := (hb1.cell (p := ⟨w.heap.size, 0, none⟩) (Nat.lt_of_lt_of_le k0b hq1)).trans k0
    replace k1 := (hb1.cell (p := ⟨w.heap.size, 1, none⟩) (Nat.lt_of_lt_of_le k1b hq1)).trans k1
    replace k2 := (hb1.cell (p := ⟨w.heap.size, 2, none⟩) (Nat.lt_of_lt_of_le k2b hq1)).trans k2
    replace k3 := (hb1.cell (p := ⟨w.heap.size, 3, none⟩) (Nat.lt_of_lt_of_le k3b hq1)).trans k3
    replace k4 := (hb1.cell (p := ⟨w.heap.size, 4, none⟩) (Nat.lt_of_lt_of_le k4b hq1)).trans k4
    replace k5 := (hb1.cell (p := ⟨w.heap.size, 5, none⟩) (Nat.lt_of_lt_of_le k5b hq1)).trans k5
    clear hb1 hq1
    go_wp2_with fail
    refine (toPumping_c _ _ _ _ _ _ _ _ xs ys _ (((h0.below BW).more BW.size)) (((i0.below BW).more BW.size)) hbig hbig2).mono ?_
    rintro e w2 ⟨A1, c1, A2, c2, rfl, oo, hb2⟩
    have hq2 := BW.size
    have o1 := oo.1
    have o2 := oo.2.1
    have no12 := apart_of' oo.2.2
    have n2o1 := apart_of oo.2.2
    have l1 := own_least BW o1
    have l2 := own_least BW o2
    replace BW := stepB BW hb2
    replace k0 := (hb2.cell (p := ⟨w.heap.size, 0, none⟩) (Nat.lt_of_lt_of_le k0b hq2)).trans k0
    replace k1 := (hb2.cell (p := ⟨w.heap.size, 1, none⟩) (Nat.lt_of_lt_of_le k1b hq2)).trans k1
    replace k2 := (hb2.cell (p := ⟨w.heap.size, 2, none⟩) (Nat.lt_of_lt_of_le k2b hq2)).trans k2
    replace k3 := (hb2.cell (p := ⟨w.heap.size, 3, none⟩) (Nat.lt_of_lt_of_le k3b hq2)).trans k3
    replace k4 := (hb2.cell (p := ⟨w.heap.size, 4, none⟩) (Nat.lt_of_lt_of_le k4b hq2)).trans k4
    replace k5 := (hb2.cell (p := ⟨w.heap.size, 5, none⟩) (Nat.lt_of_lt_of_le k5b hq2)).trans k5
    clear hb2 hq2 oo
    go_wp2_with fail
    refine (specCheap_c L E M P A1 A2 c1 c2 xs ys _ o1.rd o2.rd (Nat.le_refl _) (Nat.le_refl _) hbig hbig2).mono ?_
    rintro e w3 ⟨A3, c3, rfl, o3, hb3⟩
    have hq3 := BW.size
    have no13 := own_older o1 o3 (Nat.le_refl _)
    have n3o1 := own_newer o3 o1 (Nat.le_refl _)
    have no23 := own_older o2 o3 (Nat.le_refl _)
    have n3o2 := own_newer o3 o2 (Nat.le_refl _)
    have l3 := own_least BW o3
    replace BW := stepB BW hb3
    replace k0 := (hb3.cell (p := ⟨w.heap.size, 0, none⟩) (Nat.lt_of_lt_of_le k0b hq3)).trans k0
    replace k1 := (hb3.cell (p := ⟨w.heap.size, 1, none⟩) (Nat.lt_of_lt_of_le k1b hq3)).trans k1
    replace k2 := (hb3.cell (p := ⟨w.heap.size, 2, none⟩) (Nat.lt_of_lt_of_le k2b hq3)).trans k2
    replace k3 := (hb3.cell (p := ⟨w.heap.size, 3, none⟩) (Nat.lt_of_lt_of_le k3b hq3)).trans k3
    replace k4 := (hb3.cell (p := ⟨w.heap.size, 4, none⟩) (Nat.lt_of_lt_of_le k4b hq3)).trans k4
    replace k5 := (hb3.cell (p := ⟨w.heap.size, 5, none⟩) (Nat.lt_of_lt_of_le k5b hq3)).trans k5
    replace o1 := o1.below hb3
    replace o2 := o2.below hb3
    clear hb3 hq3
    clear o1
    clear o2
    go_wp2_with fail
    refine (toPumping_c _ _ _ _ _ _ _ _ xs ys _ (((h0.below BW).more BW.size)) (((i0.below BW).more BW.size)) hbig hbig2).mono ?_
    rintro e w4 ⟨A4, c4, A5, c5, rfl, oo, hb4⟩
    have hq4 := BW.size
    have o4 := oo.1
    have o5 := oo.2.1
    have no45 := apart_of' oo.2.2
    have n5o4 := apart_of oo.2.2
    have no34 := own_older o3 o4 (Nat.le_refl _)
    have n4o3 := own_newer o4 o3 (Nat.le_refl _)
    have l4 := own_least BW o4
    have no35 := own_older o3 o5 (Nat.le_refl _)
    have n5o3 := own_newer o5 o3 (Nat.le_refl _)
    have l5 := own_least BW o5
    replace BW := stepB BW hb4
    replace k0 := (hb4.cell (p := ⟨w.heap.size, 0, none⟩) (Nat.lt_of_lt_of_le k0b hq4)).trans k0
    replace k1 := (hb4.cell (p := ⟨w.heap.size, 1, none⟩) (Nat.lt_of_lt_of_le k1b hq4)).trans k1
    replace k2 := (hb4.cell (p := ⟨w.heap.size, 2, none⟩) (Nat.lt_of_lt_of_le k2b hq4)).trans k2
    replace k3 := (hb4.cell (p := ⟨w.heap.size, 3, none⟩) (Nat.lt_of_lt_of_le k3b hq4)).trans k3
    replace k4 := (hb4.cell (p := ⟨w.heap.size, 4, none⟩) (Nat.lt_of_lt_of_le k4b hq4)).trans k4
    replace k5 := (hb4.cell (p := ⟨w.heap.size, 5, none⟩) (Nat.lt_of_lt_of_le k5b hq4)).trans k5
    replace o3 := o3.below hb4
    clear hb4 hq4 oo
    have cap4 := own_nilcap o4
    have cap5 := own_nilcap o5
    go_wp2_with fail
    obtain ⟨V, hV⟩ : ∃ V, V = w4.alloc (.cells #[.int .i64 L, .int .i64 E, .int .i64 M, .int .i64 P, .slice A4 xs.length c4, .slice A5 ys.length c5] 28) := ⟨_, rfl⟩
    rw [← hV]
    have qb : w4.heap.size < V.heap.size := by rw [hV]; simp
    have q0 : V.cell? ⟨w4.heap.size, 0, none⟩ = some (.int .i64 L) := by rw [hV]; simp [go_sem]
    have q1 : V.cell? ⟨w4.heap.size, 1, none⟩ = some (.int .i64 E) := by rw [hV]; simp [go_sem]
    have q2 : V.cell? ⟨w4.heap.size, 2, none⟩ = some (.int .i64 M) := by rw [hV]; simp [go_sem]
    have q3 : V.cell? ⟨w4.heap.size, 3, none⟩ = some (.int .i64 P) := by rw [hV]; simp [go_sem]
    have q4 : V.cell? ⟨w4.heap.size, 4, none⟩ = some (.slice A4 xs.length c4) := by rw [hV]; simp [go_sem]
    have q5 : V.cell? ⟨w4.heap.size, 5, none⟩ = some (.slice A5 ys.length c5) := by rw [hV]; simp [go_sem]
    have hqV := BW.size
    replace k0 : V.cell? ⟨w.heap.size, 0, none⟩ = some (.int .i64 L) := by rw [hV]; exact (World.cell?_alloc_lt _ _ _ (Nat.lt_of_lt_of_le k0b hqV)).trans k0
    replace k1 : V.cell? ⟨w.heap.size, 1, none⟩ = some (.int .i64 E) := by rw [hV]; exact (World.cell?_alloc_lt _ _ _ (Nat.lt_of_lt_of_le k1b hqV)).trans k1
    replace k2 : V.cell? ⟨w.heap.size, 2, none⟩ = some (.int .i64 M) := by rw [hV]; exact (World.cell?_alloc_lt _ _ _ (Nat.lt_of_lt_of_le k2b hqV)).trans k2
    replace k3 : V.cell? ⟨w.heap.size, 3, none⟩ = some (.int .i64 P) := by rw [hV]; exact (World.cell?_alloc_lt _ _ _ (Nat.lt_of_lt_of_le k3b hqV)).trans k3
    replace k4 : V.cell? ⟨w.heap.size, 4, none⟩ = some (.slice A xs.length c) := by rw [hV]; exact (World.cell?_alloc_lt _ _ _ (Nat.lt_of_lt_of_le k4b hqV)).trans k4
    replace k5 : V.cell? ⟨w.heap.size, 5, none⟩ = some (.slice A' ys.length c') := by rw [hV]; exact (World.cell?_alloc_lt _ _ _ (Nat.lt_of_lt_of_le k5b hqV)).trans k5
    replace o3 := (show OwnI V _ _ _ by rw [hV]; exact o3.alloc _)
    replace o4 := (show OwnI V _ _ _ by rw [hV]; exact o4.alloc _)
    replace o5 := (show OwnI V _ _ _ by rw [hV]; exact o5.alloc _)
    replace BW : Below W.heap.size W V := by rw [hV]; exact BW.alloc hqV _
    generalize w4.heap.size = q at qb q0 q1 q2 q3 q4 q5 ⊢
    clear hV hqV
    go_wp2_with fail
    refine (implCheap_c L E M P A4 A5 c4 c5 xs ys _ o4.rd o5.rd (Nat.le_refl _) (Nat.le_refl _) cap4 cap5 hbig hbig2).mono ?_
    rintro e w5 ⟨A6, c6, rfl, o6, hb5⟩
    have hq5 := BW.size
    have no36 := own_older o3 o6 (Nat.le_refl _)
    have n6o3 := own_newer o6 o3 (Nat.le_refl _)
    have no46 := own_older o4 o6 (Nat.le_refl _)
    have n6o4 := own_newer o6 o4 (Nat.le_refl _)
    have no56 := own_older o5 o6 (Nat.le_refl _)
    have n6o5 := own_newer o6 o5 (Nat.le_refl _)
    have l6 := own_least BW o6
    replace BW := stepB BW hb5
    replace k0 := (hb5.cell (p := ⟨w.heap.size, 0, none⟩) (Nat.lt_of_lt_of_le k0b hq5)).trans k0
    replace k1 := (hb5.cell (p := ⟨w.heap.size, 1, none⟩) (Nat.lt_of_lt_of_le k1b hq5)).trans k1
    replace k2 := (hb5.cell (p := ⟨w.heap.size, 2, none⟩) (Nat.lt_of_lt_of_le k2b hq5)).trans k2
    replace k3 := (hb5.cell (p := ⟨w.heap.size, 3, none⟩) (Nat.lt_of_lt_of_le k3b hq5)).trans k3
    replace k4 := (hb5.cell (p := ⟨w.heap.size, 4, none⟩) (Nat.lt_of_lt_of_le k4b hq5)).trans k4
    replace k5 := (hb5.cell (p := ⟨w.heap.size, 5, none⟩) (Nat.lt_of_lt_of_le k5b hq5)).trans k5
    replace q0 := (hb5.cell (p := ⟨q, 0, none⟩) qb).trans q0
    replace q1 := (hb5.cell (p := ⟨q, 1, none⟩) qb).trans q1
    replace q2 := (hb5.cell (p := ⟨q, 2, none⟩) qb).trans q2
    replace q3 := (hb5.cell (p := ⟨q, 3, none⟩) qb).trans q3
    replace q4 := (hb5.cell (p := ⟨q, 4, none⟩) qb).trans q4
    replace q5 := (hb5.cell (p := ⟨q, 5, none⟩) qb).trans q5
    replace qb := Nat.lt_of_lt_of_le qb hb5.size
    replace o3 := o3.below hb5
    replace o4 := o4.below hb5
    replace o5 := o5.below hb5
    clear hb5 hq5
    go_wp2_with fail
    refine (eqIntS_c _ _ _ _ _ _ o6.rd o3.rd (by omega)).mono ?_
    rintro e w' ⟨rfl, nd6, rfl⟩
    replace BW := below_drewN BW nd6
    replace o3 := o3.drewN nd6
    replace o4 := o4.drewN nd6
    replace o5 := o5.drewN nd6
    replace o6 := o6.drewN nd6
    go_wp2_with fail
    go_region_held3 (fun w' => w'.cell? ⟨w.heap.size, 0, none⟩ = some (.int .i64 L) ∧ w'.cell? ⟨w.heap.size, 1, none⟩ = some (.int .i64 E) ∧ w'.cell? ⟨w.heap.size, 2, none⟩ = some (.int .i64 M) ∧ w'.cell? ⟨w.heap.size, 3, none⟩ = some (.int .i64 P) ∧ w'.cell? ⟨w.heap.size, 4, none⟩ = some (.slice A xs.length c) ∧ w'.cell? ⟨w.heap.size, 5, none⟩ = some (.slice A' ys.length c') ∧ w'.cell? ⟨q, 0, none⟩ = some (.int .i64 L) ∧ w'.cell? ⟨q, 1, none⟩ = some (.int .i64 E) ∧ w'.cell? ⟨q, 2, none⟩ = some (.int .i64 M) ∧ w'.cell? ⟨q, 3, none⟩ = some (.int .i64 P) ∧ w'.cell? ⟨q, 4, none⟩ = some (.slice A4 xs.length c4) ∧ w'.cell? ⟨q, 5, none⟩ = some (.slice A5 ys.length c5)) (simp [*]) (first | (go_at_call 25; refine (toPumping_c _ _ _ _ _ _ _ _ xs ys _ (((h0.below BW).more BW.size).drewN 1) (((i0.below BW).more BW.size).drewN 1) hbig hbig2).mono ?_; rintro e w7 ⟨A7, c7, A8, c8, rfl, oo, hb7⟩; replace BW := BW.drew; replace o3 := o3.drewN 1; replace o4 := o4.drewN 1; replace o5 := o5.drewN 1; replace o6 := o6.drewN 1; have hq7 := BW.size; have o7 := oo.1; have o8 := oo.2.1; have no78 := apart_of' oo.2.2; have n8o7 := apart_of oo.2.2; have no37 := own_older o3 o7 (Nat.le_refl _); have n7o3 := own_newer o7 o3 (Nat.le_refl _); have no47 := own_older o4 o7 (Nat.le_refl _); have n7o4 := own_newer o7 o4 (Nat.le_refl _); have no57 := own_older o5 o7 (Nat.le_refl _); have n7o5 := own_newer o7 o5 (Nat.le_refl _); have no67 := own_older o6 o7 (Nat.le_refl _); have n7o6 := own_newer o7 o6 (Nat.le_refl _); have l7 := own_least BW o7; have no38 := own_older o3 o8 (Nat.le_refl _); have n8o3 := own_newer o8 o3 (Nat.le_refl _); have no48 := own_older o4 o8 (Nat.le_refl _); have n8o4 := own_newer o8 o4 (Nat.le_refl _); have no58 := own_older o5 o8 (Nat.le_refl _); have n8o5 := own_newer o8 o5 (Nat.le_refl _); have no68 := own_older o6 o8 (Nat.le_refl _); have n8o6 := own_newer o8 o6 (Nat.le_refl _); have l8 := own_least BW o8; replace BW := stepB BW hb7; replace k0 := (hb7.cell (p := ⟨w.heap.size, 0, none⟩) (Nat.lt_of_lt_of_le k0b hq7)).trans k0; replace k1 := (hb7.cell (p := ⟨w.heap.size, 1, none⟩) (Nat.lt_of_lt_of_le k1b hq7)).trans k1; replace k2 := (hb7.cell (p := ⟨w.heap.size, 2, none⟩) (Nat.lt_of_lt_of_le k2b hq7)).trans k2; replace k3 := (hb7.cell (p := ⟨w.heap.size, 3, none⟩) (Nat.lt_of_lt_of_le k3b hq7)).trans k3; replace k4 := (hb7.cell (p := ⟨w.heap.size, 4, none⟩) (Nat.lt_of_lt_of_le k4b hq7)).trans k4; replace k5 := (hb7.cell (p := ⟨w.heap.size, 5, none⟩) (Nat.lt_of_lt_of_le k5b hq7)).trans k5; replace q0 := (hb7.cell (p := ⟨q, 0, none⟩) qb).trans q0; replace q1 := (hb7.cell (p := ⟨q, 1, none⟩) qb).trans q1; replace q2 := (hb7.cell (p := ⟨q, 2, none⟩) qb).trans q2; replace q3 := (hb7.cell (p := ⟨q, 3, none⟩) qb).trans q3; replace q4 := (hb7.cell (p := ⟨q, 4, none⟩) qb).trans q4; replace q5 := (hb7.cell (p := ⟨q, 5, none⟩) qb).trans q5; replace qb := Nat.lt_of_lt_of_le qb hb7.size; replace o3 := o3.below hb7; replace o4 := o4.below hb7; replace o5 := o5.below hb7; replace o6 := o6.below hb7; clear hb7 hq7 oo) | (go_at_call 26; refine (eqPumping_c _ _ _ _ _ _ _ _ _ _ _ _ xs ys _ o4.rd o5.rd o7.rd o8.rd (Nat.le_refl _) (Nat.le_refl _) (Nat.le_refl _) (Nat.le_refl _) (by omega) (by omega)).mono ?_; rintro e w8 ⟨rfl, hb8⟩; have hq8 := BW.size; replace BW := stepB BW hb8; replace k0 := (hb8.cell (p := ⟨w.heap.size, 0, none⟩) (Nat.lt_of_lt_of_le k0b hq8)).trans k0; replace k1 := (hb8.cell (p := ⟨w.heap.size, 1, none⟩) (Nat.lt_of_lt_of_le k1b hq8)).trans k1; replace k2 := (hb8.cell (p := ⟨w.heap.size, 2, none⟩) (Nat.lt_of_lt_of_le k2b hq8)).trans k2; replace k3 := (hb8.cell (p := ⟨w.heap.size, 3, none⟩) (Nat.lt_of_lt_of_le k3b hq8)).trans k3; replace k4 := (hb8.cell (p := ⟨w.heap.size, 4, none⟩) (Nat.lt_of_lt_of_le k4b hq8)).trans k4; replace k5 := (hb8.cell (p := ⟨w.heap.size, 5, none⟩) (Nat.lt_of_lt_of_le k5b hq8)).trans k5; replace q0 := (hb8.cell (p := ⟨q, 0, none⟩) qb).trans q0; replace q1 := (hb8.cell (p := ⟨q, 1, none⟩) qb).trans q1; replace q2 := (hb8.cell (p := ⟨q, 2, none⟩) qb).trans q2; replace q3 := (hb8.cell (p := ⟨q, 3, none⟩) qb).trans q3; replace q4 := (hb8.cell (p := ⟨q, 4, none⟩) qb).trans q4; replace q5 := (hb8.cell (p := ⟨q, 5, none⟩) qb).trans q5; replace qb := Nat.lt_of_lt_of_le qb hb8.size; replace o3 := o3.below hb8; replace o4 := o4.below hb8; replace o5 := o5.below hb8; replace o6 := o6.below hb8; replace o7 := o7.below hb8; replace o8 := o8.below hb8; clear hb8 hq8))
    clear o7
    clear o8
    go_wp2_with fail
    have hqa9 := BW.size
    refine (markPumping_c _ _ _ _ _ _ _ _ _ _ xs ys 1 _ o4 o5 n5o4 (by omega) (by omega) hbig hbig2).mono ?_
    rintro e w9 ⟨wm9, rfl, hga9, hgb9⟩
    replace BW := stepM BW hga9 l4
    replace k0 := (World.cell?_of_block (a := ⟨w.heap.size, 0, none⟩) (hga9.block _ (Nat.lt_of_lt_of_le k0b hqa9) (fun e => absurd (l4 _ e.symm) (Nat.not_le_of_lt k0b)))).trans k0
    replace k1 := (World.cell?_of_block (a := ⟨w.heap.size, 1, none⟩) (hga9.block _ (Nat.lt_of_lt_of_le k1b hqa9) (fun e => absurd (l4 _ e.symm) (Nat.not_le_of_lt k1b)))).trans k1
    replace k2 := (World.cell?_of_block (a := ⟨w.heap.size, 2, none⟩) (hga9.block _ (Nat.lt_of_lt_of_le k2b hqa9) (fun e => absurd (l4 _ e.symm) (Nat.not_le_of_lt k2b)))).trans k2
    replace k3 := (World.cell?_of_block (a := ⟨w.heap.size, 3, none⟩) (hga9.block _ (Nat.lt_of_lt_of_le k3b hqa9) (fun e => absurd (l4 _ e.symm) (Nat.not_le_of_lt k3b)))).trans k3
    replace k4 := (World.cell?_of_block (a := ⟨w.heap.size, 4, none⟩) (hga9.block _ (Nat.lt_of_lt_of_le k4b hqa9) (fun e => absurd (l4 _ e.symm) (Nat.not_le_of_lt k4b)))).trans k4
    replace k5 := (World.cell?_of_block (a := ⟨w.heap.size, 5, none⟩) (hga9.block _ (Nat.lt_of_lt_of_le k5b hqa9) (fun e => absurd (l4 _ e.symm) (Nat.not_le_of_lt k5b)))).trans k5
    replace o3 := o3.kept hga9 no34
    replace o6 := o6.kept hga9 n6o4
    have hqb9 := BW.size
    replace BW := stepM BW hgb9 l5
    replace k0 := (World.cell?_of_block (a := ⟨w.heap.size, 0, none⟩) (hgb9.block _ (Nat.lt_of_lt_of_le k0b hqb9) (fun e => absurd (l5 _ e.symm) (Nat.not_le_of_lt k0b)))).trans k0
    replace k1 := (World.cell?_of_block (a := ⟨w.heap.size, 1, none⟩) (hgb9.block _ (Nat.lt_of_lt_of_le k1b hqb9) (fun e => absurd (l5 _ e.symm) (Nat.not_le_of_lt k1b)))).trans k1
    replace k2 := (World.cell?_of_block (a := ⟨w.heap.size, 2, none⟩) (hgb9.block _ (Nat.lt_of_lt_of_le k2b hqb9) (fun e => absurd (l5 _ e.symm) (Nat.not_le_of_lt k2b)))).trans k2
    replace k3 := (World.cell?_of_block (a := ⟨w.heap.size, 3, none⟩) (hgb9.block _ (Nat.lt_of_lt_of_le k3b hqb9) (fun e => absurd (l5 _ e.symm) (Nat.not_le_of_lt k3b)))).trans k3
    replace k4 := (World.cell?_of_block (a := ⟨w.heap.size, 4, none⟩) (hgb9.block _ (Nat.lt_of_lt_of_le k4b hqb9) (fun e => absurd (l5 _ e.symm) (Nat.not_le_of_lt k4b)))).trans k4
    replace k5 := (World.cell?_of_block (a := ⟨w.heap.size, 5, none⟩) (hgb9.block _ (Nat.lt_of_lt_of_le k5b hqb9) (fun e => absurd (l5 _ e.symm) (Nat.not_le_of_lt k5b)))).trans k5
    replace o3 := o3.kept hgb9 no35
    replace o6 := o6.kept hgb9 n6o5
    clear o4 o5 hga9 hgb9 hqa9 hqb9
    clear q0 q1 q2 q3 q4 q5 qb
    have hk0 : ¬ (1 + (xs.length : Int) + (ys.length : Int) < 0) := by omega
    have hk1 : decide (1 + (xs.length : Int) + (ys.length : Int) < 0) = false := by simp; omega
    go_wp2_with fail
    refine (eqIntS_c _ _ _ _ _ _ o6.rd o3.rd (by omega)).mono ?_
    rintro e w' ⟨rfl, nd10, rfl⟩
    replace BW := below_drewN BW nd10
    replace o3 := o3.drewN nd10
    replace o6 := o6.drewN nd10
    go_wp2_with fail
    have hq11 := BW.size
    refine (markIntS_c _ _ _ _ _ _ o6 (by omega) (by omega) (by omega)).mono ?_
    rintro e w11 ⟨rfl, om11, hg11⟩
    replace BW := stepM BW hg11 l6
    replace k0 := (World.cell?_of_block (a := ⟨w.heap.size, 0, none⟩) (hg11.block _ (Nat.lt_of_lt_of_le k0b hq11) (fun e => absurd (l6 _ e.symm) (Nat.not_le_of_lt k0b)))).trans k0
    replace k1 := (World.cell?_of_block (a := ⟨w.heap.size, 1, none⟩) (hg11.block _ (Nat.lt_of_lt_of_le k1b hq11) (fun e => absurd (l6 _ e.symm) (Nat.not_le_of_lt k1b)))).trans k1
    replace k2 := (World.cell?_of_block (a := ⟨w.heap.size, 2, none⟩) (hg11.block _ (Nat.lt_of_lt_of_le k2b hq11) (fun e => absurd (l6 _ e.symm) (Nat.not_le_of_lt k2b)))).trans k2
    replace k3 := (World.cell?_of_block (a := ⟨w.heap.size, 3, none⟩) (hg11.block _ (Nat.lt_of_lt_of_le k3b hq11) (fun e => absurd (l6 _ e.symm) (Nat.not_le_of_lt k3b)))).trans k3
    replace k4 := (World.cell?_of_block (a := ⟨w.heap.size, 4, none⟩) (hg11.block _ (Nat.lt_of_lt_of_le k4b hq11) (fun e => absurd (l6 _ e.symm) (Nat.not_le_of_lt k4b)))).trans k4
    replace k5 := (World.cell?_of_block (a := ⟨w.heap.size, 5, none⟩) (hg11.block _ (Nat.lt_of_lt_of_le k5b hq11) (fun e => absurd (l6 _ e.symm) (Nat.not_le_of_lt k5b)))).trans k5
    replace o3 := o3.kept hg11 no36
    have r6 := marks_rd om11
    clear o6 om11 hg11 hq11
    go_wp2_with fail
    refine (heldIntS_c _ _ _ _ _ r6 (by omega) (by omega) (by omega)).mono ?_
    rintro e w' ⟨rfl, rfl⟩
    go_wp2_with fail
    refine (toPumping_c _ _ _ _ _ _ _ _ xs ys _ (((h0.below BW).more BW.size)) (((i0.below BW).more BW.size)) hbig hbig2).mono ?_
    rintro e w12 ⟨A9, c9, A10, c10, rfl, oo, hb12⟩
    have hq12 := BW.size
    have o9 := oo.1
    have o10 := oo.2.1
    have no910 := apart_of' oo.2.2
    have n10o9 := apart_of oo.2.2
    have no39 := own_older o3 o9 (Nat.le_refl _)
    have n9o3 := own_newer o9 o3 (Nat.le_refl _)
    have l9 := own_least BW o9
    have no310 := own_older o3 o10 (Nat.le_refl _)
    have n10o3 := own_newer o10 o3 (Nat.le_refl _)
    have l10 := own_least BW o10
    replace BW := stepB BW hb12
    replace k0 := (hb12.cell (p := ⟨w.heap.size, 0, none⟩) (Nat.lt_of_lt_of_le k0b hq12)).trans k0
    replace k1 := (hb12.cell (p := ⟨w.heap.size, 1, none⟩) (Nat.lt_of_lt_of_le k1b hq12)).trans k1
    replace k2 := (hb12.cell (p := ⟨w.heap.size, 2, none⟩) (Nat.lt_of_lt_of_le k2b hq12)).trans k2
    replace k3 := (hb12.cell (p := ⟨w.heap.size, 3, none⟩) (Nat.lt_of_lt_of_le k3b hq12)).trans k3
    replace k4 := (hb12.cell (p := ⟨w.heap.size, 4, none⟩) (Nat.lt_of_lt_of_le k4b hq12)).trans k4
    replace k5 := (hb12.cell (p := ⟨w.heap.size, 5, none⟩) (Nat.lt_of_lt_of_le k5b hq12)).trans k5
    replace o3 := o3.below hb12
    replace r6 := (r6.below hb12).more hb12.size
    clear hb12 hq12 oo
    have cap9 := own_nilcap o9
    have cap10 := own_nilcap o10
    go_wp2_with fail
    refine (implCheap_c L E M P A9 A10 c9 c10 xs ys _ o9.rd o10.rd (Nat.le_refl _) (Nat.le_refl _) cap9 cap10 hbig hbig2).mono ?_
    rintro e w13 ⟨A11, c11, rfl, o11, hb13⟩
    have hq13 := BW.size
    have no311 := own_older o3 o11 (Nat.le_refl _)
    have n11o3 := own_newer o11 o3 (Nat.le_refl _)
    have no911 := own_older o9 o11 (Nat.le_refl _)
    have n11o9 := own_newer o11 o9 (Nat.le_refl _)
    have no1011 := own_older o10 o11 (Nat.le_refl _)
    have n11o10 := own_newer o11 o10 (Nat.le_refl _)
    have l11 := own_least BW o11
    replace BW := stepB BW hb13
    replace k0 := (hb13.cell (p := ⟨w.heap.size, 0, none⟩) (Nat.lt_of_lt_of_le k0b hq13)).trans k0
    replace k1 := (hb13.cell (p := ⟨w.heap.size, 1, none⟩) (Nat.lt_of_lt_of_le k1b hq13)).trans k1
    replace k2 := (hb13.cell (p := ⟨w.heap.size, 2, none⟩) (Nat.lt_of_lt_of_le k2b hq13)).trans k2
    replace k3 := (hb13.cell (p := ⟨w.heap.size, 3, none⟩) (Nat.lt_of_lt_of_le k3b hq13)).trans k3
    replace k4 := (hb13.cell (p := ⟨w.heap.size, 4, none⟩) (Nat.lt_of_lt_of_le k4b hq13)).trans k4
    replace k5 := (hb13.cell (p := ⟨w.heap.size, 5, none⟩) (Nat.lt_of_lt_of_le k5b hq13)).trans k5
    replace o3 := o3.below hb13
    replace o9 := o9.below hb13
    replace o10 := o10.below hb13
    replace r6 := (r6.below hb13).more hb13.size
    clear hb13 hq13
    clear o9
    clear o10
    go_wp2_with fail
    refine (eqIntS_c _ _ _ _ _ _ o11.rd o3.rd (by omega)).mono ?_
    rintro e w' ⟨rfl, nd14, rfl⟩
    replace BW := below_drewN BW nd14
    replace o3 := o3.drewN nd14
    replace o11 := o11.drewN nd14
    replace r6 := r6.drewN nd14
    go_wp2_with fail
    refine (heldIntS_c _ _ _ _ _ r6 (by omega) (by omega) (by omega)).mono ?_
    rintro e w' ⟨rfl, rfl⟩
    go_wp2
    go_ret
    exact ⟨rfl, B0.trans (BW.mono (Nat.le_of_lt k0b))⟩
  · go_enter Try.func11, Try.ntmps11
    go_wp2_with fail
    rw [← HW.out]
    clear HW
    go_wp2_with fail
    refine (szPm_no _ _ _ _ _ _ _ _ xs ys _ (by omega) hmax hmax2).mono ?_
    rintro e w1 ⟨rfl, hb1⟩
    go_wp2
    go_ret
    exact ⟨rfl, B0.trans (hb1.mono (Nat.le_of_lt k0b))⟩
end Go.Proofs.Ytofcienabddpjaa

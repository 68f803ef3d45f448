/- The law on RaiseTariff, walked. -/
import Derived.Test.YtbfaejacfhblkaaTHeld
import Derived.Test.YtbfaejacfhblkaaTRaiS
import Derived.Test.YtbfaejacfhblkaaTRaiI
namespace Go.Proofs.Ytbfaejacfhblkaa
open Go.RowKit

set_option maxHeartbeats 4000000 in
theorem raiseTariff_law (F : Int) (A : Option Addr) (c : Nat) (xs : List (Int × Int)) (n : Int) (w : World) (h : RdP w w.heap.size A xs) (hmax : xs.length ≤ 9223372036854775807) : Calls Try.prog 9 #[.agg #[.int .i64 F, .slice A xs.length c], .int .i64 n] w fun e w' => e = .returned (.bool true) ∧ Below w.heap.size w w' := by
  obtain ⟨W, hW⟩ : ∃ W, W = w.alloc (.cells #[.int .i64 F, .slice A xs.length c] 24) := ⟨_, rfl⟩
  have h0 : RdP W W.heap.size A xs := by rw [hW]; exact (h.alloc (Nat.le_refl _) _).more (by simp)
  have k0b : w.heap.size < W.heap.size := by rw [hW]; simp
  have k1b := k0b
  have B0 : Below w.heap.size w W := by rw [hW]; exact (Below.refl _ _).alloc (Nat.le_refl _) _
  have k0 : W.cell? ⟨w.heap.size, 0, none⟩ = some (.int .i64 F) := by rw [hW]; simp [go_sem]
  have k1 : W.cell? ⟨w.heap.size, 1, none⟩ = some (.slice A xs.length c) := by rw [hW]; simp [go_sem]
  have BW := Below.refl W.heap.size W
  have HW := Lib.hid hW
  clear hW h
  by_cases hbig : xs.length ≤ 1048576
  · have hsz : ¬ (1048576 - (xs.length : Int) < 0) := by omega
    have hm : xs.length ≤ 4611686018427387904 := by omega
    have hr : (raiT F xs n).1.2.length ≤ 1048576 := raiT_len F xs n hbig
    clear hmax
    go_enter Try.func9, Try.ntmps9
    go_wp2_with fail
    rw [← HW.out]
    clear HW
    go_wp2_with fail
    refine (szTar_ok F A c xs _ hbig).mono ?_
    rintro e w1 ⟨rfl, hb1⟩
    have hq1 := BW.size
    replace BW := stepB BW hb1
    replace k0 := (hb1.cell (p := ⟨w.heap.size, 0, none⟩) (Nat.lt_of_lt_of_le k0b hq1)).trans k0
    replace k1 := (hb1.cell (p := ⟨w.heap.size, 1, none⟩) (Nat.lt_of_lt_of_le k1b hq1)).trans k1
    clear hb1 hq1
    go_wp2_with fail
    refine (toTar_c F _ _ xs _ ((h0.below BW).more BW.size) hbig).mono ?_
    rintro e w2 ⟨A1, c1, rfl, o1, hb2⟩
    have hq2 := BW.size
    have l1 := ownP_least BW o1
    replace BW := stepB BW hb2
    replace k0 := (hb2.cell (p := ⟨w.heap.size, 0, none⟩) (Nat.lt_of_lt_of_le k0b hq2)).trans k0
    replace k1 := (hb2.cell (p := ⟨w.heap.size, 1, none⟩) (Nat.lt_of_lt_of_le k1b hq2)).trans k1
    clear hb2 hq2
    go_wp2_with fail
    refine (specRai_c F n A1 c1 xs _ o1.rd (Nat.le_refl _) hm).mono ?_
    rintro e w3 ⟨A2, c2, rfl, o2, hb3⟩
    have hq3 := BW.size
    have no12 := ownP_older o1 o2 (Nat.le_refl _)
    have n2o1 := ownP_newer o2 o1 (Nat.le_refl _)
    have l2 := ownP_least BW o2
    replace BW := stepB BW hb3
    replace k0 := (hb3.cell (p := ⟨w.heap.size, 0, none⟩) (Nat.lt_of_lt_of_le k0b hq3)).trans k0
    replace k1 := (hb3.cell (p := ⟨w.heap.size, 1, none⟩) (Nat.lt_of_lt_of_le k1b hq3)).trans k1
    replace o1 := o1.below hb3
    clear hb3 hq3
    clear o1
    go_wp2_with fail
    obtain ⟨V3, hV⟩ : ∃ V, V = w3.alloc (.cells #[.int .i64 (raiT F xs n).1.1, .slice A2 (raiT F xs n).1.2.length c2] 29) := ⟨_, rfl⟩
    rw [← hV]
    have pb : w3.heap.size < V3.heap.size := by rw [hV]; simp
    have p0 : V3.cell? ⟨w3.heap.size, 0, none⟩ = some (.int .i64 (raiT F xs n).1.1) := by rw [hV]; simp [go_sem]
    have p1 : V3.cell? ⟨w3.heap.size, 1, none⟩ = some (.slice A2 (raiT F xs n).1.2.length c2) := by rw [hV]; simp [go_sem]
    have hqV := BW.size
    have epo2 : ∀ g, (Value.slice A2 (raiT F xs n).1.2.length c2).ownBlock = some g → g ≠ w3.heap.size := fun g hg => by have := (o2.lt g hg).2; omega
    replace k0 : V3.cell? ⟨w.heap.size, 0, none⟩ = some (.int .i64 F) := by rw [hV]; exact (World.cell?_alloc_lt _ _ _ (Nat.lt_of_lt_of_le k0b hqV)).trans k0
    replace k1 : V3.cell? ⟨w.heap.size, 1, none⟩ = some (.slice A xs.length c) := by rw [hV]; exact (World.cell?_alloc_lt _ _ _ (Nat.lt_of_lt_of_le k1b hqV)).trans k1
    have ho2 := o2.alloc (.cells #[.int .i64 (raiT F xs n).1.1, .slice A2 (raiT F xs n).1.2.length c2] 29)
    rw [← hV] at ho2
    replace o2 := ho2
    clear ho2
    replace BW : Below W.heap.size W V3 := by rw [hV]; exact BW.alloc hqV _
    generalize w3.heap.size = p at pb p0 p1 epo2 ⊢
    clear hV hqV
    go_wp2_with fail
    refine (toTar_c F _ _ xs _ ((h0.below BW).more BW.size) hbig).mono ?_
    rintro e w4 ⟨A3, c3, rfl, o3, hb4⟩
    have hq4 := BW.size
    have no23 := ownP_older o2 o3 (Nat.le_refl _)
    have n3o2 := ownP_newer o3 o2 (Nat.le_refl _)
    have l3 := ownP_least BW o3
    have epo3 : ∀ g, (Value.slice A3 xs.length c3).ownBlock = some g → g ≠ p := fun g hg => by have := (o3.lt g hg).1; omega
    replace BW := stepB BW hb4
    replace k0 := (hb4.cell (p := ⟨w.heap.size, 0, none⟩) (Nat.lt_of_lt_of_le k0b hq4)).trans k0
    replace k1 := (hb4.cell (p := ⟨w.heap.size, 1, none⟩) (Nat.lt_of_lt_of_le k1b hq4)).trans k1
    replace p0 := (hb4.cell (p := ⟨p, 0, none⟩) pb).trans p0
    replace p1 := (hb4.cell (p := ⟨p, 1, none⟩) pb).trans p1
    replace pb := Nat.lt_of_lt_of_le pb hb4.size
    replace o2 := o2.below hb4
    clear hb4 hq4
    go_wp2_with fail
    obtain ⟨V4, hV⟩ : ∃ V, V = w4.alloc (.cells #[.int .i64 F, .slice A3 xs.length c3] 29) := ⟨_, rfl⟩
    rw [← hV]
    have qb : w4.heap.size < V4.heap.size := by rw [hV]; simp
    have q0 : V4.cell? ⟨w4.heap.size, 0, none⟩ = some (.int .i64 F) := by rw [hV]; simp [go_sem]
    have q1 : V4.cell? ⟨w4.heap.size, 1, none⟩ = some (.slice A3 xs.length c3) := by rw [hV]; simp [go_sem]
    have hqV := BW.size
    have eqo2 : ∀ g, (Value.slice A2 (raiT F xs n).1.2.length c2).ownBlock = some g → g ≠ w4.heap.size := fun g hg => by have := (o2.lt g hg).2; omega
    have eqo3 : ∀ g, (Value.slice A3 xs.length c3).ownBlock = some g → g ≠ w4.heap.size := fun g hg => by have := (o3.lt g hg).2; omega
    replace k0 : V4.cell? ⟨w.heap.size, 0, none⟩ = some (.int .i64 F) := by rw [hV]; exact (World.cell?_alloc_lt _ _ _ (Nat.lt_of_lt_of_le k0b hqV)).trans k0
    replace k1 : V4.cell? ⟨w.heap.size, 1, none⟩ = some (.slice A xs.length c) := by rw [hV]; exact (World.cell?_alloc_lt _ _ _ (Nat.lt_of_lt_of_le k1b hqV)).trans k1
    replace p0 : V4.cell? ⟨p, 0, none⟩ = some (.int .i64 (raiT F xs n).1.1) := by rw [hV]; exact (World.cell?_alloc_lt _ _ _ pb).trans p0
    replace p1 : V4.cell? ⟨p, 1, none⟩ = some (.slice A2 (raiT F xs n).1.2.length c2) := by rw [hV]; exact (World.cell?_alloc_lt _ _ _ pb).trans p1
    replace pb : p < V4.heap.size := by rw [hV, World.size_alloc]; omega
    have ho2 := o2.alloc (.cells #[.int .i64 F, .slice A3 xs.length c3] 29)
    rw [← hV] at ho2
    replace o2 := ho2
    clear ho2
    have ho3 := o3.alloc (.cells #[.int .i64 F, .slice A3 xs.length c3] 29)
    rw [← hV] at ho3
    replace o3 := ho3
    clear ho3
    replace BW : Below W.heap.size W V4 := by rw [hV]; exact BW.alloc hqV _
    generalize w4.heap.size = q at qb q0 q1 eqo2 eqo3 ⊢
    clear hV hqV
    go_wp2_with fail
    refine (implRai_c F n A3 c3 xs _ o3.rd (Nat.le_refl _) hm).mono ?_
    rintro e w5 ⟨A4, c4, rfl, o4, hb5⟩
    have hq5 := BW.size
    have no24 := ownP_older o2 o4 (Nat.le_refl _)
    have n4o2 := ownP_newer o4 o2 (Nat.le_refl _)
    have no34 := ownP_older o3 o4 (Nat.le_refl _)
    have n4o3 := ownP_newer o4 o3 (Nat.le_refl _)
    have l4 := ownP_least BW o4
    have epo4 : ∀ g, (Value.slice A4 (raiT F xs n).1.2.length c4).ownBlock = some g → g ≠ p := fun g hg => by have := (o4.lt g hg).1; omega
    have eqo4 : ∀ g, (Value.slice A4 (raiT F xs n).1.2.length c4).ownBlock = some g → g ≠ q := fun g hg => by have := (o4.lt g hg).1; omega
    replace BW := stepB BW hb5
    replace k0 := (hb5.cell (p := ⟨w.heap.size, 0, none⟩) (Nat.lt_of_lt_of_le k0b hq5)).trans k0
    replace k1 := (hb5.cell (p := ⟨w.heap.size, 1, none⟩) (Nat.lt_of_lt_of_le k1b hq5)).trans k1
    replace p0 := (hb5.cell (p := ⟨p, 0, none⟩) pb).trans p0
    replace p1 := (hb5.cell (p := ⟨p, 1, none⟩) pb).trans p1
    replace q0 := (hb5.cell (p := ⟨q, 0, none⟩) qb).trans q0
    replace q1 := (hb5.cell (p := ⟨q, 1, none⟩) qb).trans q1
    replace pb := Nat.lt_of_lt_of_le pb hb5.size
    replace qb := Nat.lt_of_lt_of_le qb hb5.size
    replace o2 := o2.below hb5
    replace o3 := o3.below hb5
    clear hb5 hq5
    go_wp2_with fail
    obtain ⟨V5, hV⟩ : ∃ V, V = w5.alloc (.cells #[.int .i64 (raiT F xs n).1.1, .slice A4 (raiT F xs n).1.2.length c4] 29) := ⟨_, rfl⟩
    rw [← hV]
    have ub : w5.heap.size < V5.heap.size := by rw [hV]; simp
    have u0 : V5.cell? ⟨w5.heap.size, 0, none⟩ = some (.int .i64 (raiT F xs n).1.1) := by rw [hV]; simp [go_sem]
    have u1 : V5.cell? ⟨w5.heap.size, 1, none⟩ = some (.slice A4 (raiT F xs n).1.2.length c4) := by rw [hV]; simp [go_sem]
    have hqV := BW.size
    have euo2 : ∀ g, (Value.slice A2 (raiT F xs n).1.2.length c2).ownBlock = some g → g ≠ w5.heap.size := fun g hg => by have := (o2.lt g hg).2; omega
    have euo3 : ∀ g, (Value.slice A3 xs.length c3).ownBlock = some g → g ≠ w5.heap.size := fun g hg => by have := (o3.lt g hg).2; omega
    have euo4 : ∀ g, (Value.slice A4 (raiT F xs n).1.2.length c4).ownBlock = some g → g ≠ w5.heap.size := fun g hg => by have := (o4.lt g hg).2; omega
    replace k0 : V5.cell? ⟨w.heap.size, 0, none⟩ = some (.int .i64 F) := by rw [hV]; exact (World.cell?_alloc_lt _ _ _ (Nat.lt_of_lt_of_le k0b hqV)).trans k0
    replace k1 : V5.cell? ⟨w.heap.size, 1, none⟩ = some (.slice A xs.length c) := by rw [hV]; exact (World.cell?_alloc_lt _ _ _ (Nat.lt_of_lt_of_le k1b hqV)).trans k1
    replace p0 : V5.cell? ⟨p, 0, none⟩ = some (.int .i64 (raiT F xs n).1.1) := by rw [hV]; exact (World.cell?_alloc_lt _ _ _ pb).trans p0
    replace p1 : V5.cell? ⟨p, 1, none⟩ = some (.slice A2 (raiT F xs n).1.2.length c2) := by rw [hV]; exact (World.cell?_alloc_lt _ _ _ pb).trans p1
    replace q0 : V5.cell? ⟨q, 0, none⟩ = some (.int .i64 F) := by rw [hV]; exact (World.cell?_alloc_lt _ _ _ qb).trans q0
    replace q1 : V5.cell? ⟨q, 1, none⟩ = some (.slice A3 xs.length c3) := by rw [hV]; exact (World.cell?_alloc_lt _ _ _ qb).trans q1
    replace pb : p < V5.heap.size := by rw [hV, World.size_alloc]; omega
    replace qb : q < V5.heap.size := by rw [hV, World.size_alloc]; omega
    have ho2 := o2.alloc (.cells #[.int .i64 (raiT F xs n).1.1, .slice A4 (raiT F xs n).1.2.length c4] 29)
    rw [← hV] at ho2
    replace o2 := ho2
    clear ho2
    have ho3 := o3.alloc (.cells #[.int .i64 (raiT F xs n).1.1, .slice A4 (raiT F xs n).1.2.length c4] 29)
    rw [← hV] at ho3
    replace o3 := ho3
    clear ho3
    have ho4 := o4.alloc (.cells #[.int .i64 (raiT F xs n).1.1, .slice A4 (raiT F xs n).1.2.length c4] 29)
    rw [← hV] at ho4
    replace o4 := ho4
    clear ho4
    replace BW : Below W.heap.size W V5 := by rw [hV]; exact BW.alloc hqV _
    generalize w5.heap.size = u at ub u0 u1 euo2 euo3 euo4 ⊢
    clear hV hqV
    go_wp2_with fail
    refine (eqTar_c (raiT F xs n).1.1 _ _ _ _ (raiT F xs n).1.2 _ o4.rd o2.rd (Nat.le_refl _) (Nat.le_refl _) (by omega)).mono ?_
    rintro e w6 ⟨rfl, hb6⟩
    have hq6 := BW.size
    replace BW := stepB BW hb6
    replace k0 := (hb6.cell (p := ⟨w.heap.size, 0, none⟩) (Nat.lt_of_lt_of_le k0b hq6)).trans k0
    replace k1 := (hb6.cell (p := ⟨w.heap.size, 1, none⟩) (Nat.lt_of_lt_of_le k1b hq6)).trans k1
    replace p0 := (hb6.cell (p := ⟨p, 0, none⟩) pb).trans p0
    replace p1 := (hb6.cell (p := ⟨p, 1, none⟩) pb).trans p1
    replace q0 := (hb6.cell (p := ⟨q, 0, none⟩) qb).trans q0
    replace q1 := (hb6.cell (p := ⟨q, 1, none⟩) qb).trans q1
    replace u0 := (hb6.cell (p := ⟨u, 0, none⟩) ub).trans u0
    replace u1 := (hb6.cell (p := ⟨u, 1, none⟩) ub).trans u1
    replace pb := Nat.lt_of_lt_of_le pb hb6.size
    replace qb := Nat.lt_of_lt_of_le qb hb6.size
    replace ub := Nat.lt_of_lt_of_le ub hb6.size
    replace o2 := o2.below hb6
    replace o3 := o3.below hb6
    replace o4 := o4.below hb6
    clear hb6 hq6
    go_wp2_with fail
    go_region_held3 (fun w' => w'.cell? ⟨w.heap.size, 0, none⟩ = some (.int .i64 F) ∧ w'.cell? ⟨w.heap.size, 1, none⟩ = some (.slice A xs.length c) ∧ w'.cell? ⟨p, 0, none⟩ = some (.int .i64 (raiT F xs n).1.1) ∧ w'.cell? ⟨p, 1, none⟩ = some (.slice A2 (raiT F xs n).1.2.length c2) ∧ w'.cell? ⟨q, 0, none⟩ = some (.int .i64 F) ∧ w'.cell? ⟨q, 1, none⟩ = some (.slice A3 xs.length c3) ∧ w'.cell? ⟨u, 0, none⟩ = some (.int .i64 (raiT F xs n).1.1) ∧ w'.cell? ⟨u, 1, none⟩ = some (.slice A4 (raiT F xs n).1.2.length c4)) (simp [*]) (first | (go_at_call 17; refine (toTar_c F _ _ xs _ (((h0.below BW).more BW.size).drewN 1) hbig).mono ?_; rintro e w7 ⟨A5, c5, rfl, o5, hb7⟩; replace BW := BW.drew; replace o2 := o2.drewN 1; replace o3 := o3.drewN 1; replace o4 := o4.drewN 1; have hq7 := BW.size; have no25 := ownP_older o2 o5 (Nat.le_refl _); have n5o2 := ownP_newer o5 o2 (Nat.le_refl _); have no35 := ownP_older o3 o5 (Nat.le_refl _); have n5o3 := ownP_newer o5 o3 (Nat.le_refl _); have no45 := ownP_older o4 o5 (Nat.le_refl _); have n5o4 := ownP_newer o5 o4 (Nat.le_refl _); have l5 := ownP_least BW o5; replace BW := stepB BW hb7; replace k0 := (hb7.cell (p := ⟨w.heap.size, 0, none⟩) (Nat.lt_of_lt_of_le k0b hq7)).trans k0; replace k1 := (hb7.cell (p := ⟨w.heap.size, 1, none⟩) (Nat.lt_of_lt_of_le k1b hq7)).trans k1; replace p0 := (hb7.cell (p := ⟨p, 0, none⟩) pb).trans p0; replace p1 := (hb7.cell (p := ⟨p, 1, none⟩) pb).trans p1; replace q0 := (hb7.cell (p := ⟨q, 0, none⟩) qb).trans q0; replace q1 := (hb7.cell (p := ⟨q, 1, none⟩) qb).trans q1; replace u0 := (hb7.cell (p := ⟨u, 0, none⟩) ub).trans u0; replace u1 := (hb7.cell (p := ⟨u, 1, none⟩) ub).trans u1; replace pb := Nat.lt_of_lt_of_le pb hb7.size; replace qb := Nat.lt_of_lt_of_le qb hb7.size; replace ub := Nat.lt_of_lt_of_le ub hb7.size; replace o2 := o2.below hb7; replace o3 := o3.below hb7; replace o4 := o4.below hb7; clear hb7 hq7) | (go_at_call 19; refine (eqTar_c F _ _ _ _ xs _ o3.rd o5.rd (Nat.le_refl _) (Nat.le_refl _) (by omega)).mono ?_; rintro e w8 ⟨rfl, hb8⟩; have hq8 := BW.size; replace BW := stepB BW hb8; replace k0 := (hb8.cell (p := ⟨w.heap.size, 0, none⟩) (Nat.lt_of_lt_of_le k0b hq8)).trans k0; replace k1 := (hb8.cell (p := ⟨w.heap.size, 1, none⟩) (Nat.lt_of_lt_of_le k1b hq8)).trans k1; replace p0 := (hb8.cell (p := ⟨p, 0, none⟩) pb).trans p0; replace p1 := (hb8.cell (p := ⟨p, 1, none⟩) pb).trans p1; replace q0 := (hb8.cell (p := ⟨q, 0, none⟩) qb).trans q0; replace q1 := (hb8.cell (p := ⟨q, 1, none⟩) qb).trans q1; replace u0 := (hb8.cell (p := ⟨u, 0, none⟩) ub).trans u0; replace u1 := (hb8.cell (p := ⟨u, 1, none⟩) ub).trans u1; replace pb := Nat.lt_of_lt_of_le pb hb8.size; replace qb := Nat.lt_of_lt_of_le qb hb8.size; replace ub := Nat.lt_of_lt_of_le ub hb8.size; replace o2 := o2.below hb8; replace o3 := o3.below hb8; replace o4 := o4.below hb8; replace o5 := o5.below hb8; clear hb8 hq8))
    clear o5
    go_wp2_with fail
    have hq9 := BW.size
    refine (markTar_c F _ _ _ _ _ _ o3 (by omega) (by omega) (by omega)).mono ?_
    rintro e w9 ⟨rfl, om9, hg9⟩
    replace BW := stepM BW hg9 l3
    replace k0 := (World.cell?_of_block (a := ⟨w.heap.size, 0, none⟩) (hg9.block _ (Nat.lt_of_lt_of_le k0b hq9) (fun e => absurd (l3 _ e.symm) (Nat.not_le_of_lt k0b)))).trans k0
    replace k1 := (World.cell?_of_block (a := ⟨w.heap.size, 1, none⟩) (hg9.block _ (Nat.lt_of_lt_of_le k1b hq9) (fun e => absurd (l3 _ e.symm) (Nat.not_le_of_lt k1b)))).trans k1
    replace p0 := (World.cell?_of_block (a := ⟨p, 0, none⟩) (hg9.block _ pb (fun e => epo3 _ e.symm rfl))).trans p0
    replace p1 := (World.cell?_of_block (a := ⟨p, 1, none⟩) (hg9.block _ pb (fun e => epo3 _ e.symm rfl))).trans p1
    replace q0 := (World.cell?_of_block (a := ⟨q, 0, none⟩) (hg9.block _ qb (fun e => eqo3 _ e.symm rfl))).trans q0
    replace q1 := (World.cell?_of_block (a := ⟨q, 1, none⟩) (hg9.block _ qb (fun e => eqo3 _ e.symm rfl))).trans q1
    replace u0 := (World.cell?_of_block (a := ⟨u, 0, none⟩) (hg9.block _ ub (fun e => euo3 _ e.symm rfl))).trans u0
    replace u1 := (World.cell?_of_block (a := ⟨u, 1, none⟩) (hg9.block _ ub (fun e => euo3 _ e.symm rfl))).trans u1
    replace pb := Nat.lt_of_lt_of_le pb hg9.size
    replace qb := Nat.lt_of_lt_of_le qb hg9.size
    replace ub := Nat.lt_of_lt_of_le ub hg9.size
    replace o2 := o2.kept hg9 no23
    replace o4 := o4.kept hg9 n4o3
    clear o3 om9 hg9 hq9
    have hk0 : ¬ (1 + 2 * (xs.length : Int) < 0) := by omega
    have hk1 : decide (1 + 2 * (xs.length : Int) < 0) = false := by simp; omega
    go_wp2_with fail
    refine (eqTar_c (raiT F xs n).1.1 _ _ _ _ (raiT F xs n).1.2 _ o4.rd o2.rd (Nat.le_refl _) (Nat.le_refl _) (by omega)).mono ?_
    rintro e w10 ⟨rfl, hb10⟩
    have hq10 := BW.size
    replace BW := stepB BW hb10
    replace k0 := (hb10.cell (p := ⟨w.heap.size, 0, none⟩) (Nat.lt_of_lt_of_le k0b hq10)).trans k0
    replace k1 := (hb10.cell (p := ⟨w.heap.size, 1, none⟩) (Nat.lt_of_lt_of_le k1b hq10)).trans k1
    replace p0 := (hb10.cell (p := ⟨p, 0, none⟩) pb).trans p0
    replace p1 := (hb10.cell (p := ⟨p, 1, none⟩) pb).trans p1
    replace q0 := (hb10.cell (p := ⟨q, 0, none⟩) qb).trans q0
    replace q1 := (hb10.cell (p := ⟨q, 1, none⟩) qb).trans q1
    replace u0 := (hb10.cell (p := ⟨u, 0, none⟩) ub).trans u0
    replace u1 := (hb10.cell (p := ⟨u, 1, none⟩) ub).trans u1
    replace pb := Nat.lt_of_lt_of_le pb hb10.size
    replace qb := Nat.lt_of_lt_of_le qb hb10.size
    replace ub := Nat.lt_of_lt_of_le ub hb10.size
    replace o2 := o2.below hb10
    replace o4 := o4.below hb10
    clear hb10 hq10
    go_wp2_with fail
    have hq11 := BW.size
    refine (markTar_c (raiT F xs n).1.1 _ _ _ _ _ _ o4 (by omega) (by omega) (by omega)).mono ?_
    rintro e w11 ⟨rfl, om11, hg11⟩
    replace BW := stepM BW hg11 l4
    replace k0 := (World.cell?_of_block (a := ⟨w.heap.size, 0, none⟩) (hg11.block _ (Nat.lt_of_lt_of_le k0b hq11) (fun e => absurd (l4 _ e.symm) (Nat.not_le_of_lt k0b)))).trans k0
    replace k1 := (World.cell?_of_block (a := ⟨w.heap.size, 1, none⟩) (hg11.block _ (Nat.lt_of_lt_of_le k1b hq11) (fun e => absurd (l4 _ e.symm) (Nat.not_le_of_lt k1b)))).trans k1
    replace p0 := (World.cell?_of_block (a := ⟨p, 0, none⟩) (hg11.block _ pb (fun e => epo4 _ e.symm rfl))).trans p0
    replace p1 := (World.cell?_of_block (a := ⟨p, 1, none⟩) (hg11.block _ pb (fun e => epo4 _ e.symm rfl))).trans p1
    replace q0 := (World.cell?_of_block (a := ⟨q, 0, none⟩) (hg11.block _ qb (fun e => eqo4 _ e.symm rfl))).trans q0
    replace q1 := (World.cell?_of_block (a := ⟨q, 1, none⟩) (hg11.block _ qb (fun e => eqo4 _ e.symm rfl))).trans q1
    replace u0 := (World.cell?_of_block (a := ⟨u, 0, none⟩) (hg11.block _ ub (fun e => euo4 _ e.symm rfl))).trans u0
    replace u1 := (World.cell?_of_block (a := ⟨u, 1, none⟩) (hg11.block _ ub (fun e => euo4 _ e.symm rfl))).trans u1
    replace pb := Nat.lt_of_lt_of_le pb hg11.size
    replace qb := Nat.lt_of_lt_of_le qb hg11.size
    replace ub := Nat.lt_of_lt_of_le ub hg11.size
    replace o2 := o2.kept hg11 no24
    have r4 := marksP_rd om11
    clear o4 om11 hg11 hq11
    have hk2 : ¬ (1 + 2 * ((raiT F xs n).1.2.length : Int) < 0) := by omega
    have hk3 : decide (1 + 2 * ((raiT F xs n).1.2.length : Int) < 0) = false := by simp; omega
    go_wp2_with fail
    refine (heldTar_c (raiT F xs n).1.1 _ _ _ _ _ r4 (Nat.le_refl _) (by omega) (by omega) (by omega)).mono ?_
    rintro e w12 ⟨rfl, hb12⟩
    have hq12 := BW.size
    replace BW := stepB BW hb12
    replace k0 := (hb12.cell (p := ⟨w.heap.size, 0, none⟩) (Nat.lt_of_lt_of_le k0b hq12)).trans k0
    replace k1 := (hb12.cell (p := ⟨w.heap.size, 1, none⟩) (Nat.lt_of_lt_of_le k1b hq12)).trans k1
    replace p0 := (hb12.cell (p := ⟨p, 0, none⟩) pb).trans p0
    replace p1 := (hb12.cell (p := ⟨p, 1, none⟩) pb).trans p1
    replace q0 := (hb12.cell (p := ⟨q, 0, none⟩) qb).trans q0
    replace q1 := (hb12.cell (p := ⟨q, 1, none⟩) qb).trans q1
    replace u0 := (hb12.cell (p := ⟨u, 0, none⟩) ub).trans u0
    replace u1 := (hb12.cell (p := ⟨u, 1, none⟩) ub).trans u1
    replace pb := Nat.lt_of_lt_of_le pb hb12.size
    replace qb := Nat.lt_of_lt_of_le qb hb12.size
    replace ub := Nat.lt_of_lt_of_le ub hb12.size
    replace o2 := o2.below hb12
    replace r4 := (r4.below hb12).more hb12.size
    clear hb12 hq12
    go_wp2_with fail
    refine (toTar_c F _ _ xs _ ((h0.below BW).more BW.size) hbig).mono ?_
    rintro e w13 ⟨A6, c6, rfl, o6, hb13⟩
    have hq13 := BW.size
    have no26 := ownP_older o2 o6 (Nat.le_refl _)
    have n6o2 := ownP_newer o6 o2 (Nat.le_refl _)
    have l6 := ownP_least BW o6
    have epo6 : ∀ g, (Value.slice A6 xs.length c6).ownBlock = some g → g ≠ p := fun g hg => by have := (o6.lt g hg).1; omega
    have eqo6 : ∀ g, (Value.slice A6 xs.length c6).ownBlock = some g → g ≠ q := fun g hg => by have := (o6.lt g hg).1; omega
    have euo6 : ∀ g, (Value.slice A6 xs.length c6).ownBlock = some g → g ≠ u := fun g hg => by have := (o6.lt g hg).1; omega
    replace BW := stepB BW hb13
    replace k0 := (hb13.cell (p := ⟨w.heap.size, 0, none⟩) (Nat.lt_of_lt_of_le k0b hq13)).trans k0
    replace k1 := (hb13.cell (p := ⟨w.heap.size, 1, none⟩) (Nat.lt_of_lt_of_le k1b hq13)).trans k1
    replace p0 := (hb13.cell (p := ⟨p, 0, none⟩) pb).trans p0
    replace p1 := (hb13.cell (p := ⟨p, 1, none⟩) pb).trans p1
    replace q0 := (hb13.cell (p := ⟨q, 0, none⟩) qb).trans q0
    replace q1 := (hb13.cell (p := ⟨q, 1, none⟩) qb).trans q1
    replace u0 := (hb13.cell (p := ⟨u, 0, none⟩) ub).trans u0
    replace u1 := (hb13.cell (p := ⟨u, 1, none⟩) ub).trans u1
    replace pb := Nat.lt_of_lt_of_le pb hb13.size
    replace qb := Nat.lt_of_lt_of_le qb hb13.size
    replace ub := Nat.lt_of_lt_of_le ub hb13.size
    replace o2 := o2.below hb13
    replace r4 := (r4.below hb13).more hb13.size
    clear hb13 hq13
    go_wp2_with fail
    refine (implRai_c F n A6 c6 xs _ o6.rd (Nat.le_refl _) hm).mono ?_
    rintro e w14 ⟨A7, c7, rfl, o7, hb14⟩
    have hq14 := BW.size
    have no27 := ownP_older o2 o7 (Nat.le_refl _)
    have n7o2 := ownP_newer o7 o2 (Nat.le_refl _)
    have no67 := ownP_older o6 o7 (Nat.le_refl _)
    have n7o6 := ownP_newer o7 o6 (Nat.le_refl _)
    have l7 := ownP_least BW o7
    have epo7 : ∀ g, (Value.slice A7 (raiT F xs n).1.2.length c7).ownBlock = some g → g ≠ p := fun g hg => by have := (o7.lt g hg).1; omega
    have eqo7 : ∀ g, (Value.slice A7 (raiT F xs n).1.2.length c7).ownBlock = some g → g ≠ q := fun g hg => by have := (o7.lt g hg).1; omega
    have euo7 : ∀ g, (Value.slice A7 (raiT F xs n).1.2.length c7).ownBlock = some g → g ≠ u := fun g hg => by have := (o7.lt g hg).1; omega
    replace BW := stepB BW hb14
    replace k0 := (hb14.cell (p := ⟨w.heap.size, 0, none⟩) (Nat.lt_of_lt_of_le k0b hq14)).trans k0
    replace k1 := (hb14.cell (p := ⟨w.heap.size, 1, none⟩) (Nat.lt_of_lt_of_le k1b hq14)).trans k1
    replace p0 := (hb14.cell (p := ⟨p, 0, none⟩) pb).trans p0
    replace p1 := (hb14.cell (p := ⟨p, 1, none⟩) pb).trans p1
    replace q0 := (hb14.cell (p := ⟨q, 0, none⟩) qb).trans q0
    replace q1 := (hb14.cell (p := ⟨q, 1, none⟩) qb).trans q1
    replace u0 := (hb14.cell (p := ⟨u, 0, none⟩) ub).trans u0
    replace u1 := (hb14.cell (p := ⟨u, 1, none⟩) ub).trans u1
    replace pb := Nat.lt_of_lt_of_le pb hb14.size
    replace qb := Nat.lt_of_lt_of_le qb hb14.size
    replace ub := Nat.lt_of_lt_of_le ub hb14.size
    replace o2 := o2.below hb14
    replace o6 := o6.below hb14
    replace r4 := (r4.below hb14).more hb14.size
    clear hb14 hq14
    clear o6
    go_wp2_with fail
    obtain ⟨V14, hV⟩ : ∃ V, V = w14.alloc (.cells #[.int .i64 (raiT F xs n).1.1, .slice A7 (raiT F xs n).1.2.length c7] 29) := ⟨_, rfl⟩
    rw [← hV]
    have vb : w14.heap.size < V14.heap.size := by rw [hV]; simp
    have v0 : V14.cell? ⟨w14.heap.size, 0, none⟩ = some (.int .i64 (raiT F xs n).1.1) := by rw [hV]; simp [go_sem]
    have v1 : V14.cell? ⟨w14.heap.size, 1, none⟩ = some (.slice A7 (raiT F xs n).1.2.length c7) := by rw [hV]; simp [go_sem]
    have hqV := BW.size
    have evo2 : ∀ g, (Value.slice A2 (raiT F xs n).1.2.length c2).ownBlock = some g → g ≠ w14.heap.size := fun g hg => by have := (o2.lt g hg).2; omega
    have evo7 : ∀ g, (Value.slice A7 (raiT F xs n).1.2.length c7).ownBlock = some g → g ≠ w14.heap.size := fun g hg => by have := (o7.lt g hg).2; omega
    replace k0 : V14.cell? ⟨w.heap.size, 0, none⟩ = some (.int .i64 F) := by rw [hV]; exact (World.cell?_alloc_lt _ _ _ (Nat.lt_of_lt_of_le k0b hqV)).trans k0
    replace k1 : V14.cell? ⟨w.heap.size, 1, none⟩ = some (.slice A xs.length c) := by rw [hV]; exact (World.cell?_alloc_lt _ _ _ (Nat.lt_of_lt_of_le k1b hqV)).trans k1
    replace p0 : V14.cell? ⟨p, 0, none⟩ = some (.int .i64 (raiT F xs n).1.1) := by rw [hV]; exact (World.cell?_alloc_lt _ _ _ pb).trans p0
    replace p1 : V14.cell? ⟨p, 1, none⟩ = some (.slice A2 (raiT F xs n).1.2.length c2) := by rw [hV]; exact (World.cell?_alloc_lt _ _ _ pb).trans p1
    replace q0 : V14.cell? ⟨q, 0, none⟩ = some (.int .i64 F) := by rw [hV]; exact (World.cell?_alloc_lt _ _ _ qb).trans q0
    replace q1 : V14.cell? ⟨q, 1, none⟩ = some (.slice A3 xs.length c3) := by rw [hV]; exact (World.cell?_alloc_lt _ _ _ qb).trans q1
    replace u0 : V14.cell? ⟨u, 0, none⟩ = some (.int .i64 (raiT F xs n).1.1) := by rw [hV]; exact (World.cell?_alloc_lt _ _ _ ub).trans u0
    replace u1 : V14.cell? ⟨u, 1, none⟩ = some (.slice A4 (raiT F xs n).1.2.length c4) := by rw [hV]; exact (World.cell?_alloc_lt _ _ _ ub).trans u1
    replace pb : p < V14.heap.size := by rw [hV, World.size_alloc]; omega
    replace qb : q < V14.heap.size := by rw [hV, World.size_alloc]; omega
    replace ub : u < V14.heap.size := by rw [hV, World.size_alloc]; omega
    have ho2 := o2.alloc (.cells #[.int .i64 (raiT F xs n).1.1, .slice A7 (raiT F xs n).1.2.length c7] 29)
    rw [← hV] at ho2
    replace o2 := ho2
    clear ho2
    have ho7 := o7.alloc (.cells #[.int .i64 (raiT F xs n).1.1, .slice A7 (raiT F xs n).1.2.length c7] 29)
    rw [← hV] at ho7
    replace o7 := ho7
    clear ho7
    have hr4 := (r4.alloc (Nat.le_refl _) (.cells #[.int .i64 (raiT F xs n).1.1, .slice A7 (raiT F xs n).1.2.length c7] 29)).more (show w14.heap.size ≤ (w14.alloc (.cells #[.int .i64 (raiT F xs n).1.1, .slice A7 (raiT F xs n).1.2.length c7] 29)).heap.size by rw [World.size_alloc]; omega)
    rw [← hV] at hr4
    replace r4 := hr4
    clear hr4
    replace BW : Below W.heap.size W V14 := by rw [hV]; exact BW.alloc hqV _
    generalize w14.heap.size = v at vb v0 v1 evo2 evo7 ⊢
    clear hV hqV
    go_wp2_with fail
    refine (eqTar_c (raiT F xs n).1.1 _ _ _ _ (raiT F xs n).1.2 _ o7.rd o2.rd (Nat.le_refl _) (Nat.le_refl _) (by omega)).mono ?_
    rintro e w15 ⟨rfl, hb15⟩
    have hq15 := BW.size
    replace BW := stepB BW hb15
    replace k0 := (hb15.cell (p := ⟨w.heap.size, 0, none⟩) (Nat.lt_of_lt_of_le k0b hq15)).trans k0
    replace k1 := (hb15.cell (p := ⟨w.heap.size, 1, none⟩) (Nat.lt_of_lt_of_le k1b hq15)).trans k1
    replace p0 := (hb15.cell (p := ⟨p, 0, none⟩) pb).trans p0
    replace p1 := (hb15.cell (p := ⟨p, 1, none⟩) pb).trans p1
    replace q0 := (hb15.cell (p := ⟨q, 0, none⟩) qb).trans q0
    replace q1 := (hb15.cell (p := ⟨q, 1, none⟩) qb).trans q1
    replace u0 := (hb15.cell (p := ⟨u, 0, none⟩) ub).trans u0
    replace u1 := (hb15.cell (p := ⟨u, 1, none⟩) ub).trans u1
    replace v0 := (hb15.cell (p := ⟨v, 0, none⟩) vb).trans v0
    replace v1 := (hb15.cell (p := ⟨v, 1, none⟩) vb).trans v1
    replace pb := Nat.lt_of_lt_of_le pb hb15.size
    replace qb := Nat.lt_of_lt_of_le qb hb15.size
    replace ub := Nat.lt_of_lt_of_le ub hb15.size
    replace vb := Nat.lt_of_lt_of_le vb hb15.size
    replace o2 := o2.below hb15
    replace o7 := o7.below hb15
    replace r4 := (r4.below hb15).more hb15.size
    clear hb15 hq15
    go_wp2_with fail
    refine (heldTar_c (raiT F xs n).1.1 _ _ _ _ _ r4 (Nat.le_refl _) (by omega) (by omega) (by omega)).mono ?_
    rintro e w16 ⟨rfl, hb16⟩
    have hq16 := BW.size
    replace BW := stepB BW hb16
    replace k0 := (hb16.cell (p := ⟨w.heap.size, 0, none⟩) (Nat.lt_of_lt_of_le k0b hq16)).trans k0
    replace k1 := (hb16.cell (p := ⟨w.heap.size, 1, none⟩) (Nat.lt_of_lt_of_le k1b hq16)).trans k1
    replace p0 := (hb16.cell (p := ⟨p, 0, none⟩) pb).trans p0
    replace p1 := (hb16.cell (p := ⟨p, 1, none⟩) pb).trans p1
    replace q0 := (hb16.cell (p := ⟨q, 0, none⟩) qb).trans q0
    replace q1 := (hb16.cell (p := ⟨q, 1, none⟩) qb).trans q1
    replace u0 := (hb16.cell (p := ⟨u, 0, none⟩) ub).trans u0
    replace u1 := (hb16.cell (p := ⟨u, 1, none⟩) ub).trans u1
    replace v0 := (hb16.cell (p := ⟨v, 0, none⟩) vb).trans v0
    replace v1 := (hb16.cell (p := ⟨v, 1, none⟩) vb).trans v1
    replace pb := Nat.lt_of_lt_of_le pb hb16.size
    replace qb := Nat.lt_of_lt_of_le qb hb16.size
    replace ub := Nat.lt_of_lt_of_le ub hb16.size
    replace vb := Nat.lt_of_lt_of_le vb hb16.size
    replace o2 := o2.below hb16
    replace o7 := o7.below hb16
    replace r4 := (r4.below hb16).more hb16.size
    clear hb16 hq16
    go_wp2
    go_ret
    exact ⟨rfl, B0.trans (BW.mono (Nat.le_of_lt k0b))⟩
  · go_enter Try.func9, Try.ntmps9
    go_wp2_with fail
    rw [← HW.out]
    clear HW
    go_wp2_with fail
    refine (szTar_no F A c xs _ (by omega) hmax).mono ?_
    rintro e w1 ⟨rfl, hb1⟩
    go_wp2
    go_ret
    exact ⟨rfl, B0.trans (hb1.mono (Nat.le_of_lt k0b))⟩
end Go.Proofs.Ytbfaejacfhblkaa

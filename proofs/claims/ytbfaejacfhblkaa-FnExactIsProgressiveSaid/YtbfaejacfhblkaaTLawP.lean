/- The law on IsProgressive, walked. -/
import Derived.Test.YtbfaejacfhblkaaTProg
import Derived.Test.YtbfaejacfhblkaaTTar
namespace Go.Proofs.Ytbfaejacfhblkaa
open Go.RowKit

set_option maxHeartbeats 2000000 in
theorem isProgressive_law (F : Int) (A : Option Addr) (c : Nat) (xs : List (Int × Int))  (w : World) (h : RdP w w.heap.size A xs) (hmax : xs.length ≤ 9223372036854775807) : Calls Try.prog 4 #[.agg #[.int .i64 F, .slice A xs.length c]] w fun e w' => e = .returned (.bool true) ∧ Below w.heap.size w w' := by
  obtain ⟨W, hW⟩ : ∃ W, W = w.alloc (.cells #[.int .i64 F, .slice A xs.length c] 24) := ⟨_, rfl⟩
  have h0 : RdP W W.heap.size A xs := by rw [hW]; exact (h.alloc (Nat.le_refl _) _).more (by simp)
  have k0b : w.heap.size < W.heap.size := by rw [hW]; simp
  have k1b := k0b
  have B0 : Below w.heap.size w W := by rw [hW]; exact (Below.refl _ _).alloc (Nat.le_refl _) _
  have k0 : W.cell? ⟨w.heap.size, 0, none⟩ = some (.int .i64 F) := by rw [hW]; simp [go_sem]
  have k1 : W.cell? ⟨w.heap.size, 1, none⟩ = some (.slice A xs.length c) := by rw [hW]; simp [go_sem]
  have BW := Below.refl W.heap.size W
  have HW := Lib.hid hW
  clear hW h
  by_cases hbig : xs.length ≤ 1048576
  · have hsz : ¬ (1048576 - (xs.length : Int) < 0) := by omega
    have hm : xs.length ≤ 4611686018427387904 := by omega
    clear hmax
    go_enter Try.func4, Try.ntmps4
    go_wp2_with fail
    rw [← HW.out]
    clear HW
    go_wp2_with fail
    refine (szTar_ok F A c xs _ hbig).mono ?_
    rintro e w1 ⟨rfl, hb1⟩
    have hq1 := BW.size
    replace BW := stepB BW hb1
    replace k0 := (hb1.cell (p := ⟨w.heap.size, 0, none⟩) (Nat.lt_of_lt_of_le k0b hq1)).trans k0
    replace k1 := (hb1.cell (p := ⟨w.heap.size, 1, none⟩) (Nat.lt_of_lt_of_le k1b hq1)).trans k1
    clear hb1 hq1
    go_wp2_with fail
    refine (toTar_c F _ _ xs _ ((h0.below BW).more BW.size) hbig).mono ?_
    rintro e w2 ⟨A1, c1, rfl, o1, hb2⟩
    have hq2 := BW.size
    have l1 := ownP_least BW o1
    replace BW := stepB BW hb2
    replace k0 := (hb2.cell (p := ⟨w.heap.size, 0, none⟩) (Nat.lt_of_lt_of_le k0b hq2)).trans k0
    replace k1 := (hb2.cell (p := ⟨w.heap.size, 1, none⟩) (Nat.lt_of_lt_of_le k1b hq2)).trans k1
    clear hb2 hq2
    go_wp2_with fail
    refine (specProg_c _ A1 c1 xs _ o1.rd (Nat.le_refl _) hm).mono ?_
    rintro e w3 ⟨rfl, hb3⟩
    have hq3 := BW.size
    replace BW := stepB BW hb3
    replace k0 := (hb3.cell (p := ⟨w.heap.size, 0, none⟩) (Nat.lt_of_lt_of_le k0b hq3)).trans k0
    replace k1 := (hb3.cell (p := ⟨w.heap.size, 1, none⟩) (Nat.lt_of_lt_of_le k1b hq3)).trans k1
    replace o1 := o1.below hb3
    clear hb3 hq3
    clear o1
    go_wp2_with fail
    refine (toTar_c F _ _ xs _ ((h0.below BW).more BW.size) hbig).mono ?_
    rintro e w4 ⟨A3, c3, rfl, o3, hb4⟩
    have hq4 := BW.size
    have l3 := ownP_least BW o3
    replace BW := stepB BW hb4
    replace k0 := (hb4.cell (p := ⟨w.heap.size, 0, none⟩) (Nat.lt_of_lt_of_le k0b hq4)).trans k0
    replace k1 := (hb4.cell (p := ⟨w.heap.size, 1, none⟩) (Nat.lt_of_lt_of_le k1b hq4)).trans k1
    clear hb4 hq4
    go_wp2_with fail
    obtain ⟨V, hV⟩ : ∃ V, V = w4.alloc (.cells #[.int .i64 F, .slice A3 xs.length c3] 29) := ⟨_, rfl⟩
    rw [← hV]
    have qb : w4.heap.size < V.heap.size := by rw [hV]; simp
    have q0 : V.cell? ⟨w4.heap.size, 0, none⟩ = some (.int .i64 F) := by rw [hV]; simp [go_sem]
    have q1 : V.cell? ⟨w4.heap.size, 1, none⟩ = some (.slice A3 xs.length c3) := by rw [hV]; simp [go_sem]
    have hqV := BW.size
    replace k0 : V.cell? ⟨w.heap.size, 0, none⟩ = some (.int .i64 F) := by rw [hV]; exact (World.cell?_alloc_lt _ _ _ (Nat.lt_of_lt_of_le k0b hqV)).trans k0
    replace k1 : V.cell? ⟨w.heap.size, 1, none⟩ = some (.slice A xs.length c) := by rw [hV]; exact (World.cell?_alloc_lt _ _ _ (Nat.lt_of_lt_of_le k1b hqV)).trans k1
    replace o3 : OwnP V w3.heap.size (.slice A3 xs.length c3) xs := by rw [hV]; exact o3.alloc _
    replace BW : Below W.heap.size W V := by rw [hV]; exact BW.alloc hqV _
    generalize w4.heap.size = q at qb q0 q1 ⊢
    clear hV hqV
    go_wp2_with fail
    refine (implProg_c _ A3 c3 xs _ o3.rd (Nat.le_refl _) hm).mono ?_
    rintro e w5 ⟨rfl, hb5⟩
    have hq5 := BW.size
    replace BW := stepB BW hb5
    replace k0 := (hb5.cell (p := ⟨w.heap.size, 0, none⟩) (Nat.lt_of_lt_of_le k0b hq5)).trans k0
    replace k1 := (hb5.cell (p := ⟨w.heap.size, 1, none⟩) (Nat.lt_of_lt_of_le k1b hq5)).trans k1
    replace q0 := (hb5.cell (p := ⟨q, 0, none⟩) qb).trans q0
    replace q1 := (hb5.cell (p := ⟨q, 1, none⟩) qb).trans q1
    replace qb := Nat.lt_of_lt_of_le qb hb5.size
    replace o3 := o3.below hb5
    clear hb5 hq5
    go_wp2_with fail
    go_region_held3 (fun w' => w'.cell? ⟨w.heap.size, 0, none⟩ = some (.int .i64 F) ∧ w'.cell? ⟨w.heap.size, 1, none⟩ = some (.slice A xs.length c) ∧ w'.cell? ⟨q, 0, none⟩ = some (.int .i64 F) ∧ w'.cell? ⟨q, 1, none⟩ = some (.slice A3 xs.length c3)) (simp [*]) (first | (go_at_call 17; refine (toTar_c F _ _ xs _ (((h0.below BW).more BW.size).drewN 1) hbig).mono ?_; rintro e w6 ⟨A5, c5, rfl, o5, hb6⟩; replace BW := BW.drew; replace o3 := o3.drewN 1; have hq6 := BW.size; have no35 := ownP_older o3 o5 (Nat.le_refl _); have n5o3 := ownP_newer o5 o3 (Nat.le_refl _); have l5 := ownP_least BW o5; replace BW := stepB BW hb6; replace k0 := (hb6.cell (p := ⟨w.heap.size, 0, none⟩) (Nat.lt_of_lt_of_le k0b hq6)).trans k0; replace k1 := (hb6.cell (p := ⟨w.heap.size, 1, none⟩) (Nat.lt_of_lt_of_le k1b hq6)).trans k1; replace q0 := (hb6.cell (p := ⟨q, 0, none⟩) qb).trans q0; replace q1 := (hb6.cell (p := ⟨q, 1, none⟩) qb).trans q1; replace qb := Nat.lt_of_lt_of_le qb hb6.size; replace o3 := o3.below hb6; clear hb6 hq6) | (go_at_call 19; refine (eqTar_c F _ _ _ _ xs _ o3.rd o5.rd (Nat.le_refl _) (Nat.le_refl _) (by omega)).mono ?_; rintro e w7 ⟨rfl, hb7⟩; have hq7 := BW.size; replace BW := stepB BW hb7; replace k0 := (hb7.cell (p := ⟨w.heap.size, 0, none⟩) (Nat.lt_of_lt_of_le k0b hq7)).trans k0; replace k1 := (hb7.cell (p := ⟨w.heap.size, 1, none⟩) (Nat.lt_of_lt_of_le k1b hq7)).trans k1; replace q0 := (hb7.cell (p := ⟨q, 0, none⟩) qb).trans q0; replace q1 := (hb7.cell (p := ⟨q, 1, none⟩) qb).trans q1; replace qb := Nat.lt_of_lt_of_le qb hb7.size; replace o3 := o3.below hb7; replace o5 := o5.below hb7; clear hb7 hq7))
    go_wp2
    go_ret
    exact ⟨rfl, B0.trans (BW.mono (Nat.le_of_lt k0b))⟩
  · go_enter Try.func4, Try.ntmps4
    go_wp2_with fail
    rw [← HW.out]
    clear HW
    go_wp2_with fail
    refine (szTar_no F A c xs _ (by omega) hmax).mono ?_
    rintro e w1 ⟨rfl, hb1⟩
    go_wp2
    go_ret
    exact ⟨rfl, B0.trans (hb1.mono (Nat.le_of_lt k0b))⟩
end Go.Proofs.Ytbfaejacfhblkaa

/- The law on SuitingLevels, walked. -/
import Derived.Test.YtakpoalcfjedlaaZLev
namespace Go.Proofs.Ytakpoalcfjedlaa
open Go.RowKit

set_option maxHeartbeats 2000000 in
theorem suitingLevels_law (A : Option Addr) (c : Nat) (xs : List Int) (L M : Int)  (w : World) (h : RdI w w.heap.size A xs) (hmax : xs.length ≤ 9223372036854775807)  : Calls Try.prog 7 #[.slice A xs.length c, .agg #[.int .i64 L, .int .i64 M]] w fun e w' => e = .returned (.bool true) ∧ Below w.heap.size w w' := by
  by_cases hbig : xs.length ≤ 1048576
  · have hbi : ¬ (1048576 : Int) < (xs.length : Int) := by omega
    clear hmax
    obtain ⟨W, hW⟩ : ∃ W, W = w.alloc (.cells #[.int .i64 L, .int .i64 M] 30) := ⟨_, rfl⟩
    have h0 : RdI W W.heap.size A xs := by rw [hW]; exact (h.alloc (Nat.le_refl _) _).more (by simp)
    have k0b : w.heap.size < W.heap.size := by rw [hW]; simp
    have k1b := k0b
    have B0 : Below w.heap.size w W := by rw [hW]; exact (Below.refl _ _).alloc (Nat.le_refl _) _
    have k0 : W.cell? ⟨w.heap.size, 0, none⟩ = some (.int .i64 L) := by rw [hW]; simp [go_sem]
    have k1 : W.cell? ⟨w.heap.size, 1, none⟩ = some (.int .i64 M) := by rw [hW]; simp [go_sem]
    have BW := Below.refl W.heap.size W
    have HW := Lib.hid hW
    clear hW h
    go_enter Try.func7, Try.ntmps7
    go_wp2_with fail
    rw [← HW.out]
    clear HW
    go_wp2_with fail
    go_region_held3 (fun w' => w'.cell? ⟨w.heap.size, 0, none⟩ = some (.int .i64 L) ∧ w'.cell? ⟨w.heap.size, 1, none⟩ = some (.int .i64 M)) (simp [*]) (first | (go_at_call 13; refine (toIntS_c _ _ xs _ (((h0.below BW).more BW.size).drewN 1) hbig).mono ?_; rintro e w1 ⟨A1, c1, rfl, o1, hb1⟩; replace BW := BW.drew; have hq1 := BW.size; have l1 := own_least BW o1; replace BW := stepB BW hb1; replace k0 := (hb1.cell (p := ⟨w.heap.size, 0, none⟩) (Nat.lt_of_lt_of_le k0b hq1)).trans k0; replace k1 := (hb1.cell (p := ⟨w.heap.size, 1, none⟩) (Nat.lt_of_lt_of_le k1b hq1)).trans k1; clear hb1 hq1) | (go_at_call 21; refine (toZoneRule_c _ _ _).mono ?_; rintro e w2 ⟨rfl, hb2⟩; have hq2 := BW.size; replace BW := stepB BW hb2; replace k0 := (hb2.cell (p := ⟨w.heap.size, 0, none⟩) (Nat.lt_of_lt_of_le k0b hq2)).trans k0; replace k1 := (hb2.cell (p := ⟨w.heap.size, 1, none⟩) (Nat.lt_of_lt_of_le k1b hq2)).trans k1; replace o1 := o1.below hb2; clear hb2 hq2) | (go_at_call 25; refine (specLev_c A1 c1 xs L M _ o1.rd hbig).mono ?_; rintro e w3 ⟨rfl, hb3⟩; have hq3 := BW.size; replace BW := stepB BW hb3; replace k0 := (hb3.cell (p := ⟨w.heap.size, 0, none⟩) (Nat.lt_of_lt_of_le k0b hq3)).trans k0; replace k1 := (hb3.cell (p := ⟨w.heap.size, 1, none⟩) (Nat.lt_of_lt_of_le k1b hq3)).trans k1; replace o1 := o1.below hb3; clear hb3 hq3))
    clear o1
    go_wp2_with fail
    refine (toIntS_c _ _ xs _ ((h0.below BW).more BW.size) hbig).mono ?_
    rintro e w4 ⟨A3, c3, rfl, o3, hb4⟩
    have hq4 := BW.size
    have l3 := own_least BW o3
    replace BW := stepB BW hb4
    replace k0 := (hb4.cell (p := ⟨w.heap.size, 0, none⟩) (Nat.lt_of_lt_of_le k0b hq4)).trans k0
    replace k1 := (hb4.cell (p := ⟨w.heap.size, 1, none⟩) (Nat.lt_of_lt_of_le k1b hq4)).trans k1
    clear hb4 hq4
    go_wp2_with fail
    refine (toZoneRule_c _ _ _).mono ?_
    rintro e w5 ⟨rfl, hb5⟩
    have hq5 := BW.size
    replace BW := stepB BW hb5
    replace k0 := (hb5.cell (p := ⟨w.heap.size, 0, none⟩) (Nat.lt_of_lt_of_le k0b hq5)).trans k0
    replace k1 := (hb5.cell (p := ⟨w.heap.size, 1, none⟩) (Nat.lt_of_lt_of_le k1b hq5)).trans k1
    replace o3 := o3.below hb5
    clear hb5 hq5
    go_wp2_with fail
    refine (implLev_c A3 c3 xs L M _ o3.rd hbig).mono ?_
    rintro e w6 ⟨rfl, hb6⟩
    have hq6 := BW.size
    replace BW := stepB BW hb6
    replace k0 := (hb6.cell (p := ⟨w.heap.size, 0, none⟩) (Nat.lt_of_lt_of_le k0b hq6)).trans k0
    replace k1 := (hb6.cell (p := ⟨w.heap.size, 1, none⟩) (Nat.lt_of_lt_of_le k1b hq6)).trans k1
    replace o3 := o3.below hb6
    clear hb6 hq6
    go_wp2_with fail
    refine (toIntS_c _ _ xs _ ((h0.below BW).more BW.size) hbig).mono ?_
    rintro e w7 ⟨A5, c5, rfl, o5, hb7⟩
    have hq7 := BW.size
    have no35 := own_older o3 o5 (Nat.le_refl _)
    have n5o3 := own_newer o5 o3 (Nat.le_refl _)
    have l5 := own_least BW o5
    replace BW := stepB BW hb7
    replace k0 := (hb7.cell (p := ⟨w.heap.size, 0, none⟩) (Nat.lt_of_lt_of_le k0b hq7)).trans k0
    replace k1 := (hb7.cell (p := ⟨w.heap.size, 1, none⟩) (Nat.lt_of_lt_of_le k1b hq7)).trans k1
    replace o3 := o3.below hb7
    clear hb7 hq7
    go_wp2_with fail
    refine (eqIntS_c _ _ _ _ _ _ o3.rd o5.rd (by omega)).mono ?_
    rintro e w' ⟨rfl, nd8, rfl⟩
    replace BW := below_drewN BW nd8
    replace o3 := o3.drewN nd8
    replace o5 := o5.drewN nd8
    go_wp2
    go_ret
    exact ⟨rfl, B0.trans (BW.mono (Nat.le_of_lt k0b))⟩
  · have hbi : (1048576 : Int) < (xs.length : Int) := by omega
    go_enter Try.func7, Try.ntmps7
    go_wp2
    go_ret
    exact ⟨rfl, by (repeat' (first | (with_reducible exact Below.refl _ _) | (with_reducible assumption) | (with_reducible refine below_drewN ?_ _) | (with_reducible refine Below.alloc ?_ ?_ _) | (with_reducible refine Below.drew ?_) | (with_reducible refine Below.setCell ?_ ?_ _) | go_size))⟩
end Go.Proofs.Ytakpoalcfjedlaa

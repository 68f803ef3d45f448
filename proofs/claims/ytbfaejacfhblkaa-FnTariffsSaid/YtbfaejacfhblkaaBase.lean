/- Contracts of the small functions on numbers that most others call. -/
import Derived.Test.YtbfaejacfhblkaaRows
import Derived.Test.YtbfaejacfhblkaaPlain
import Derived.WalkKit
import Derived.WalkSpells
import Derived.WalkLawsBesides
import Derived.Handy
import Derived.BigQuiet
import Derived.Deep.QuietTactic
import Derived.Deep.Draws
import Derived.Deep.RegionHeld3
import Derived.Deep.DeepCutAuto
import Derived.Lib.Hide
namespace Go.Proofs.Ytbfaejacfhblkaa
open Go.RowKit

theorem lt0_2 (a : Nat) : a < a + 1 + 1 := by omega
theorem lt0_3 (a : Nat) : a < a + 1 + 1 + 1 := by omega
theorem lt1_3 (a : Nat) : a + 1 < a + 1 + 1 + 1 := by omega
theorem lt0_4 (a : Nat) : a < a + 1 + 1 + 1 + 1 := by omega
theorem lt1_4 (a : Nat) : a + 1 < a + 1 + 1 + 1 + 1 := by omega
theorem lt2_4 (a : Nat) : a + 1 + 1 < a + 1 + 1 + 1 + 1 := by omega
theorem lt0_5 (a : Nat) : a < a + 1 + 1 + 1 + 1 + 1 := by omega
theorem lt1_5 (a : Nat) : a + 1 < a + 1 + 1 + 1 + 1 + 1 := by omega
theorem lt2_5 (a : Nat) : a + 1 + 1 < a + 1 + 1 + 1 + 1 + 1 := by omega
theorem lt3_5 (a : Nat) : a + 1 + 1 + 1 < a + 1 + 1 + 1 + 1 + 1 := by omega
theorem lt0_6 (a : Nat) : a < a + 1 + 1 + 1 + 1 + 1 + 1 := by omega
theorem lt1_6 (a : Nat) : a + 1 < a + 1 + 1 + 1 + 1 + 1 + 1 := by omega
theorem lt2_6 (a : Nat) : a + 1 + 1 < a + 1 + 1 + 1 + 1 + 1 + 1 := by omega
theorem lt3_6 (a : Nat) : a + 1 + 1 + 1 < a + 1 + 1 + 1 + 1 + 1 + 1 := by omega
theorem lt4_6 (a : Nat) : a + 1 + 1 + 1 + 1 < a + 1 + 1 + 1 + 1 + 1 + 1 := by omega
theorem lt0_7 (a : Nat) : a < a + 1 + 1 + 1 + 1 + 1 + 1 + 1 := by omega
theorem lt1_7 (a : Nat) : a + 1 < a + 1 + 1 + 1 + 1 + 1 + 1 + 1 := by omega
theorem lt2_7 (a : Nat) : a + 1 + 1 < a + 1 + 1 + 1 + 1 + 1 + 1 + 1 := by omega
theorem lt3_7 (a : Nat) : a + 1 + 1 + 1 < a + 1 + 1 + 1 + 1 + 1 + 1 + 1 := by omega
theorem lt4_7 (a : Nat) : a + 1 + 1 + 1 + 1 < a + 1 + 1 + 1 + 1 + 1 + 1 + 1 := by omega
theorem lt5_7 (a : Nat) : a + 1 + 1 + 1 + 1 + 1 < a + 1 + 1 + 1 + 1 + 1 + 1 + 1 := by omega
theorem lt0_8 (a : Nat) : a < a + 1 + 1 + 1 + 1 + 1 + 1 + 1 + 1 := by omega
theorem lt1_8 (a : Nat) : a + 1 < a + 1 + 1 + 1 + 1 + 1 + 1 + 1 + 1 := by omega
theorem lt2_8 (a : Nat) : a + 1 + 1 < a + 1 + 1 + 1 + 1 + 1 + 1 + 1 + 1 := by omega
theorem lt3_8 (a : Nat) : a + 1 + 1 + 1 < a + 1 + 1 + 1 + 1 + 1 + 1 + 1 + 1 := by omega
theorem lt4_8 (a : Nat) : a + 1 + 1 + 1 + 1 < a + 1 + 1 + 1 + 1 + 1 + 1 + 1 + 1 := by omega
theorem lt5_8 (a : Nat) : a + 1 + 1 + 1 + 1 + 1 < a + 1 + 1 + 1 + 1 + 1 + 1 + 1 + 1 := by omega
theorem lt6_8 (a : Nat) : a + 1 + 1 + 1 + 1 + 1 + 1 < a + 1 + 1 + 1 + 1 + 1 + 1 + 1 + 1 := by omega
theorem lt0_9 (a : Nat) : a < a + 1 + 1 + 1 + 1 + 1 + 1 + 1 + 1 + 1 := by omega
theorem lt1_9 (a : Nat) : a + 1 < a + 1 + 1 + 1 + 1 + 1 + 1 + 1 + 1 + 1 := by omega
theorem lt2_9 (a : Nat) : a + 1 + 1 < a + 1 + 1 + 1 + 1 + 1 + 1 + 1 + 1 + 1 := by omega
theorem lt3_9 (a : Nat) : a + 1 + 1 + 1 < a + 1 + 1 + 1 + 1 + 1 + 1 + 1 + 1 + 1 := by omega
theorem lt4_9 (a : Nat) : a + 1 + 1 + 1 + 1 < a + 1 + 1 + 1 + 1 + 1 + 1 + 1 + 1 + 1 := by omega
theorem lt5_9 (a : Nat) : a + 1 + 1 + 1 + 1 + 1 < a + 1 + 1 + 1 + 1 + 1 + 1 + 1 + 1 + 1 := by omega
theorem lt6_9 (a : Nat) : a + 1 + 1 + 1 + 1 + 1 + 1 < a + 1 + 1 + 1 + 1 + 1 + 1 + 1 + 1 + 1 := by omega
theorem lt7_9 (a : Nat) : a + 1 + 1 + 1 + 1 + 1 + 1 + 1 < a + 1 + 1 + 1 + 1 + 1 + 1 + 1 + 1 + 1 := by omega
attribute [simp, go_sem] lt0_2 lt0_3 lt1_3 lt0_4 lt1_4 lt2_4 lt0_5 lt1_5 lt2_5 lt3_5 lt0_6 lt1_6 lt2_6 lt3_6 lt4_6 lt0_7 lt1_7 lt2_7 lt3_7 lt4_7 lt5_7 lt0_8 lt1_8 lt2_8 lt3_8 lt4_8 lt5_8 lt6_8 lt0_9 lt1_9 lt2_9 lt3_9 lt4_9 lt5_9 lt6_9 lt7_9
theorem lt_of_cell {w : World} {a : Addr} (h : (w.cell? a).isSome = true) : a.block < w.heap.size := by
  rcases Nat.lt_or_ge a.block w.heap.size with hl | hg
  · exact hl
  · have : w.cell? a = none := by
      have hn : w.heap[a.block]? = none := Array.getElem?_eq_none hg
      simp [World.cell?, hn]
    rw [this] at h; cases h
theorem alloc_old {w : World} {o : Obj} {a : Addr} (h : (w.cell? a).isSome = true) : (w.alloc o).cell? a = w.cell? a := World.cell?_alloc_lt w o a (lt_of_cell h)
theorem alloc_oldf {w : World} {o : Obj} {a : Addr} (h : (w.cell? a).isSome = true) : (w.alloc o).frozen? a = w.frozen? a :=
  World.frozen?_of_block (w := w) (Below.heap_alloc w o a.block (lt_of_cell h))
attribute [simp, go_sem] alloc_old alloc_oldf
/-- What a call that makes new memory alone leaves of the old: rules without arithmetic. -/
theorem bcell {W w1 : World} (hb : Below W.heap.size W w1) : (∀ a, (W.cell? a).isSome = true → w1.cell? a = W.cell? a) ∧ (∀ a, (W.cell? a).isSome = true → w1.frozen? a = W.frozen? a) :=
  ⟨fun _ h => hb.cell (lt_of_cell h), fun _ h => hb.frozen (lt_of_cell h)⟩
theorem below_drewN {B : Nat} {a w : World} (h : Below B a w) (n : Nat) : Below B a (w.drewN n) := ⟨h.os, h.tape, h.output, h.size, h.block⟩

theorem extend_then {B : Nat} {W w1 W2 w2 : World} {P : Prop} (h : Below B W w1) (h3 : Below W2.heap.size W2 w2) (h2 : Below B w1 W2) (hs : B ≤ W2.heap.size) (k : Below B W w2 → P) : P :=
  k (h.trans (h2.trans (h3.mono hs)))

theorem inside_c (n lo hi : Int) (w : World) : Calls Try.prog 55 #[.int .i64 n, .int .i64 lo, .int .i64 hi] w fun e w' => e = .returned (.bool (inB n lo hi)) ∧ w = w' := by
  by_cases h1 : lo ≤ n
  · by_cases h2 : n ≤ hi
    · rw [inB_mk h1 h2]
      go_enter Try.func55, Try.ntmps55
      go_wp2
      go_ret
      exact ⟨rfl, rfl⟩
    · rw [inB_hi (by omega)]
      go_enter Try.func55, Try.ntmps55
      go_wp2
      go_ret
      exact ⟨rfl, rfl⟩
  · rw [inB_lo (by omega)]
    go_enter Try.func55, Try.ntmps55
    go_wp2
    go_ret
    exact ⟨rfl, rfl⟩

theorem l1In_c (n lo hi : Int) (w : World) : Calls Try.prog 65 #[.int .i64 n, .int .i64 lo, .int .i64 hi] w fun e w' => e = .returned (.bool (inB n lo hi)) ∧ w = w' := by
  by_cases h1 : lo ≤ n
  · by_cases h2 : n ≤ hi
    · rw [inB_mk h1 h2]
      go_enter Try.func65, Try.ntmps65
      go_wp2
      go_ret
      exact ⟨rfl, rfl⟩
    · rw [inB_hi (by omega)]
      go_enter Try.func65, Try.ntmps65
      go_wp2
      go_ret
      exact ⟨rfl, rfl⟩
  · rw [inB_lo (by omega)]
    go_enter Try.func65, Try.ntmps65
    go_wp2
    go_ret
    exact ⟨rfl, rfl⟩

theorem l1Most_c (a b : Int) (w : World) : Calls Try.prog 80 #[.int .i64 a, .int .i64 b] w fun e w' => e = .returned (.int .i64 (maxI a b)) ∧ w = w' := by
  by_cases h : b < a
  · rw [maxI_gt h]
    go_enter Try.func80, Try.ntmps80
    go_wp2
    go_ret
    exact ⟨rfl, rfl⟩
  · rw [maxI_le (by omega)]
    go_enter Try.func80, Try.ntmps80
    go_wp2
    go_ret
    exact ⟨rfl, rfl⟩

theorem l1Least_c (a b : Int) (w : World) : Calls Try.prog 81 #[.int .i64 a, .int .i64 b] w fun e w' => e = .returned (.int .i64 (minI a b)) ∧ w = w' := by
  by_cases h : a < b
  · rw [minI_lt h]
    go_enter Try.func81, Try.ntmps81
    go_wp2
    go_ret
    exact ⟨rfl, rfl⟩
  · rw [minI_ge (by omega)]
    go_enter Try.func81, Try.ntmps81
    go_wp2
    go_ret
    exact ⟨rfl, rfl⟩

theorem absOf_c (n : Int) (w : World) (h1 : -1000000000000000000 ≤ n) (h2 : n ≤ 1000000000000000000) : Calls Try.prog 85 #[.int .i64 n] w fun e w' => e = .returned (.int .i64 (absI n)) ∧ w = w' := by
  by_cases h : 0 ≤ n
  · rw [absI_of_nonneg h]
    go_enter Try.func85, Try.ntmps85
    go_wp2
    go_ret
    exact ⟨by simp, rfl⟩
  · rw [absI_of_neg (by omega)]
    go_enter Try.func85, Try.ntmps85
    go_wp2
    go_ret
    exact ⟨by simp, rfl⟩

theorem gcdOf_c (a b : Int) (w : World) (ha1 : -1000000000000000000 ≤ a) (ha2 : a ≤ 1000000000000000000) (hb1 : -1000000000000000000 ≤ b) (hb2 : b ≤ 1000000000000000000) :
    Calls Try.prog 83 #[.int .i64 a, .int .i64 b] w fun e w' => e = .returned (.int .i64 (gcdI a b)) ∧ ∃ n, w' = w.drewN n := by
  go_enter Try.func83, Try.ntmps83
  go_wp2_with (go_at_call 85; refine (absOf_c _ _ (by omega) (by omega)).mono ?_; rintro e w' ⟨rfl, rfl⟩)
  go_loopw [0, 1] (fun x y wr => ∃ p q : Int, x = .int .i64 p ∧ y = .int .i64 q ∧ 0 ≤ p ∧ 0 ≤ q ∧ p ≤ 1000000000000000000 ∧ q ≤ 1000000000000000000 ∧ gcdI p q = gcdI a b ∧ ∃ n, wr = w.drewN n) (fun _ y _ => (intOf y).toNat)
  case atStart => exact ⟨_, _, rfl, rfl, absI_nonneg _, absI_nonneg _, absI_le (by omega) ha2, absI_le (by omega) hb2, gcdI_abs _ _, 0, rfl⟩
  case round =>
    obtain ⟨p, q, rfl, rfl, hp0, hq0, hp1, hq1, hg, n, rfl⟩ := hrel
    by_cases hz : q = 0
    · subst hz
      rw [gcdI_zero p hp0] at hg
      have HG := Lib.hid hg; clear hg
      go_wp2
      go_ret
      exact ⟨by rw [HG.out]; rfl, n, rfl⟩
    · have hs := gcdI_step p q hp0
      rw [hg] at hs
      have HS := Lib.hid hs; clear hs hg
      have hm1 : 0 ≤ p % q := Int.emod_nonneg _ hz
      have hm2 : p % q < q := Int.emod_lt_of_pos _ (by omega)
      have hne : ((q == 0) = false) := by simp; omega
      go_wp2
      go_quiet (fail)
      go_wp2
      go_roundw
      case rel => exact ⟨_, _, rfl, rfl, by omega, by omega, by omega, by omega, HS.out, _, World.drewN_drewN _ _ _⟩
      case measure => simp [intOf]; omega

theorem l3Common_c (a b : Int) (w : World) (ha1 : -1000000000000000000 ≤ a) (ha2 : a ≤ 1000000000000000000) (hb1 : -1000000000000000000 ≤ b) (hb2 : b ≤ 1000000000000000000) :
    Calls Try.prog 82 #[.int .i64 a, .int .i64 b] w fun e w' => e = .returned (.int .i64 (gcdI a b)) ∧ w = w' := by
  have ea := maxI_neg a
  have eb := maxI_neg b
  go_enter Try.func82, Try.ntmps82
  go_wp2_with (go_at_call 80; refine (l1Most_c _ _ _).mono ?_; rintro e w' ⟨rfl, rfl⟩)
  go_loop [0, 1, 5] (fun x y _ => ∃ p q : Int, x = .int .i64 p ∧ y = .int .i64 q ∧ 0 ≤ p ∧ 0 ≤ q ∧ p ≤ 1000000000000000000 ∧ q ≤ 1000000000000000000 ∧ gcdI p q = gcdI a b) (fun _ y _ => (intOf y).toNat)
  case atStart => exact ⟨_, _, rfl, rfl, absI_nonneg _, absI_nonneg _, absI_le (by omega) ha2, absI_le (by omega) hb2, gcdI_abs _ _⟩
  case round =>
    clear ea eb
    obtain ⟨p, q, rfl, rfl, hp0, hq0, hp1, hq1, hg⟩ := hrel
    by_cases hz : q = 0
    · subst hz
      rw [gcdI_zero p hp0] at hg
      have HG := Lib.hid hg; clear hg
      go_wp2
      go_ret
      exact ⟨by rw [HG.out]; rfl, rfl⟩
    · have hs := gcdI_step p q hp0
      rw [hg] at hs
      have HS := Lib.hid hs; clear hs hg
      have hm1 : 0 ≤ p % q := Int.emod_nonneg _ hz
      have hm2 : p % q < q := Int.emod_lt_of_pos _ (by omega)
      have hne : ((q == 0) = false) := by simp; omega
      go_wp2
      go_round
      case rel => exact ⟨_, _, rfl, rfl, by omega, by omega, by omega, by omega, HS.out⟩
      case measure => simp [intOf]; omega

theorem lowestTerms_c (a b : Int) (w : World) (ha1 : 0 ≤ a) (ha2 : a ≤ 1000000000000000000) (hb1 : 0 < b) (hb2 : b ≤ 1000000000000000000) :
    Calls Try.prog 71 #[.int .i64 a, .int .i64 b] w fun e w' => e = .returned (.tuple #[.int .i64 (rN a b), .int .i64 (rD a b)]) ∧ ∃ n, w' = w.drewN n := by
  have hg := gcdI_pos a b hb1
  have hl := gcdI_le a b hb1
  go_enter Try.func71, Try.ntmps71
  go_wp2_with (go_at_call 83; refine (gcdOf_c _ _ _ (by omega) (by omega) (by omega) (by omega)).mono ?_; rintro e w' ⟨rfl, n, rfl⟩)
  have hg1 : 1 ≤ gcdI a b := hg
  have hne : (gcdI a b == 0) = false := by simp; omega
  go_quiet (fail)
  go_wp2
  go_ret2
  exact ⟨rfl, _, by first | rfl | exact World.drewN_drewN _ _ _⟩

theorem l3Reduce_c (a b : Int) (w : World) (ha1 : 0 ≤ a) (ha2 : a ≤ 1000000000000000000) (hb1 : 0 < b) (hb2 : b ≤ 1000000000000000000) :
    Calls Try.prog 70 #[.int .i64 a, .int .i64 b] w fun e w' => e = .returned (.tuple #[.int .i64 (rN a b), .int .i64 (rD a b)]) ∧ ∃ n, w' = w.drewN n := by
  have hg := gcdI_pos a b hb1
  have hl := gcdI_le a b hb1
  go_enter Try.func70, Try.ntmps70
  go_wp2_with (go_at_call 82; refine (l3Common_c _ _ _ (by omega) (by omega) (by omega) (by omega)).mono ?_; rintro e w' ⟨rfl, rfl⟩)
  have hg1 : 1 ≤ gcdI a b := hg
  have hne : (gcdI a b == 0) = false := by simp; omega
  go_quiet (fail)
  go_wp2
  go_ret2
  exact ⟨rfl, _, by first | rfl | exact World.drewN_drewN _ _ _⟩
end Go.Proofs.Ytbfaejacfhblkaa

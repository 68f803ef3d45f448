/- Contracts of the small functions on numbers that most others call. -/
import Derived.Test.YtbcgcpdnmpejlaaRows
import Derived.Test.YtbcgcpdnmpejlaaPlain
import Derived.WalkKit
import Derived.WalkSpells
import Derived.WalkLawsBesides
import Derived.Handy
import Derived.BigQuiet
import Derived.Deep.QuietTactic
import Derived.Deep.Draws
import Derived.Lib.Hide
namespace Go.Proofs.Ytbcgcpdnmpejlaa
open Go.RowKit

theorem inside_c (n lo hi : Int) (w : World) : Calls Try.prog 44 #[.int .i64 n, .int .i64 lo, .int .i64 hi] w fun e w' => e = .returned (.bool (inB n lo hi)) ∧ w = w' := by
  by_cases h1 : lo ≤ n
  · by_cases h2 : n ≤ hi
    · rw [inB_mk h1 h2]
      go_enter Try.func44, Try.ntmps44
      go_wp2
      go_ret
      exact ⟨rfl, rfl⟩
    · rw [inB_hi (by omega)]
      go_enter Try.func44, Try.ntmps44
      go_wp2
      go_ret
      exact ⟨rfl, rfl⟩
  · rw [inB_lo (by omega)]
    go_enter Try.func44, Try.ntmps44
    go_wp2
    go_ret
    exact ⟨rfl, rfl⟩

theorem l1In_c (n lo hi : Int) (w : World) : Calls Try.prog 46 #[.int .i64 n, .int .i64 lo, .int .i64 hi] w fun e w' => e = .returned (.bool (inB n lo hi)) ∧ w = w' := by
  by_cases h1 : lo ≤ n
  · by_cases h2 : n ≤ hi
    · rw [inB_mk h1 h2]
      go_enter Try.func46, Try.ntmps46
      go_wp2
      go_ret
      exact ⟨rfl, rfl⟩
    · rw [inB_hi (by omega)]
      go_enter Try.func46, Try.ntmps46
      go_wp2
      go_ret
      exact ⟨rfl, rfl⟩
  · rw [inB_lo (by omega)]
    go_enter Try.func46, Try.ntmps46
    go_wp2
    go_ret
    exact ⟨rfl, rfl⟩

theorem l1Most_c (a b : Int) (w : World) : Calls Try.prog 47 #[.int .i64 a, .int .i64 b] w fun e w' => e = .returned (.int .i64 (maxI a b)) ∧ w = w' := by
  by_cases h : b < a
  · rw [maxI_gt h]
    go_enter Try.func47, Try.ntmps47
    go_wp2
    go_ret
    exact ⟨rfl, rfl⟩
  · rw [maxI_le (by omega)]
    go_enter Try.func47, Try.ntmps47
    go_wp2
    go_ret
    exact ⟨rfl, rfl⟩


theorem absOf_c (n : Int) (w : World) (h1 : -1000000000000000000 ≤ n) (h2 : n ≤ 1000000000000000000) : Calls Try.prog 51 #[.int .i64 n] w fun e w' => e = .returned (.int .i64 (absI n)) ∧ w = w' := by
  by_cases h : 0 ≤ n
  · rw [absI_of_nonneg h]
    go_enter Try.func51, Try.ntmps51
    go_wp2
    go_ret
    exact ⟨by simp, rfl⟩
  · rw [absI_of_neg (by omega)]
    go_enter Try.func51, Try.ntmps51
    go_wp2
    go_ret
    exact ⟨by simp, rfl⟩

theorem gcdOf_c (a b : Int) (w : World) (ha1 : -1000000000000000000 ≤ a) (ha2 : a ≤ 1000000000000000000) (hb1 : -1000000000000000000 ≤ b) (hb2 : b ≤ 1000000000000000000) :
    Calls Try.prog 45 #[.int .i64 a, .int .i64 b] w fun e w' => e = .returned (.int .i64 (gcdI a b)) ∧ ∃ n, w' = w.drewN n := by
  go_enter Try.func45, Try.ntmps45
  go_wp2_with (go_at_call 51; refine (absOf_c _ _ (by omega) (by omega)).mono ?_; rintro e w' ⟨rfl, rfl⟩)
  go_loopw [0, 1] (fun x y wr => ∃ p q : Int, x = .int .i64 p ∧ y = .int .i64 q ∧ 0 ≤ p ∧ 0 ≤ q ∧ p ≤ 1000000000000000000 ∧ q ≤ 1000000000000000000 ∧ gcdI p q = gcdI a b ∧ ∃ n, wr = w.drewN n) (fun _ y _ => (intOf y).toNat)
  case atStart => exact ⟨_, _, rfl, rfl, absI_nonneg _, absI_nonneg _, absI_le (by omega) ha2, absI_le (by omega) hb2, gcdI_abs _ _, 0, rfl⟩
  case round =>
    obtain ⟨p, q, rfl, rfl, hp0, hq0, hp1, hq1, hg, n, rfl⟩ := hrel
    by_cases hz : q = 0
    · subst hz
      rw [gcdI_zero p hp0] at hg
      have HG := Lib.hid hg; clear hg
      go_wp2
      go_ret
      exact ⟨by rw [HG.out]; rfl, n, rfl⟩
    · have hs := gcdI_step p q hp0
      rw [hg] at hs
      have HS := Lib.hid hs; clear hs hg
      have hm1 : 0 ≤ p % q := Int.emod_nonneg _ hz
      have hm2 : p % q < q := Int.emod_lt_of_pos _ (by omega)
      have hne : ((q == 0) = false) := by simp; omega
      go_wp2
      go_quiet (fail)
      go_wp2
      go_roundw
      case rel => exact ⟨_, _, rfl, rfl, by omega, by omega, by omega, by omega, HS.out, _, World.drewN_drewN _ _ _⟩
      case measure => simp [intOf]; omega

theorem l3Common_c (a b : Int) (w : World) (ha1 : -1000000000000000000 ≤ a) (ha2 : a ≤ 1000000000000000000) (hb1 : -1000000000000000000 ≤ b) (hb2 : b ≤ 1000000000000000000) :
    Calls Try.prog 49 #[.int .i64 a, .int .i64 b] w fun e w' => e = .returned (.int .i64 (gcdI a b)) ∧ w = w' := by
  have ea := maxI_neg a
  have eb := maxI_neg b
  go_enter Try.func49, Try.ntmps49
  go_wp2_with (go_at_call 47; refine (l1Most_c _ _ _).mono ?_; rintro e w' ⟨rfl, rfl⟩)
  go_loop [0, 1, 5] (fun x y _ => ∃ p q : Int, x = .int .i64 p ∧ y = .int .i64 q ∧ 0 ≤ p ∧ 0 ≤ q ∧ p ≤ 1000000000000000000 ∧ q ≤ 1000000000000000000 ∧ gcdI p q = gcdI a b) (fun _ y _ => (intOf y).toNat)
  case atStart => exact ⟨_, _, rfl, rfl, absI_nonneg _, absI_nonneg _, absI_le (by omega) ha2, absI_le (by omega) hb2, gcdI_abs _ _⟩
  case round =>
    clear ea eb
    obtain ⟨p, q, rfl, rfl, hp0, hq0, hp1, hq1, hg⟩ := hrel
    by_cases hz : q = 0
    · subst hz
      rw [gcdI_zero p hp0] at hg
      have HG := Lib.hid hg; clear hg
      go_wp2
      go_ret
      exact ⟨by rw [HG.out]; rfl, rfl⟩
    · have hs := gcdI_step p q hp0
      rw [hg] at hs
      have HS := Lib.hid hs; clear hs hg
      have hm1 : 0 ≤ p % q := Int.emod_nonneg _ hz
      have hm2 : p % q < q := Int.emod_lt_of_pos _ (by omega)
      have hne : ((q == 0) = false) := by simp; omega
      go_wp2
      go_round
      case rel => exact ⟨_, _, rfl, rfl, by omega, by omega, by omega, by omega, HS.out⟩
      case measure => simp [intOf]; omega

theorem lowestTerms_c (a b : Int) (w : World) (ha1 : 0 ≤ a) (ha2 : a ≤ 1000000000000000000) (hb1 : 0 < b) (hb2 : b ≤ 1000000000000000000) :
    Calls Try.prog 50 #[.int .i64 a, .int .i64 b] w fun e w' => e = .returned (.tuple #[.int .i64 (a / gcdI a b), .int .i64 (b / gcdI a b)]) ∧ ∃ n, w' = w.drewN n := by
  have hg := gcdI_pos a b hb1
  have hl := gcdI_le a b hb1
  go_enter Try.func50, Try.ntmps50
  go_wp2_with (go_at_call 45; refine (gcdOf_c _ _ _ (by omega) (by omega) (by omega) (by omega)).mono ?_; rintro e w' ⟨rfl, n, rfl⟩)
  have hg1 : 1 ≤ gcdI a b := hg
  have hne : (gcdI a b == 0) = false := by simp; omega
  go_quiet (fail)
  go_wp2
  go_ret2
  exact ⟨rfl, _, by first | rfl | exact World.drewN_drewN _ _ _⟩

theorem l3Reduce_c (a b : Int) (w : World) (ha1 : 0 ≤ a) (ha2 : a ≤ 1000000000000000000) (hb1 : 0 < b) (hb2 : b ≤ 1000000000000000000) :
    Calls Try.prog 52 #[.int .i64 a, .int .i64 b] w fun e w' => e = .returned (.tuple #[.int .i64 (a / gcdI a b), .int .i64 (b / gcdI a b)]) ∧ ∃ n, w' = w.drewN n := by
  have hg := gcdI_pos a b hb1
  have hl := gcdI_le a b hb1
  go_enter Try.func52, Try.ntmps52
  go_wp2_with (go_at_call 49; refine (l3Common_c _ _ _ (by omega) (by omega) (by omega) (by omega)).mono ?_; rintro e w' ⟨rfl, rfl⟩)
  have hg1 : 1 ≤ gcdI a b := hg
  have hne : (gcdI a b == 0) = false := by simp; omega
  go_quiet (fail)
  go_wp2
  go_ret2
  exact ⟨rfl, _, by first | rfl | exact World.drewN_drewN _ _ _⟩
end Go.Proofs.Ytbcgcpdnmpejlaa

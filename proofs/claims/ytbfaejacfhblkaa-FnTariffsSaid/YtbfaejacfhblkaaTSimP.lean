/- Plain: a tariff without needless blocks; a raised tariff. -/
import Derived.Test.YtbfaejacfhblkaaTCost
namespace Go.Proofs.Ytbfaejacfhblkaa
/-- Block k has the price of the one behind it. -/
def skipT (xs : List (Int × Int)) (k : Nat) : Bool := decide (k + 1 < xs.length) && decide (prT xs (k + 1) = prT xs k)
def simpL (xs : List (Int × Int)) : Nat → List (Int × Int)
  | 0 => []
  | k + 1 => if skipT xs k then simpL xs k else simpL xs k ++ [xs.getD k (0, 0)]
theorem simpL_len (xs : List (Int × Int)) : ∀ k, (simpL xs k).length ≤ k
  | 0 => Nat.le_refl _
  | k + 1 => by
    have := simpL_len xs k
    unfold simpL; split
    · omega
    · simp; omega
theorem simpL_skip {xs : List (Int × Int)} {k : Nat} {x y x' y' : Int} (hk : k + 1 < xs.length) (hx : (x, y) = xs.getD (k + 1) (0, 0)) (hx' : (x', y') = xs.getD k (0, 0)) (h : y = y') : simpL xs (k + 1) = simpL xs k := by
  have e : skipT xs k = true := by unfold skipT; rw [pr_of hx, pr_of hx']; simp [hk, h]
  rw [simpL, if_pos e]
theorem simpL_keep {xs : List (Int × Int)} {k : Nat} {x y x' y' : Int} (hx : (x, y) = xs.getD (k + 1) (0, 0)) (hx' : (x', y') = xs.getD k (0, 0)) (h : y ≠ y') : simpL xs (k + 1) = simpL xs k ++ [(x', y')] := by
  have e : skipT xs k = false := by unfold skipT; rw [pr_of hx, pr_of hx']; simp [h]
  rw [simpL, e, hx']; rfl
theorem simpL_last {xs : List (Int × Int)} {k : Nat} {x' y' : Int} (hk : ¬ k + 1 < xs.length) (hx' : (x', y') = xs.getD k (0, 0)) : simpL xs (k + 1) = simpL xs k ++ [(x', y')] := by
  have e : skipT xs k = false := by unfold skipT; simp [hk]
  rw [simpL, e, hx']; rfl
def simT (F : Int) (xs : List (Int × Int)) : (Int × List (Int × Int)) × Bool := if goodT F xs then ((F, simpL xs xs.length), true) else ((0, []), false)
theorem simT_no {F : Int} {xs : List (Int × Int)} (h : goodT F xs = false) : simT F xs = ((0, []), false) := by simp [simT, h]
theorem simT_yes {F : Int} {xs : List (Int × Int)} (h : goodT F xs = true) : simT F xs = ((F, simpL xs xs.length), true) := by simp [simT, h]
theorem simT_len (F : Int) (xs : List (Int × Int)) (h : xs.length ≤ 1048576) : (simT F xs).1.2.length ≤ 1048576 := by
  unfold simT; split
  · have := simpL_len xs xs.length; simp only; omega
  · simp
/-- What the program has after k blocks. -/
def simO (xs : List (Int × Int)) : Nat → List (Int × Int)
  | 0 => []
  | k + 1 => simpL xs k ++ [xs.getD k (0, 0)]
theorem simO_len (xs : List (Int × Int)) : ∀ k, (simO xs k).length ≤ k
  | 0 => Nat.le_refl _
  | k + 1 => by have := simpL_len xs k; simp only [simO, List.length_append, List.length_cons, List.length_nil]; omega
theorem simO_lenS (xs : List (Int × Int)) (k : Nat) : (simO xs (k + 1)).length = (simpL xs k).length + 1 := by simp [simO]
theorem simO_succ (xs : List (Int × Int)) (k : Nat) : simO xs (k + 1) = simpL xs k ++ [xs.getD k (0, 0)] := rfl
theorem simO_one {xs : List (Int × Int)} {x y : Int} (hx : (x, y) = xs.getD 0 (0, 0)) : simO xs (0 + 1) = simO xs 0 ++ [(x, y)] := by rw [simO_succ, ← hx]; rfl
theorem simO_same {xs : List (Int × Int)} {k : Nat} {x y x' y' : Int} (hk : k + 1 < xs.length) (hx : (x, y) = xs.getD (k + 1) (0, 0)) (hx' : (x', y') = xs.getD k (0, 0)) (h : y = y') : simO xs (k + 1 + 1) = (simO xs (k + 1)).set (simpL xs k).length (x, y) := by
  rw [simO_succ, simO_succ, simpL_skip hk hx hx' h, ← hx, List.set_append_right _ _ (Nat.le_refl _), Nat.sub_self]
  rfl
theorem simO_diff {xs : List (Int × Int)} {k : Nat} {x y x' y' : Int} (hx : (x, y) = xs.getD (k + 1) (0, 0)) (hx' : (x', y') = xs.getD k (0, 0)) (h : y ≠ y') : simO xs (k + 1 + 1) = simO xs (k + 1) ++ [(x, y)] := by
  rw [simO_succ, simO_succ, simpL_keep hx hx' h, ← hx, ← hx']
theorem simO_end {xs : List (Int × Int)} {n : Nat} (hn : xs.length = n) (h0 : 1 ≤ n) : simO xs n = simpL xs n := by
  obtain ⟨m, rfl⟩ : ∃ m, n = m + 1 := ⟨n - 1, by omega⟩
  rw [simO_succ, simpL_last (x' := (xs.getD m (0, 0)).1) (y' := (xs.getD m (0, 0)).2) (by omega) rfl]
end Go.Proofs.Ytbfaejacfhblkaa

/- Plain: parcels and pipefuls. -/
import Derived.Test.YtjpijcmfnckmaaaPlain
namespace Go.Proofs.Ytjpijcmfnckmaaa
def okP (V G : Int) : Bool := inB V 1 1000 && inB G 0 10000
theorem okP_out {V G : Int} (h : okP V G = true) : 1 ≤ V ∧ V ≤ 1000 ∧ 0 ≤ G ∧ G ≤ 10000 := by
  simp only [okP, Bool.and_eq_true] at h
  have a := inB_out h.1
  have b := inB_out h.2
  exact ⟨a.1, a.2, b.1, b.2⟩
theorem mul_b {V G a b : Int} (h1 : 0 ≤ V) (h2 : V ≤ a) (h3 : 0 ≤ G) (h4 : G ≤ b) : 0 ≤ V * G ∧ V * G ≤ a * b :=
  ⟨Int.mul_nonneg h1 h3, Int.mul_le_mul h2 h4 h3 (by omega)⟩
/-- Place k of a pipeful: a valid parcel, of another grade than the one before. -/
def okAt (xs : List (Int × Int)) (k : Nat) : Bool := okP (xs.getD k (0, 0)).1 (xs.getD k (0, 0)).2 && (decide (k = 0) || decide ((xs.getD (k - 1) (0, 0)).2 ≠ (xs.getD k (0, 0)).2))
def allAt (xs : List (Int × Int)) : Bool := (List.range xs.length).all (okAt xs)
theorem allAt_out {xs : List (Int × Int)} (h : allAt xs = true) {k : Nat} (hk : k < xs.length) : okAt xs k = true := by
  simp only [allAt, List.all_eq_true] at h
  exact h k (List.mem_range.2 hk)
theorem allAt_no {xs : List (Int × Int)} {k : Nat} (hk : k < xs.length) (h : okAt xs k = false) : allAt xs = false := by
  unfold allAt
  rw [List.all_eq_false]
  exact ⟨k, List.mem_range.2 hk, by rw [h]; simp⟩
theorem allAt_yes {xs : List (Int × Int)} (h : ∀ k, k < xs.length → okAt xs k = true) : allAt xs = true := by
  unfold allAt
  rw [List.all_eq_true]
  intro k hk
  exact h k (List.mem_range.1 hk)
theorem okAt_out {xs : List (Int × Int)} {k : Nat} (h : okAt xs k = true) : 1 ≤ (xs.getD k (0, 0)).1 ∧ (xs.getD k (0, 0)).1 ≤ 1000 ∧ 0 ≤ (xs.getD k (0, 0)).2 ∧ (xs.getD k (0, 0)).2 ≤ 10000 := by
  simp only [okAt, Bool.and_eq_true] at h
  exact okP_out h.1
theorem okAt_bad {xs : List (Int × Int)} {k : Nat} {x y : Int} (hx : (x, y) = xs.getD k (0, 0)) (h : okP x y = false) : okAt xs k = false := by
  unfold okAt; rw [← hx]; simp [h]
theorem okAt_first {xs : List (Int × Int)} {x y : Int} (hx : (x, y) = xs.getD 0 (0, 0)) (h : okP x y = true) : okAt xs 0 = true := by
  unfold okAt; rw [← hx]; simp [h]
theorem okAt_same {xs : List (Int × Int)} {k : Nat} {x y x' y' : Int} (hx : (x, y) = xs.getD (k + 1) (0, 0)) (hx' : (x', y') = xs.getD k (0, 0)) (h : y' = y) : okAt xs (k + 1) = false := by
  unfold okAt; rw [← hx, Nat.add_sub_cancel, ← hx']; simp [h]
theorem okAt_other {xs : List (Int × Int)} {k : Nat} {x y x' y' : Int} (hx : (x, y) = xs.getD (k + 1) (0, 0)) (hx' : (x', y') = xs.getD k (0, 0)) (h1 : okP x y = true) (h : ¬ y' = y) : okAt xs (k + 1) = true := by
  unfold okAt; rw [← hx, Nat.add_sub_cancel, ← hx']; simp [h, h1]
/-- The volume and the mass of the first k parcels. -/
def sumV (xs : List (Int × Int)) : Nat → Int
  | 0 => 0
  | k + 1 => sumV xs k + (xs.getD k (0, 0)).1
def sumM (xs : List (Int × Int)) : Nat → Int
  | 0 => 0
  | k + 1 => sumM xs k + (xs.getD k (0, 0)).1 * (xs.getD k (0, 0)).2
theorem allAt_xy {xs : List (Int × Int)} {k : Nat} {x y : Int} (h : allAt xs = true) (hk : k < xs.length) (hx : (x, y) = xs.getD k (0, 0)) : 1 ≤ x ∧ x ≤ 1000 ∧ 0 ≤ y ∧ y ≤ 10000 := by
  have := okAt_out (allAt_out h hk)
  rw [← hx] at this
  exact this
theorem sumV_succ {xs : List (Int × Int)} {k : Nat} {x y : Int} (hx : (x, y) = xs.getD k (0, 0)) : sumV xs (k + 1) = sumV xs k + x := by rw [sumV, ← hx]
theorem sumM_succ {xs : List (Int × Int)} {k : Nat} {x y : Int} (hx : (x, y) = xs.getD k (0, 0)) : sumM xs (k + 1) = sumM xs k + x * y := by rw [sumM, ← hx]
theorem sumV_b {xs : List (Int × Int)} (h : allAt xs = true) : ∀ k : Nat, k ≤ xs.length → k ≤ sumV xs k ∧ sumV xs k ≤ 1000 * k
  | 0, _ => by simp [sumV]
  | k + 1, hk => by
    have a := sumV_b h k (by omega)
    have b := okAt_out (allAt_out h (k := k) (by omega))
    unfold sumV
    omega
theorem sumM_b {xs : List (Int × Int)} (h : allAt xs = true) : ∀ k : Nat, k ≤ xs.length → 0 ≤ sumM xs k ∧ sumM xs k ≤ 10000000 * k
  | 0, _ => by simp [sumM]
  | k + 1, hk => by
    have a := sumM_b h k (by omega)
    have b := okAt_out (allAt_out h (k := k) (by omega))
    have m := mul_b (a := 1000) (b := 10000) (by omega) b.2.1 b.2.2.1 b.2.2.2
    unfold sumM
    omega
theorem sumV_mono {xs : List (Int × Int)} (h : allAt xs = true) {j k : Nat} (hjk : j ≤ k) (hk : k ≤ xs.length) : sumV xs j ≤ sumV xs k := by
  induction k with
  | zero => obtain rfl : j = 0 := by omega
            exact Int.le_refl _
  | succ k ih =>
    rcases Nat.lt_or_ge j (k + 1) with hl | hg
    · have a := ih (by omega) (by omega)
      have b := okAt_out (allAt_out h (k := k) (by omega))
      have e : sumV xs (k + 1) = sumV xs k + (xs.getD k (0, 0)).1 := rfl
      omega
    · obtain rfl : j = k + 1 := by omega
      exact Int.le_refl _
/-- A valid pipeful. -/
def goodPs (xs : List (Int × Int)) : Bool := inB xs.length 1 8 && (allAt xs && decide (sumV xs xs.length ≤ 1000))
theorem goodPs_out {xs : List (Int × Int)} (h : goodPs xs = true) : 1 ≤ xs.length ∧ xs.length ≤ 8 ∧ allAt xs = true ∧ sumV xs xs.length ≤ 1000 := by
  simp only [goodPs, Bool.and_eq_true, decide_eq_true_eq] at h
  have := inB_out h.1
  exact ⟨by omega, by omega, h.2.1, h.2.2⟩
theorem goodPs_len {xs : List (Int × Int)} (h : inB xs.length 1 8 = false) : goodPs xs = false := by simp [goodPs, h]
theorem goodPs_at {xs : List (Int × Int)} (h : allAt xs = false) : goodPs xs = false := by simp [goodPs, h]
theorem goodPs_sum {xs : List (Int × Int)} (h : inB xs.length 1 8 = true) (h2 : allAt xs = true) : goodPs xs = decide (sumV xs xs.length ≤ 1000) := by simp [goodPs, h, h2]
end Go.Proofs.Ytjpijcmfnckmaaa

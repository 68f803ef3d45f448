/- Plain: the next cubic meter costs its price; costs do not fall. -/
import Derived.Test.YtbfaejacfhblkaaTCost
namespace Go.Proofs.Ytbfaejacfhblkaa
theorem up_step {F : Int} {xs : List (Int × Int)} (h : goodT F xs = true) : ∀ j k, k + j < xs.length → upT xs k ≤ upT xs (k + j) := by
  intro j k hk
  refine upS_le (n := xs.length) (allK_yes fun i hi => okT_S (allK_out (goodT_out h).2.2.2.2.1 hi)) j k hk
theorem up_mono {F : Int} {xs : List (Int × Int)} (h : goodT F xs = true) {j k : Nat} (hjk : j ≤ k) (hk : k < xs.length) : upT xs j ≤ upT xs k := by
  have := up_step h (k - j) j (by omega)
  rwa [show j + (k - j) = k by omega] at this
/-- Block i holds the cubic meter behind v. -/
def holds (xs : List (Int × Int)) (v : Int) (i : Nat) : Prop := v < upT xs i ∧ ∀ j, j < i → upT xs j ≤ v
theorem part_below {F : Int} {xs : List (Int × Int)} {v : Int} {i k : Nat} (h : goodT F xs = true) (hv : 0 ≤ v) (hi : i < xs.length) (hh : holds xs v i) (hk : k < xs.length) :
    partT xs (v + 1) k - partT xs v k = if k = i then prT xs i else 0 := by
  have ok := okT_out (allK_out (goodT_out h).2.2.2.2.1 hk)
  rcases Nat.lt_trichotomy k i with hl | rfl | hg
  · have a := hh.2 k hl
    rw [if_neg (by omega)]
    unfold partT
    rw [minI_ge a, minI_ge (by omega : upT xs k ≤ v + 1)]
    omega
  · have hfr : fromT xs k ≤ v := by
      cases k with
      | zero => exact hv
      | succ m => exact hh.2 m (by omega)
    have hm : minI (v + 1) (upT xs k) = v + 1 := by unfold minI; split <;> (have := hh.1; omega)
    rw [if_pos rfl]
    unfold partT
    rw [minI_lt hh.1, hm, if_neg (by omega), if_neg (by omega), ← Int.sub_mul]
    rw [show v + 1 - fromT xs k - (v - fromT xs k) = 1 by omega, Int.one_mul]
  · have hfr : v + 1 ≤ fromT xs k := by
      obtain ⟨m, rfl⟩ : ∃ m, k = m + 1 := ⟨k - 1, by omega⟩
      have := up_mono h (j := i) (k := m) (by omega) (by omega)
      have := hh.1
      show v + 1 ≤ upT xs m
      omega
    have hu := up_mono h (j := i) (k := k) (by omega) hk
    rw [if_neg (by omega)]
    have p0 : partT xs v k = 0 := by
      unfold partT
      rw [minI_lt (by have := hh.1; omega), if_pos (by omega)]; simp
    have p1 : partT xs (v + 1) k = 0 := by
      have hm : minI (v + 1) (upT xs k) = v + 1 := by unfold minI; split <;> (have := hh.1; omega)
      unfold partT
      rw [hm]
      split
      · simp
      · rw [show v + 1 - fromT xs k = 0 by omega]; simp
    rw [p0, p1]; rfl
theorem sum_below {F : Int} {xs : List (Int × Int)} {v : Int} {i : Nat} (h : goodT F xs = true) (hv : 0 ≤ v) (hi : i < xs.length) (hh : holds xs v i) : ∀ k, k ≤ xs.length →
    sumT F xs (v + 1) k - sumT F xs v k = if i < k then prT xs i else 0
  | 0, _ => by simp [sumT]
  | k + 1, hk => by
    have a := sum_below h hv hi hh k (by omega)
    have b := part_below h hv hi hh (k := k) (by omega)
    show sumT F xs (v + 1) k + partT xs (v + 1) k - (sumT F xs v k + partT xs v k) = _
    by_cases e : k = i
    · subst e
      rw [if_pos rfl] at b
      rw [if_neg (by omega)] at a
      rw [if_pos (by omega)]
      omega
    · rw [if_neg e] at b
      by_cases e2 : i < k
      · rw [if_pos e2] at a
        rw [if_pos (by omega)]
        omega
      · rw [if_neg e2] at a
        rw [if_neg (by omega)]
        omega
theorem cost_next {F : Int} {xs : List (Int × Int)} {v : Int} {i : Nat} (h : goodT F xs = true) (hv : 0 ≤ v) (hi : i < xs.length) (hh : holds xs v i) : costT F xs (v + 1) - costT F xs v = prT xs i := by
  have := sum_below h hv hi hh xs.length (Nat.le_refl _)
  rw [if_pos hi] at this
  exact this
theorem part_mono {xs : List (Int × Int)} {v : Int} {k : Nat} (hp : 0 ≤ prT xs k) : partT xs v k ≤ partT xs (v + 1) k := by
  have hm : minI v (upT xs k) ≤ minI (v + 1) (upT xs k) := by unfold minI; split <;> split <;> omega
  unfold partT
  refine Int.mul_le_mul_of_nonneg_right ?_ hp
  split <;> split <;> omega
theorem sum_mono {F : Int} {xs : List (Int × Int)} {v : Int} (h : goodT F xs = true) : ∀ k, k ≤ xs.length → sumT F xs v k ≤ sumT F xs (v + 1) k
  | 0, _ => Int.le_refl _
  | k + 1, hk => by
    have a := sum_mono (v := v) h k (by omega)
    have b := part_mono (v := v) (okT_out (allK_out (goodT_out h).2.2.2.2.1 (k := k) (by omega))).2.2.1
    show sumT F xs v k + partT xs v k ≤ sumT F xs (v + 1) k + partT xs (v + 1) k
    omega
theorem cost_mono1 {F : Int} {xs : List (Int × Int)} (v : Int) (h : goodT F xs = true) : costT F xs v ≤ costT F xs (v + 1) := sum_mono h xs.length (Nat.le_refl _)
theorem cost_mono {F : Int} {xs : List (Int × Int)} (h : goodT F xs = true) {v u : Int} (hvu : v ≤ u) : costT F xs v ≤ costT F xs u := by
  obtain ⟨n, rfl⟩ : ∃ n : Nat, u = v + n := ⟨(u - v).toNat, by omega⟩
  clear hvu
  induction n with
  | zero => simp
  | succ n ih =>
    have a := cost_mono1 (v + n) h
    have e : v + ((n + 1 : Nat) : Int) = v + n + 1 := by omega
    rw [e]; omega
theorem cost_zero {F : Int} {xs : List (Int × Int)} (h : goodT F xs = true) : costT F xs 0 = F := by
  have key : ∀ k, k ≤ xs.length → sumT F xs 0 k = F := by
    intro k
    induction k with
    | zero => intro _; rfl
    | succ k ih =>
      intro hk
      have ok := okT_out (allK_out (goodT_out h).2.2.2.2.1 (k := k) (by omega))
      have fb := fromT_b h (k := k) (by omega)
      have p : partT xs 0 k = 0 := by
        unfold partT
        rw [minI_lt (by omega : (0 : Int) < upT xs k)]
        split
        · simp
        · rw [show (0 : Int) - fromT xs k = 0 by omega]; simp
      show sumT F xs 0 k + partT xs 0 k = F
      rw [ih (by omega), p, Int.add_zero]
  exact key xs.length (Nat.le_refl _)
/-- The volume for an amount. -/
def isVol (F : Int) (xs : List (Int × Int)) (m n : Int) : Prop := 0 ≤ n ∧ n ≤ 100000 ∧ costT F xs n ≤ m ∧ (n = 100000 ∨ m < costT F xs (n + 1))
theorem isVol_one {F : Int} {xs : List (Int × Int)} {m n n' : Int} (h : goodT F xs = true) (a : isVol F xs m n) (b : isVol F xs m n') : n = n' := by
  obtain ⟨a0, a1, a2, a3⟩ := a
  obtain ⟨b0, b1, b2, b3⟩ := b
  rcases Int.lt_trichotomy n n' with hl | e | hg
  · rcases a3 with a3 | a3
    · omega
    · have := cost_mono h (v := n + 1) (u := n') (by omega); omega
  · exact e
  · rcases b3 with b3 | b3
    · omega
    · have := cost_mono h (v := n' + 1) (u := n) (by omega); omega
open Classical in
noncomputable def volT (F : Int) (xs : List (Int × Int)) (m : Int) : Int := if h : ∃ n, isVol F xs m n then Classical.choose h else 0
theorem volT_is {F : Int} {xs : List (Int × Int)} {m n : Int} (h : goodT F xs = true) (a : isVol F xs m n) : volT F xs m = n := by
  have hx : ∃ n, isVol F xs m n := ⟨n, a⟩
  unfold volT
  rw [dif_pos hx]
  exact isVol_one h (Classical.choose_spec hx) a
end Go.Proofs.Ytbfaejacfhblkaa

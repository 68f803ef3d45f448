/- Plain: what the great law on nights asks. -/
import Derived.Test.YtdkhiedgikjnkaaABurst
import Derived.Test.YtdkhiedgikjnkaaAGrowP
import Derived.Test.YtdkhiedgikjnkaaAStep
namespace Go.Proofs.Ytdkhiedgikjnkaa
/-- The largest of the first k numbers, 0 at least. -/
def rmK (xs : List Int) : Nat → Int
  | 0 => 0
  | k + 1 => if rmK xs k < xs.getD k 0 then xs.getD k 0 else rmK xs k
theorem rmK_yes {xs : List Int} {k : Nat} {x : Int} (hx : x = xs.getD k 0) (h : rmK xs k < x) : rmK xs (k + 1) = x := by rw [rmK, ← hx, if_pos h]
theorem rmK_no {xs : List Int} {k : Nat} {x : Int} (hx : x = xs.getD k 0) (h : ¬ rmK xs k < x) : rmK xs (k + 1) = rmK xs k := by rw [rmK, ← hx, if_neg h]
theorem rmK_take {xs : List Int} {n : Nat} : ∀ k, k ≤ n → rmK (xs.take n) k = rmK xs k
  | 0, _ => rfl
  | k + 1, h => by
    have e : (xs.take n).getD k 0 = xs.getD k 0 := by simp [List.getD_eq_getElem?_getD, show k < n by omega]
    rw [rmK, rmK, e, rmK_take k (by omega)]
theorem rmK_mx {xs : List Int} (h : ∀ j, j < xs.length → 0 ≤ xs.getD j 0 ∧ xs.getD j 0 ≤ 1000000) : ∀ k, k < xs.length → rmK xs (k + 1) = mxK xs k
  | 0, hk => by
    have := h 0 hk
    rw [rmK, rmK, mxK]; split <;> omega
  | k + 1, hk => by rw [rmK, rmK_mx h k (by omega), mxK]
theorem bur_law {I H r : Int} {xs : List Int} (h : (burR I H xs r).2 = true) : ∃ k : Nat, (burR I H xs r).1 = k ∧ 1 ≤ k ∧ k < xs.length ∧ rmK xs k + r ≤ xs.getD k 0 ∧ (0 ≤ rmK xs k ∧ rmK xs k ≤ 1000000) ∧ 1 ≤ r ∧ r ≤ 1000000 := by
  cases h1 : goodA I H xs
  · rw [burR_a h1] at h; cases h
  have g := goodA_out h1
  cases h2 : inB r 1 1000000
  · rw [burR_r h2] at h; cases h
  have hgf := goodF_out g.2.2.2.2.2.2
  have hr := inB_out h2
  rw [burR_yes h1 h2] at h ⊢
  unfold burF at h ⊢
  cases e : (List.range xs.length).find? (burP xs r) with
  | none => rw [e] at h; cases h
  | some k =>
    rw [List.find?_range_eq_some] at e
    obtain ⟨e1, e2, _⟩ := e
    have hk : k < xs.length := by simpa using e2
    simp only [burP, Bool.and_eq_true, decide_eq_true_eq] at e1
    have m := rmK_mx hgf (k - 1) (by omega)
    have b := mxK_b hgf (k - 1) (by omega)
    have e3 : k - 1 + 1 = k := by omega
    rw [e3] at m
    exact ⟨k, rfl, by omega, hk, by omega, by omega, hr.1, hr.2⟩
theorem grow_law (I H : Int) (xs : List Int) : ∃ b m : Nat, (growR I H xs).1 = b ∧ (growR I H xs).2.1 = m ∧ b + m ≤ xs.length ∧ ∀ t, b < t → t < b + m → xs.getD (t - 1) 0 ≤ xs.getD t 0 := by
  have h := gK_best xs xs.length
  cases g : goodA I H xs
  · rw [growR_no g]
    exact ⟨0, 0, rfl, rfl, by omega, fun t h1 h2 => by omega⟩
  · rw [growR_yes g h]
    exact ⟨_, _, rfl, rfl, h.le, h.run⟩
theorem stK_ge (xs : List Int) : ∀ n i, 0 < i → i < n → xs.getD (i - 1) 0 - xs.getD i 0 ≤ (stK xs n).2
  | 0, i, _, h => absurd h (by omega)
  | n + 1, i, h0, h => by
    by_cases c : 0 < n ∧ (stK xs n).2 < xs.getD (n - 1) 0 - xs.getD n 0
    · rw [stK_yes c.1 c.2]
      by_cases e : i = n
      · subst e; exact Int.le_refl _
      · have := stK_ge xs n i h0 (by omega)
        show _ ≤ xs.getD (n - 1) 0 - xs.getD n 0
        omega
    · by_cases e : i = n
      · subst e
        have c' : ¬ (stK xs i).2 < xs.getD (i - 1) 0 - xs.getD i 0 := fun q => c ⟨h0, q⟩
        rw [stK_no c']; omega
      · rw [stK, if_neg c]
        exact stK_ge xs n i h0 (by omega)
theorem stK_at (xs : List Int) : ∀ n, ¬ (stK xs n).2 = 0 → ∃ p : Nat, (stK xs n).1 = p ∧ p + 1 < n ∧ xs.getD p 0 - xs.getD (p + 1) 0 = (stK xs n).2
  | 0, h => absurd rfl h
  | n + 1, h => by
    by_cases c : 0 < n ∧ (stK xs n).2 < xs.getD (n - 1) 0 - xs.getD n 0
    · rw [stK_yes c.1 c.2]
      refine ⟨n - 1, by simp; omega, by omega, ?_⟩
      rw [show n - 1 + 1 = n by omega]
    · rw [stK, if_neg c] at h ⊢
      obtain ⟨p, h1, h2, h3⟩ := stK_at xs n h
      exact ⟨p, h1, by omega, h3⟩
theorem step_law {xs : List Int} (h : (stepR xs).2.2 = true) : ∃ p : Nat, (stepR xs).1 = p ∧ p + 1 < xs.length ∧ xs.length ≤ 20 ∧ (∀ j, j < xs.length → 0 ≤ xs.getD j 0 ∧ xs.getD j 0 ≤ 1000000) ∧ (∀ i, 0 < i → i < xs.length → xs.getD (i - 1) 0 - xs.getD i 0 ≤ (stepR xs).2.1) ∧ xs.getD p 0 - xs.getD (p + 1) 0 = (stepR xs).2.1 := by
  cases h1 : inB xs.length 2 20
  · rw [stepR_l h1] at h; cases h
  cases h2 : goodF xs
  · rw [stepR_g h2] at h; cases h
  by_cases h3 : (stK xs xs.length).2 = 0
  · rw [stepR_z h3] at h; cases h
  have i := inB_out h1
  obtain ⟨p, e1, e2, e3⟩ := stK_at xs _ h3
  rw [stepR_yes h1 h2 h3]
  exact ⟨p, e1, e2, by omega, goodF_out h2, fun i a b => stK_ge xs _ i a b, e3⟩
end Go.Proofs.Ytdkhiedgikjnkaa

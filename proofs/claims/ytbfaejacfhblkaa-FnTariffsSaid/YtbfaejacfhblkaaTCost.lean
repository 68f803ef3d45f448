/- Plain: costs. -/
import Derived.Test.YtbfaejacfhblkaaTPlain
namespace Go.Proofs.Ytbfaejacfhblkaa
/-- Where block k begins. -/
def fromT (xs : List (Int × Int)) : Nat → Int
  | 0 => 0
  | k + 1 => upT xs k
/-- What the cubic meters of a volume in block k cost. -/
def partT (xs : List (Int × Int)) (v : Int) (k : Nat) : Int := (if minI v (upT xs k) - fromT xs k < 0 then 0 else minI v (upT xs k) - fromT xs k) * prT xs k
/-- The fee and the costs of the first k blocks. -/
def splitT (F : Int) (xs : List (Int × Int)) (v : Int) : Nat → List Int
  | 0 => [F]
  | k + 1 => splitT F xs v k ++ [partT xs v k]
def sumT (F : Int) (xs : List (Int × Int)) (v : Int) : Nat → Int
  | 0 => F
  | k + 1 => sumT F xs v k + partT xs v k
def costT (F : Int) (xs : List (Int × Int)) (v : Int) : Int := sumT F xs v xs.length
theorem splitT_len (F : Int) (xs : List (Int × Int)) (v : Int) : ∀ k, (splitT F xs v k).length = k + 1
  | 0 => rfl
  | k + 1 => by simp [splitT, splitT_len F xs v k]
theorem fromT_b {F : Int} {xs : List (Int × Int)} (h : goodT F xs = true) {k : Nat} (hk : k ≤ xs.length) : 0 ≤ fromT xs k ∧ fromT xs k ≤ 100000 := by
  cases k with
  | zero => simp [fromT]
  | succ k =>
    have := okT_out (allK_out (goodT_out h).2.2.2.2.1 (k := k) (by omega))
    show 0 ≤ upT xs k ∧ upT xs k ≤ 100000
    omega
theorem partT_b {F : Int} {xs : List (Int × Int)} {v : Int} (h : goodT F xs = true) (hv0 : 0 ≤ v) (hv1 : v ≤ 100001) {k : Nat} (hk : k < xs.length) : 0 ≤ partT xs v k ∧ partT xs v k ≤ 100000000 := by
  have a := okT_out (allK_out (goodT_out h).2.2.2.2.1 hk)
  have b := fromT_b h (k := k) (by omega)
  have m0 : 0 ≤ minI v (upT xs k) ∧ minI v (upT xs k) ≤ 100000 := by unfold minI; split <;> omega
  unfold partT
  split
  · simp
  · exact ⟨Int.mul_nonneg (by omega) (by omega), Int.mul_le_mul (by omega : _ ≤ (100000 : Int)) (by omega : _ ≤ (1000 : Int)) (by omega) (by omega)⟩
theorem sumT_b {F : Int} {xs : List (Int × Int)} {v : Int} (h : goodT F xs = true) (hv0 : 0 ≤ v) (hv1 : v ≤ 100001) : ∀ k : Nat, k ≤ xs.length → 0 ≤ sumT F xs v k ∧ sumT F xs v k ≤ 100000 + 100000000 * k
  | 0, _ => by have := goodT_out h; simp [sumT]; omega
  | k + 1, hk => by
    have a := sumT_b h hv0 hv1 k (by omega)
    have b := partT_b h hv0 hv1 (k := k) (by omega)
    unfold sumT; omega
theorem costT_b {F : Int} {xs : List (Int × Int)} {v : Int} (h : goodT F xs = true) (hv0 : 0 ≤ v) (hv1 : v ≤ 100001) : 0 ≤ costT F xs v ∧ costT F xs v ≤ 500100000 := by
  have a := sumT_b h hv0 hv1 xs.length (Nat.le_refl _)
  have b := goodT_out h
  unfold costT; omega
theorem splitT_get {F : Int} {xs : List (Int × Int)} {v : Int} : ∀ {n k : Nat}, k ≤ n → (splitT F xs v n).getD k 0 = if k = 0 then F else partT xs v (k - 1)
  | 0, k, hk => by obtain rfl : k = 0 := by omega
                   rfl
  | n + 1, k, hk => by
    have hl := splitT_len F xs v n
    rw [splitT]
    rcases Nat.lt_or_ge k (n + 1) with h | h
    · rw [List.getD_eq_getElem?_getD, List.getElem?_append_left (by omega), ← List.getD_eq_getElem?_getD]
      exact splitT_get (by omega)
    · obtain rfl : k = n + 1 := by omega
      rw [List.getD_eq_getElem?_getD, List.getElem?_append_right (by omega), hl]
      simp
end Go.Proofs.Ytbfaejacfhblkaa

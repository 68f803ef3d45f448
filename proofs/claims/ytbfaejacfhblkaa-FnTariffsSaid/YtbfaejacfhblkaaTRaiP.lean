/- Plain: a raised tariff. -/
import Derived.Test.YtbfaejacfhblkaaTSimP
namespace Go.Proofs.Ytbfaejacfhblkaa
/-- A number raised by a percentage, rounded. -/
def raP (p n : Int) : Int := (n * (100 + p) + 50) / 100
theorem raP_two (p n : Int) : (2 * n * (100 + p) + 100) / 200 = raP p n := by
  unfold raP
  have e : 2 * n * (100 + p) + 100 = 2 * (n * (100 + p) + 50) := by rw [Int.mul_assoc 2 n (100 + p), Int.mul_add 2 (n * (100 + p)) 50]; rfl
  rw [e, show (200 : Int) = 2 * 100 from rfl, Int.mul_ediv_mul_of_pos _ _ (by omega)]
theorem raP_mul {p n : Int} (h0 : 0 ≤ n) (h1 : n ≤ 1000000) (h2 : -100 ≤ p) (h3 : p ≤ 100) : 0 ≤ n * (100 + p) ∧ n * (100 + p) ≤ 1000000 * 200 := mulB h0 h1 (by omega) (by omega)
theorem raP_b {p n : Int} (h0 : 0 ≤ n) (h1 : n ≤ 1000000) (h2 : -100 ≤ p) (h3 : p ≤ 100) : 0 ≤ raP p n ∧ raP p n ≤ 10000000 := by
  have := raP_mul h0 h1 h2 h3
  unfold raP; omega
/-- The first k blocks, raised. -/
def raK (p : Int) (xs : List (Int × Int)) : Nat → List (Int × Int)
  | 0 => []
  | k + 1 => raK p xs k ++ [((xs.getD k (0, 0)).1, raP p (xs.getD k (0, 0)).2)]
theorem raK_len (p : Int) (xs : List (Int × Int)) : ∀ k, (raK p xs k).length = k
  | 0 => rfl
  | k + 1 => by rw [raK, List.length_append, raK_len p xs k]; rfl
theorem raK_succ {p : Int} {xs : List (Int × Int)} {k : Nat} {x y : Int} (hx : (x, y) = xs.getD k (0, 0)) : raK p xs (k + 1) = raK p xs k ++ [(x, raP p y)] := by rw [raK, ← hx]
def raiT (F : Int) (xs : List (Int × Int)) (p : Int) : (Int × List (Int × Int)) × Bool :=
  if goodT F xs = true ∧ inB p (-100) 100 = true ∧ goodT (raP p F) (raK p xs xs.length) = true then ((raP p F, raK p xs xs.length), true) else ((0, []), false)
theorem raiT_no {F : Int} {xs : List (Int × Int)} {p : Int} (h : goodT F xs = false ∨ inB p (-100) 100 = false ∨ goodT (raP p F) (raK p xs xs.length) = false) : raiT F xs p = ((0, []), false) := by
  unfold raiT; rw [if_neg]; rintro ⟨a, b, c⟩; rw [a, b, c] at h; simp at h
theorem raiT_yes {F : Int} {xs : List (Int × Int)} {p : Int} (h1 : goodT F xs = true) (h2 : inB p (-100) 100 = true) (h3 : goodT (raP p F) (raK p xs xs.length) = true) : raiT F xs p = ((raP p F, raK p xs xs.length), true) := by
  unfold raiT; rw [if_pos ⟨h1, h2, h3⟩]
theorem raiT_len (F : Int) (xs : List (Int × Int)) (p : Int) (h : xs.length ≤ 1048576) : (raiT F xs p).1.2.length ≤ 1048576 := by
  unfold raiT; split
  · simp only [raK_len]; exact h
  · simp
end Go.Proofs.Ytbfaejacfhblkaa

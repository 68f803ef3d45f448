/- Plain definitions and facts on numbers: ranges, greatest common divisors. No program in sight. -/
import Derived.RowKit
namespace Go.Proofs.Ytbcgcpdnmpejlaa

/-- n lies in lo..hi. -/
def inB (n lo hi : Int) : Bool := decide (lo ≤ n) && decide (n ≤ hi)
theorem inB_mk {n lo hi : Int} (h1 : lo ≤ n) (h2 : n ≤ hi) : inB n lo hi = true := by simp [inB, h1, h2]
theorem inB_lo {n lo hi : Int} (h : n < lo) : inB n lo hi = false := by simp [inB]; omega
theorem inB_hi {n lo hi : Int} (h : hi < n) : inB n lo hi = false := by simp [inB]; omega
theorem inB_out {n lo hi : Int} (h : inB n lo hi = true) : lo ≤ n ∧ n ≤ hi := by simpa [inB] using h
theorem inB_no {n lo hi : Int} (h : inB n lo hi = false) : n < lo ∨ hi < n := by
  simp [inB] at h; omega

/-- The greatest common divisor, as an integer. -/
def gcdI (a b : Int) : Int := (Int.gcd a b : Int)
theorem gcdI_nonneg (a b : Int) : 0 ≤ gcdI a b := by unfold gcdI; omega
theorem gcdI_zero (a : Int) (h : 0 ≤ a) : gcdI a 0 = a := by
  unfold gcdI; rw [Int.gcd_zero]; omega
/-- A number without its sign. -/
def absI (a : Int) : Int := (a.natAbs : Int)
theorem absI_of_nonneg {a : Int} (h : 0 ≤ a) : absI a = a := by unfold absI; omega
theorem absI_of_neg {a : Int} (h : a < 0) : absI a = -a := by unfold absI; omega
theorem absI_nonneg (a : Int) : 0 ≤ absI a := by unfold absI; omega
theorem absI_le {a m : Int} (h1 : -m ≤ a) (h2 : a ≤ m) : absI a ≤ m := by unfold absI; omega
theorem gcdI_abs (a b : Int) : gcdI (absI a) (absI b) = gcdI a b := by
  unfold gcdI absI; simp [Int.gcd]
def maxI (a b : Int) : Int := if a > b then a else b
def minI (a b : Int) : Int := if a < b then a else b
theorem maxI_gt {a b : Int} (h : b < a) : maxI a b = a := by unfold maxI; rw [if_pos h]
theorem maxI_le {a b : Int} (h : a ≤ b) : maxI a b = b := by unfold maxI; rw [if_neg (by omega)]
theorem minI_lt {a b : Int} (h : a < b) : minI a b = a := by unfold minI; rw [if_pos h]
theorem minI_ge {a b : Int} (h : b ≤ a) : minI a b = b := by unfold minI; rw [if_neg (by omega)]
theorem maxI_neg (a : Int) : maxI a (-a) = absI a := by unfold maxI absI; split <;> omega
theorem gcdI_step (a b : Int) (ha : 0 ≤ a) : gcdI b (a % b) = gcdI a b := by
  unfold gcdI Int.gcd
  rw [Int.natAbs_emod_of_nonneg ha, Nat.gcd_comm a.natAbs, Nat.gcd_rec b.natAbs a.natAbs, Nat.gcd_comm]
theorem gcdI_pos (a b : Int) (h : 0 < b) : 0 < gcdI a b := by
  unfold gcdI
  have : 0 < Int.gcd a b := Int.gcd_pos_of_ne_zero_right _ (by omega)
  omega
theorem gcdI_dvd_l (a b : Int) : gcdI a b ∣ a := by unfold gcdI; exact Int.gcd_dvd_left ..
theorem gcdI_dvd_r (a b : Int) : gcdI a b ∣ b := by unfold gcdI; exact Int.gcd_dvd_right ..
theorem gcdI_le (a b : Int) (h : 0 < b) : gcdI a b ≤ b := Int.le_of_dvd h (gcdI_dvd_r a b)
end Go.Proofs.Ytbcgcpdnmpejlaa

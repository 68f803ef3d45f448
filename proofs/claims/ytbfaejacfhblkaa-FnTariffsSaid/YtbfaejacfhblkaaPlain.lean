/- Plain definitions and facts on numbers: ranges, greatest common divisors. No program in sight. -/
import Derived.RowKit
namespace Go.Proofs.Ytbfaejacfhblkaa

/-- n lies in lo..hi. -/
def inB (n lo hi : Int) : Bool := decide (lo ≤ n) && decide (n ≤ hi)
theorem inB_mk {n lo hi : Int} (h1 : lo ≤ n) (h2 : n ≤ hi) : inB n lo hi = true := by simp [inB, h1, h2]
theorem inB_lo {n lo hi : Int} (h : n < lo) : inB n lo hi = false := by simp [inB]; omega
theorem inB_hi {n lo hi : Int} (h : hi < n) : inB n lo hi = false := by simp [inB]; omega
theorem inB_out {n lo hi : Int} (h : inB n lo hi = true) : lo ≤ n ∧ n ≤ hi := by simpa [inB] using h
theorem inB_no {n lo hi : Int} (h : inB n lo hi = false) : n < lo ∨ hi < n := by
  simp [inB] at h; omega

/-- The greatest common divisor, as an integer. -/
def gcdI (a b : Int) : Int := (Int.gcd a b : Int)
theorem gcdI_nonneg (a b : Int) : 0 ≤ gcdI a b := by unfold gcdI; omega
theorem gcdI_zero (a : Int) (h : 0 ≤ a) : gcdI a 0 = a := by
  unfold gcdI; rw [Int.gcd_zero]; omega
/-- A number without its sign. -/
def absI (a : Int) : Int := (a.natAbs : Int)
theorem absI_of_nonneg {a : Int} (h : 0 ≤ a) : absI a = a := by unfold absI; omega
theorem absI_of_neg {a : Int} (h : a < 0) : absI a = -a := by unfold absI; omega
theorem absI_nonneg (a : Int) : 0 ≤ absI a := by unfold absI; omega
theorem absI_le {a m : Int} (h1 : -m ≤ a) (h2 : a ≤ m) : absI a ≤ m := by unfold absI; omega
theorem gcdI_abs (a b : Int) : gcdI (absI a) (absI b) = gcdI a b := by
  unfold gcdI absI; simp [Int.gcd]
def maxI (a b : Int) : Int := if a > b then a else b
def minI (a b : Int) : Int := if a < b then a else b
theorem maxI_gt {a b : Int} (h : b < a) : maxI a b = a := by unfold maxI; rw [if_pos h]
theorem maxI_le {a b : Int} (h : a ≤ b) : maxI a b = b := by unfold maxI; rw [if_neg (by omega)]
theorem minI_lt {a b : Int} (h : a < b) : minI a b = a := by unfold minI; rw [if_pos h]
theorem minI_ge {a b : Int} (h : b ≤ a) : minI a b = b := by unfold minI; rw [if_neg (by omega)]
theorem maxI_neg (a : Int) : maxI a (-a) = absI a := by unfold maxI absI; split <;> omega
theorem gcdI_step (a b : Int) (ha : 0 ≤ a) : gcdI b (a % b) = gcdI a b := by
  unfold gcdI Int.gcd
  rw [Int.natAbs_emod_of_nonneg ha, Nat.gcd_comm a.natAbs, Nat.gcd_rec b.natAbs a.natAbs, Nat.gcd_comm]
theorem gcdI_pos (a b : Int) (h : 0 < b) : 0 < gcdI a b := by
  unfold gcdI
  have : 0 < Int.gcd a b := Int.gcd_pos_of_ne_zero_right _ (by omega)
  omega
theorem gcdI_dvd_l (a b : Int) : gcdI a b ∣ a := by unfold gcdI; exact Int.gcd_dvd_left ..
theorem gcdI_dvd_r (a b : Int) : gcdI a b ∣ b := by unfold gcdI; exact Int.gcd_dvd_right ..
theorem gcdI_le (a b : Int) (h : 0 < b) : gcdI a b ≤ b := Int.le_of_dvd h (gcdI_dvd_r a b)

/-- A fraction in lowest terms. -/
def rN (a b : Int) : Int := a / gcdI a b
def rD (a b : Int) : Int := b / gcdI a b
theorem rD_pos {a b : Int} (hb : 0 < b) : 0 < rD a b := by
  unfold rD
  have h1 := gcdI_pos a b hb
  exact Int.ediv_pos_of_pos_of_dvd hb (by omega) (gcdI_dvd_r a b)
theorem rD_le {a b : Int} (hb : 0 < b) : rD a b ≤ b := by
  unfold rD
  exact Int.ediv_le_self _ (by omega)
theorem rN_nonneg {a b : Int} (ha : 0 ≤ a) : 0 ≤ rN a b := by
  unfold rN
  exact Int.ediv_nonneg ha (gcdI_nonneg a b)
theorem rN_le {a b : Int} (ha : 0 ≤ a) : rN a b ≤ a := by
  unfold rN
  exact Int.ediv_le_self _ ha
theorem rN_mul (a b : Int) : gcdI a b * rN a b = a := by unfold rN; exact Int.mul_ediv_cancel' (gcdI_dvd_l a b)
theorem rD_mul (a b : Int) : gcdI a b * rD a b = b := by unfold rD; exact Int.mul_ediv_cancel' (gcdI_dvd_r a b)

/-- The order of two reduced fractions is that of the products across. -/
theorem cross (a b c d : Int) (hb : 0 < b) (hd : 0 < d) : (rN a b * rD c d < rN c d * rD a b ↔ a * d < c * b) ∧ (rN c d * rD a b < rN a b * rD c d ↔ c * b < a * d) := by
  have hg := gcdI_pos a b hb
  have hh := gcdI_pos c d hd
  have e1 : a * d = (gcdI a b * gcdI c d) * (rN a b * rD c d) := by
    have h1 := rN_mul a b; have h2 := rD_mul c d
    calc a * d = (gcdI a b * rN a b) * (gcdI c d * rD c d) := by rw [h1, h2]
      _ = _ := by ac_rfl
  have e2 : c * b = (gcdI a b * gcdI c d) * (rN c d * rD a b) := by
    have h1 := rN_mul c d; have h2 := rD_mul a b
    calc c * b = (gcdI c d * rN c d) * (gcdI a b * rD a b) := by rw [h1, h2]
      _ = _ := by ac_rfl
  have hp : 0 < gcdI a b * gcdI c d := Int.mul_pos hg hh
  rw [e1, e2]
  exact ⟨(Int.mul_lt_mul_left hp).symm, (Int.mul_lt_mul_left hp).symm⟩

theorem mulB {a b A B : Int} (ha : 0 ≤ a) (hA : a ≤ A) (hb : 0 ≤ b) (hB : b ≤ B) : 0 ≤ a * b ∧ a * b ≤ A * B :=
  ⟨Int.mul_nonneg ha hb, Int.mul_le_mul hA hB hb (Int.le_trans ha hA)⟩
theorem mulP {a b : Int} (ha : 0 < a) (hb : 0 < b) : 0 < a * b := Int.mul_pos ha hb
def cmpI (x y : Int) : Int := if x < y then -1 else if y < x then 1 else 0
theorem cmpI_lt {x y : Int} (h : x < y) : cmpI x y = -1 := by unfold cmpI; rw [if_pos h]
theorem cmpI_gt {x y : Int} (h : y < x) : cmpI x y = 1 := by unfold cmpI; rw [if_neg (by omega), if_pos h]
theorem cmpI_eq (x : Int) : cmpI x x = 0 := by unfold cmpI; simp
theorem cmpI_ways (x y : Int) : (x < y ∧ cmpI x y = -1) ∨ (y < x ∧ cmpI x y = 1) ∨ (x = y ∧ cmpI x y = 0) := by
  unfold cmpI
  by_cases h : x < y
  · simp [h]
  · by_cases g : y < x
    · simp [h, g]
    · have : x = y := by omega
      subst this; simp
end Go.Proofs.Ytbfaejacfhblkaa

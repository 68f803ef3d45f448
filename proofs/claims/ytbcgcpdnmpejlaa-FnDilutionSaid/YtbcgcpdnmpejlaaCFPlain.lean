/- Plain: what the great laws on contents ask. -/
import Derived.Test.YtbcgcpdnmpejlaaCRPlain
namespace Go.Proofs.Ytbcgcpdnmpejlaa
theorem red_mul (n d : Int) : rN n d * d = n * rD n d := by
  have h1 := rN_mul n d; have h2 := rD_mul n d
  calc rN n d * d = rN n d * (gcdI n d * rD n d) := by rw [h2]
    _ = (gcdI n d * rN n d) * rD n d := by ac_rfl
    _ = n * rD n d := by rw [h1]
theorem sgn3_eq {x y x' y' c k : Int} (hc : 0 < c) (hk : 0 < k) (h : c * x - c * y = k * x' - k * y') : sgn3 x y = sgn3 x' y' := by
  have e : c * (x - y) = k * (x' - y') := by rw [Int.mul_sub, Int.mul_sub]; exact h
  have l1 : x < y ↔ x' < y' := by
    constructor
    · intro a
      have : c * (x - y) < 0 := Int.mul_neg_of_pos_of_neg hc (by omega)
      rw [e] at this
      exact Int.not_le.1 fun q => absurd (Int.mul_nonneg (Int.le_of_lt hk) (show 0 ≤ x' - y' by omega)) (by omega)
    · intro a
      have : k * (x' - y') < 0 := Int.mul_neg_of_pos_of_neg hk (by omega)
      rw [← e] at this
      exact Int.not_le.1 fun q => absurd (Int.mul_nonneg (Int.le_of_lt hc) (show 0 ≤ x - y by omega)) (by omega)
  have l2 : y < x ↔ y' < x' := by
    constructor
    · intro a
      have : 0 < c * (x - y) := Int.mul_pos hc (by omega)
      rw [e] at this
      exact Int.not_le.1 fun q => absurd (Int.mul_nonpos_of_nonneg_of_nonpos (Int.le_of_lt hk) (show x' - y' ≤ 0 by omega)) (by omega)
    · intro a
      have : 0 < k * (x' - y') := Int.mul_pos hk (by omega)
      rw [← e] at this
      exact Int.not_le.1 fun q => absurd (Int.mul_nonpos_of_nonneg_of_nonpos (Int.le_of_lt hc) (show x - y ≤ 0 by omega)) (by omega)
  unfold sgn3
  by_cases a : x < y
  · rw [if_pos a, if_pos (l1.1 a)]
  · rw [if_neg a, if_neg (fun b => a (l1.2 b))]
    by_cases b : y < x
    · rw [if_pos (show x > y from b), if_pos (show x' > y' from l2.1 b)]
    · rw [if_neg (show ¬ x > y from b), if_neg (show ¬ x' > y' from fun q => b (l2.2 q))]
theorem sgn3_self (x : Int) : sgn3 x x = 0 := by unfold sgn3; simp
theorem sgn3_ge {x y : Int} (h : y ≤ x) : sgn3 x y ≠ 1 := by
  unfold sgn3; rw [if_neg (by omega)]; split <;> decide
theorem sgn3_back (x y : Int) : (sgn3 x y + sgn3 y x).tmod 3 = 0 := by
  unfold sgn3
  by_cases a : x < y
  · rw [if_pos a, if_neg (by omega), if_pos (show y > x from a)]; rfl
  · rw [if_neg a]
    by_cases b : y < x
    · rw [if_pos (show x > y from b), if_pos b]; rfl
    · rw [if_neg (show ¬ x > y from b), if_neg b, if_neg (by omega)]; rfl
/-- What take hands back. -/
theorem takeC_is {V N D v : Int} (h : (takeC V N D v).2.2.2 = true) :
    goodC V N D = true ∧ inB v 1 100 = true ∧ v ≤ V ∧ takeC V N D v = (V - v, rN (N * (V - v)) (D * V), rD (N * (V - v)) (D * V), true) ∧ goodC (V - v) (rN (N * (V - v)) (D * V)) (rD (N * (V - v)) (D * V)) = true := by
  unfold takeC at *
  split at h
  · rename_i c
    rw [if_pos c]
    unfold ofC at *
    cases g : goodC (V - v) (rN (N * (V - v)) (D * V)) (rD (N * (V - v)) (D * V))
    · rw [cOf_no g] at h; cases h
    · exact ⟨c.1, c.2.1, c.2.2, cOf_yes g, rfl⟩
  · cases h
theorem addC_is {V N D v m : Int} (h : (addC V N D v m).2.2.2 = true) :
    goodC V N D = true ∧ inB v 1 100 = true ∧ inB m 0 10000 = true ∧ addC V N D v m = (V + v, rN (N + m * D) D, rD (N + m * D) D, true) ∧ goodC (V + v) (rN (N + m * D) D) (rD (N + m * D) D) = true := by
  unfold addC at *
  split at h
  · rename_i c
    rw [if_pos c]
    unfold ofC at *
    cases g : goodC (V + v) (rN (N + m * D) D) (rD (N + m * D) D)
    · rw [cOf_no g] at h; cases h
    · exact ⟨c.1, c.2.1, c.2.2, cOf_yes g, rfl⟩
  · cases h
theorem joinC_is {V N D V' N' D' : Int} (h : (joinC V N D V' N' D').2.2.2 = true) :
    goodC V N D = true ∧ goodC V' N' D' = true ∧ joinC V N D V' N' D' = (V + V', rN (N * D' + N' * D) (D * D'), rD (N * D' + N' * D) (D * D'), true) ∧ goodC (V + V') (rN (N * D' + N' * D) (D * D')) (rD (N * D' + N' * D) (D * D')) = true := by
  unfold joinC at *
  split at h
  · rename_i c
    rw [if_pos c]
    unfold ofC at *
    cases g : goodC (V + V') (rN (N * D' + N' * D) (D * D')) (rD (N * D' + N' * D) (D * D'))
    · rw [cOf_no g] at h; cases h
    · exact ⟨c.1, c.2, cOf_yes g, rfl⟩
  · cases h
/-- Taking keeps the concentration. -/
theorem take_cmp {V N D v : Int} (h : (takeC V N D v).2.2.2 = true) (hp : (takeC V N D v).1 > 0) :
    cmpC V N D (takeC V N D v).1 (takeC V N D v).2.1 (takeC V N D v).2.2.1 = (0, true) ∧ goodC (takeC V N D v).1 (takeC V N D v).2.1 (takeC V N D v).2.2.1 = true := by
  obtain ⟨g, hv, hle, e, g'⟩ := takeC_is h
  rw [e] at hp ⊢
  simp only at hp ⊢
  have hv := inB_out hv
  refine ⟨?_, g'⟩
  rw [cmpC_yes g g' (by omega) (by omega)]
  have e2 := red_mul (N * (V - v)) (D * V)
  have e3 : N * rD (N * (V - v)) (D * V) * (V - v) = rN (N * (V - v)) (D * V) * D * V := by
    calc N * rD (N * (V - v)) (D * V) * (V - v) = N * (V - v) * rD (N * (V - v)) (D * V) := by ac_rfl
      _ = rN (N * (V - v)) (D * V) * (D * V) := e2.symm
      _ = _ := by ac_rfl
  rw [e3, sgn3_self]
/-- Adding pure water never raises the concentration. -/
theorem add_cmp {V N D v : Int} (h : (addC V N D v 0).2.2.2 = true) (hp : V > 0) :
    (cmpC V N D (addC V N D v 0).1 (addC V N D v 0).2.1 (addC V N D v 0).2.2.1).2 = true ∧ (cmpC V N D (addC V N D v 0).1 (addC V N D v 0).2.1 (addC V N D v 0).2.2.1).1 ≠ 1 := by
  obtain ⟨g, hv, _, e, g'⟩ := addC_is h
  rw [e]
  simp only [Int.zero_mul, Int.add_zero] at g' ⊢
  have hv := inB_out hv
  have a := goodC_out g
  have a' := goodC_out g'
  rw [cmpC_yes g g' (by omega) (by omega)]
  refine ⟨rfl, sgn3_ge ?_⟩
  have e2 := red_mul N D
  have hp : 0 ≤ N * rD N D := Int.mul_nonneg (by omega) (by omega)
  rw [e2]
  exact Int.mul_le_mul_of_nonneg_left (by omega) hp
/-- The joined tank lies between. -/
theorem join_cmp {V N D V' N' D' : Int} (h : (joinC V N D V' N' D').2.2.2 = true) (hp : V > 0) (hp' : V' > 0) :
    (cmpC V N D V' N' D').2 = true ∧ (cmpC V N D (joinC V N D V' N' D').1 (joinC V N D V' N' D').2.1 (joinC V N D V' N' D').2.2.1).2 = true ∧ (cmpC (joinC V N D V' N' D').1 (joinC V N D V' N' D').2.1 (joinC V N D V' N' D').2.2.1 V' N' D').2 = true ∧
    (cmpC V N D (joinC V N D V' N' D').1 (joinC V N D V' N' D').2.1 (joinC V N D V' N' D').2.2.1).1 = (cmpC V N D V' N' D').1 ∧ (cmpC (joinC V N D V' N' D').1 (joinC V N D V' N' D').2.1 (joinC V N D V' N' D').2.2.1 V' N' D').1 = (cmpC V N D V' N' D').1 := by
  obtain ⟨g, g', e, gz⟩ := joinC_is h
  rw [e]
  simp only
  have a := goodC_out g
  have a' := goodC_out g'
  have az := goodC_out gz
  have e2 := red_mul (N * D' + N' * D) (D * D')
  generalize rN (N * D' + N' * D) (D * D') = P at *
  generalize rD (N * D' + N' * D) (D * D') = Q at *
  rw [cmpC_yes g g' (by omega) (by omega), cmpC_yes g gz (by omega) (by omega), cmpC_yes gz g' (by omega) (by omega)]
  have x1 : N * D' * V' * Q - N' * D * V * Q = N * D' * V' * Q - N' * D * V * Q := rfl
  have p1 : D' * (N * Q * (V + V')) = N * D' * V * Q + N * D' * V' * Q := by rw [Int.mul_add, Int.mul_add]; congr 1 <;> ac_rfl
  have p2 : D' * (P * D * V) = N * D' * V * Q + N' * D * V * Q := by
    calc D' * (P * D * V) = P * (D * D') * V := by ac_rfl
      _ = (N * D' + N' * D) * Q * V := by rw [e2]
      _ = (N * D') * Q * V + (N' * D) * Q * V := by rw [Int.add_mul, Int.add_mul]
      _ = _ := by congr 1 <;> ac_rfl
  have p3 : D * (P * D' * V') = N * D' * V' * Q + N' * D * V' * Q := by
    calc D * (P * D' * V') = P * (D * D') * V' := by ac_rfl
      _ = (N * D' + N' * D) * Q * V' := by rw [e2]
      _ = (N * D') * Q * V' + (N' * D) * Q * V' := by rw [Int.add_mul, Int.add_mul]
      _ = _ := by congr 1 <;> ac_rfl
  have p4 : D * (N' * Q * (V + V')) = N' * D * V * Q + N' * D * V' * Q := by rw [Int.mul_add, Int.mul_add]; congr 1 <;> ac_rfl
  have q1 : Q * (N * D' * V') = N * D' * V' * Q := by ac_rfl
  have q2 : Q * (N' * D * V) = N' * D * V * Q := by ac_rfl
  refine ⟨rfl, rfl, rfl, ?_, ?_⟩
  · exact sgn3_eq (c := D') (k := Q) (by omega) (by omega) (by rw [p1, p2, q1, q2]; omega)
  · exact sgn3_eq (c := D) (k := Q) (by omega) (by omega) (by rw [p3, p4, q1, q2]; omega)
/-- The concentration. -/
theorem conc_eq {V N D : Int} (h : (concC V N D).2.2 = true) : (concC V N D).1 * D * V = N * (concC V N D).2.1 ∧ 0 ≤ (concC V N D).1 ∧ (concC V N D).1 ≤ 10000 * 1000000 ∧ 0 ≤ (concC V N D).2.1 ∧ (concC V N D).2.1 ≤ 100000000 ∧ 0 ≤ V ∧ V ≤ 100 ∧ 1 ≤ D ∧ D ≤ 1000000 ∧ 0 ≤ N ∧ N ≤ 10000 * 1000000 := by
  unfold concC at *
  split at h
  · rename_i c
    rw [if_pos c]
    have a := goodC_out c.1
    have hd := mulP (a := D) (b := V) (by omega) (by omega)
    have hb := mulB (a := D) (b := V) (A := 1000000) (B := 100) (by omega) (by omega) (by omega) (by omega)
    have e2 := red_mul N (D * V)
    have b1 := rN_nonneg (a := N) (b := D * V) (by omega)
    have b2 := rN_le (a := N) (b := D * V) (by omega)
    have b3 := rD_pos (a := N) hd
    have b4 := rD_le (a := N) hd
    refine ⟨?_, b1, by simp only; omega, by simp only; omega, by simp only; omega, by omega, by omega, by omega, by omega, by omega, by omega⟩
    simp only
    rw [← e2]; ac_rfl
  · cases h
end Go.Proofs.Ytbcgcpdnmpejlaa

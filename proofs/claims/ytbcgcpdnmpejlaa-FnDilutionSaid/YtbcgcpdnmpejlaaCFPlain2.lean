/- Plain: what the great laws on dilution ask. -/
import Derived.Test.YtbcgcpdnmpejlaaCFPlain
namespace Go.Proofs.Ytbcgcpdnmpejlaa
/-- The least water. -/
theorem dil_least {V N D m : Int} (h : (dilC V N D m).2 = true) :
    0 ≤ (dilC V N D m).1 ∧ (dilC V N D m).1 ≤ 10001 ∧ N ≤ m * D * (V + (dilC V N D m).1) ∧ ((dilC V N D m).1 > 0 → m * D * (V + (dilC V N D m).1 - 1) < N) ∧ 0 ≤ V ∧ V ≤ 100 ∧ 1 ≤ D ∧ D ≤ 1000000 ∧ 0 ≤ N ∧ N ≤ 10000 * 1000000 ∧ 1 ≤ m ∧ m ≤ 10000 ∧ 0 < m * D ∧ m * D ≤ 10000 * 1000000 := by
  unfold dilC at *
  split at h
  · rename_i c
    rw [if_pos c]
    have a := goodC_out c.1
    have b := inB_out c.2
    have hd := mulP (a := D) (b := m) (by omega) (by omega)
    have hb := mulB (a := m) (b := D) (A := 10000) (B := 1000000) (by omega) (by omega) (by omega) (by omega)
    have hc : D * m = m * D := Int.mul_comm _ _
    have hN : N ≤ D * m * 10000 := by
      have this : D * 10000 * 1 ≤ D * 10000 * m := Int.mul_le_mul_of_nonneg_left (show (1 : Int) ≤ m by omega) (by omega)
      calc N ≤ D * 10000 * 1 := by omega
        _ ≤ D * 10000 * m := this
        _ = D * m * 10000 := by ac_rfl
    have hq := Int.mul_ediv_add_emod (N + D * m - 1) (D * m)
    have hr := Int.emod_nonneg (N + D * m - 1) (show D * m ≠ 0 by omega)
    have hr2 := Int.emod_lt_of_pos (N + D * m - 1) hd
    have hq0 : 0 ≤ (N + D * m - 1) / (D * m) := Int.ediv_nonneg (by omega) (by omega)
    have hq1 : (N + D * m - 1) / (D * m) ≤ 10001 := by
      apply Int.lt_add_one_iff.1
      apply Int.ediv_lt_of_lt_mul hd
      omega
    generalize (N + D * m - 1) / (D * m) = q at *
    generalize (N + D * m - 1) % (D * m) = r at *
    simp only
    rw [← hc]
    have up : N ≤ D * m * q := by omega
    have lo : D * m * (q - 1) < N := by rw [Int.mul_sub, Int.mul_one]; omega
    by_cases hz : 0 > q - V
    · rw [maxI_gt (by omega)]
      refine ⟨by omega, by omega, ?_, fun k => absurd k (by omega), by omega, by omega, by omega, by omega, by omega, by omega, by omega, by omega, by omega, by omega⟩
      exact Int.le_trans up (Int.mul_le_mul_of_nonneg_left (by omega) (by omega))
    · rw [maxI_le (by omega)]
      have e1 : V + (q - V) = q := by omega
      rw [e1]
      exact ⟨by omega, by omega, up, fun _ => lo, by omega, by omega, by omega, by omega, by omega, by omega, by omega, by omega, by omega, by omega⟩
  · cases h
/-- The shares. -/
theorem mix_eq {a b t : Int} (h : (mixC a b t).2.2 = true) :
    0 ≤ (mixC a b t).1 ∧ (mixC a b t).1 ≤ 10000 ∧ 0 ≤ (mixC a b t).2.1 ∧ (mixC a b t).2.1 ≤ 10000 ∧ (mixC a b t).1 + (mixC a b t).2.1 ≠ 0 ∧ a * (mixC a b t).1 + b * (mixC a b t).2.1 = t * ((mixC a b t).1 + (mixC a b t).2.1) ∧ 0 ≤ a ∧ a ≤ 10000 ∧ 0 ≤ b ∧ b ≤ 10000 ∧ 0 ≤ t ∧ t ≤ 10000 := by
  cases h1 : inB a 0 10000
  · rw [mixC_no (.inl h1)] at h; cases h
  cases h2 : inB b 0 10000
  · rw [mixC_no (.inr (.inl h2))] at h; cases h
  cases h3 : inB t 0 10000
  · rw [mixC_no (.inr (.inr h3))] at h; cases h
  have a1 := inB_out h1; have a2 := inB_out h2; have a3 := inB_out h3
  have key : ∀ p q : Int, 0 < p → p ≤ 10000 → 0 < q → q ≤ 10000 → (a * q + b * p = t * (q + p)) → a * rN q p + b * rD q p = t * (rN q p + rD q p) ∧ 0 ≤ rN q p ∧ rN q p ≤ 10000 ∧ 0 < rD q p ∧ rD q p ≤ 10000 := by
    intro p q hp hp1 hq hq1 he
    have g := gcdI_pos q p hp
    have e1 := rN_mul q p
    have e2 := rD_mul q p
    refine ⟨?_, rN_nonneg (by omega), Int.le_trans (rN_le (by omega)) hq1, rD_pos hp, Int.le_trans (rD_le hp) hp1⟩
    apply Int.eq_of_mul_eq_mul_left (show gcdI q p ≠ 0 by omega)
    calc gcdI q p * (a * rN q p + b * rD q p) = a * (gcdI q p * rN q p) + b * (gcdI q p * rD q p) := by rw [Int.mul_add]; congr 1 <;> ac_rfl
      _ = t * (q + p) := by rw [e1, e2]; exact he
      _ = t * (gcdI q p * rN q p + gcdI q p * rD q p) := by rw [e1, e2]
      _ = gcdI q p * (t * (rN q p + rD q p)) := by rw [← Int.mul_add]; ac_rfl
  rcases mixC_yes h1 h2 h3 with ⟨e, r⟩ | ⟨_, e, r⟩ | ⟨_, _, r⟩ | ⟨_, _, r⟩ | ⟨l1, l2, r⟩ | ⟨l1, l2, r⟩
  · rw [r]; simp only; subst e; refine ⟨by omega, by omega, by omega, by omega, by omega, by simp, by omega, by omega, by omega, by omega, by omega, by omega⟩
  · rw [r]; simp only; subst e; refine ⟨by omega, by omega, by omega, by omega, by omega, by simp, by omega, by omega, by omega, by omega, by omega, by omega⟩
  · rw [r] at h; cases h
  · rw [r] at h; cases h
  · rw [r]; simp only
    have := key (a - t) (t - b) (by omega) (by omega) (by omega) (by omega) (by simp only [Int.mul_sub, Int.mul_add]; have := Int.mul_comm a t; have := Int.mul_comm b t; have := Int.mul_comm a b; omega)
    exact ⟨by omega, by omega, by omega, by omega, by omega, this.1, by omega, by omega, by omega, by omega, by omega, by omega⟩
  · rw [r]; simp only
    have := key (t - a) (b - t) (by omega) (by omega) (by omega) (by omega) (by simp only [Int.mul_sub, Int.mul_add]; have := Int.mul_comm a t; have := Int.mul_comm b t; have := Int.mul_comm a b; omega)
    exact ⟨by omega, by omega, by omega, by omega, by omega, this.1, by omega, by omega, by omega, by omega, by omega, by omega⟩
theorem rinC_shift (v m : Int) : ∀ (k : Nat) (s V N D : Int), rinC v m k (s + 1) V N D = (if (rinC v m k s V N D).2 = true then ((rinC v m k s V N D).1 + 1, true) else (0, false))
  | 0, s, V, N, D => by simp [rinC]
  | k + 1, s, V, N, D => by
    by_cases h : N ≤ m * D * V
    · rw [rinC_hit h, rinC_hit h]; simp
    · by_cases h2 : (takeC V N D v).2.2.2 = true
      · by_cases h3 : (addC (takeC V N D v).1 (takeC V N D v).2.1 (takeC V N D v).2.2.1 v 0).2.2.2 = true
        · rw [rinC_next (by omega) h2 h3, rinC_next (by omega) h2 h3]
          exact rinC_shift v m k (s + 1) _ _ _
        · rw [rinC_no (by omega) (.inr (by simpa using h3)), rinC_no (by omega) (.inr (by simpa using h3))]; simp
      · rw [rinC_no (by omega) (.inl (by simpa using h2)), rinC_no (by omega) (.inl (by simpa using h2))]; simp
theorem rinC_more (v m : Int) : ∀ (k : Nat) (s V N D : Int), (rinC v m k s V N D).2 = true → rinC v m (k + 1) s V N D = rinC v m k s V N D
  | 0, s, V, N, D, h => by simp [rinC] at h
  | k + 1, s, V, N, D, h => by
    by_cases c : N ≤ m * D * V
    · rw [rinC_hit c, rinC_hit c]
    · by_cases h2 : (takeC V N D v).2.2.2 = true
      · by_cases h3 : (addC (takeC V N D v).1 (takeC V N D v).2.1 (takeC V N D v).2.2.1 v 0).2.2.2 = true
        · rw [rinC_next (by omega) h2 h3] at h ⊢
          rw [rinC_next (by omega) h2 h3]
          exact rinC_more v m k (s + 1) _ _ _ h
        · rw [rinC_no (by omega) (.inr (by simpa using h3))] at h; cases h
      · rw [rinC_no (by omega) (.inl (by simpa using h2))] at h; cases h
/-- After a rinse, one step less. -/
theorem rinse_less {V N D v m : Int} (h : (rinse V N D v m).2 = true) (hs : (rinse V N D v m).1 > 0) :
    (takeC V N D v).2.2.2 = true ∧ (addC (takeC V N D v).1 (takeC V N D v).2.1 (takeC V N D v).2.2.1 v 0).2.2.2 = true ∧
    rinse (addC (takeC V N D v).1 (takeC V N D v).2.1 (takeC V N D v).2.2.1 v 0).1 (addC (takeC V N D v).1 (takeC V N D v).2.1 (takeC V N D v).2.2.1 v 0).2.1 (addC (takeC V N D v).1 (takeC V N D v).2.1 (takeC V N D v).2.2.1 v 0).2.2.1 v m = ((rinse V N D v m).1 - 1, true) := by
  unfold rinse at h hs
  split at h
  · rename_i c
    rw [if_pos c] at hs
    obtain ⟨g, hv, hm, hle⟩ := c
    by_cases hit : N ≤ m * D * V
    · rw [rinC_hit hit] at hs; simp at hs
    by_cases h2 : (takeC V N D v).2.2.2 = true
    · by_cases h3 : (addC (takeC V N D v).1 (takeC V N D v).2.1 (takeC V N D v).2.2.1 v 0).2.2.2 = true
      · have ha := addC_ok h3
        have ht := takeC_ok h2
        refine ⟨h2, h3, ?_⟩
        rw [rinC_next (by omega) h2 h3] at h hs
        rw [rinse_yes ha.1 hv hm (by rw [ha.2, ht.2]; omega), rinse_yes g hv hm hle, rinC_next (by omega) h2 h3]
        generalize (addC (takeC V N D v).1 (takeC V N D v).2.1 (takeC V N D v).2.2.1 v 0).1 = V' at *
        generalize (addC (takeC V N D v).1 (takeC V N D v).2.1 (takeC V N D v).2.2.1 v 0).2.1 = N' at *
        generalize (addC (takeC V N D v).1 (takeC V N D v).2.1 (takeC V N D v).2.2.1 v 0).2.2.1 = D' at *
        have sh := rinC_shift v m 4 0 V' N' D'
        rw [sh] at h ⊢
        by_cases k : (rinC v m 4 0 V' N' D').2 = true
        · rw [if_pos k]
          rw [rinC_more v m 4 0 _ _ _ k]
          simp only [Int.add_sub_cancel]
          rw [← k]
        · rw [if_neg k] at h; cases h
      · rw [rinC_no (by omega) (.inr (by simpa using h3))] at h; cases h
    · rw [rinC_no (by omega) (.inl (by simpa using h2))] at h; cases h
  · cases h
/-- Two comparisons, the other way round. -/
theorem cmp_back (V N D V' N' D' : Int) : (cmpC V' N' D' V N D).2 = (cmpC V N D V' N' D').2 ∧ ((cmpC V N D V' N' D').1 + (cmpC V' N' D' V N D).1).tmod 3 = 0 := by
  cases h1 : goodC V N D
  · rw [cmpC_no (.inl h1), cmpC_no (.inr (.inl h1))]; exact ⟨rfl, rfl⟩
  cases h2 : goodC V' N' D'
  · rw [cmpC_no (.inl h2), cmpC_no (.inr (.inl h2))]; exact ⟨rfl, rfl⟩
  by_cases h3 : V = 0
  · rw [cmpC_no (.inr (.inr (.inl h3))), cmpC_no (.inr (.inr (.inr h3)))]; exact ⟨rfl, rfl⟩
  by_cases h4 : V' = 0
  · rw [cmpC_no (.inr (.inr (.inl h4))), cmpC_no (.inr (.inr (.inr h4)))]; exact ⟨rfl, rfl⟩
  rw [cmpC_yes h1 h2 h3 h4, cmpC_yes h2 h1 h4 h3]
  exact ⟨rfl, sgn3_back _ _⟩
end Go.Proofs.Ytbcgcpdnmpejlaa

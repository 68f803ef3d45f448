/- Plain: what a content of a tank is, and its arithmetic. -/
import Derived.Test.YtbcgcpdnmpejlaaPlain
namespace Go.Proofs.Ytbcgcpdnmpejlaa
/-- A valid content: volume V, mass N / D. -/
def goodC (V N D : Int) : Bool := inB V 0 100 && inB D 1 1000000 && inB N 0 (10000 * D) && (gcdI N D == 1) && (decide (0 < V) || N == 0)
/-- The ways through the test of a content. -/
theorem goodC_ways (V N D : Int) :
    (inB V 0 100 = false ∧ goodC V N D = false) ∨
    (inB V 0 100 = true ∧ inB D 1 1000000 = false ∧ goodC V N D = false) ∨
    (inB V 0 100 = true ∧ inB D 1 1000000 = true ∧ inB N 0 (10000 * D) = false ∧ goodC V N D = false) ∨
    (inB V 0 100 = true ∧ inB D 1 1000000 = true ∧ inB N 0 (10000 * D) = true ∧ gcdI N D ≠ 1 ∧ goodC V N D = false) ∨
    (inB V 0 100 = true ∧ inB D 1 1000000 = true ∧ inB N 0 (10000 * D) = true ∧ gcdI N D = 1 ∧ 0 < V ∧ goodC V N D = true) ∨
    (inB V 0 100 = true ∧ inB D 1 1000000 = true ∧ inB N 0 (10000 * D) = true ∧ gcdI N D = 1 ∧ V ≤ 0 ∧ N = 0 ∧ goodC V N D = true) ∨
    (inB V 0 100 = true ∧ inB D 1 1000000 = true ∧ inB N 0 (10000 * D) = true ∧ gcdI N D = 1 ∧ V ≤ 0 ∧ N ≠ 0 ∧ goodC V N D = false) := by
  unfold goodC
  cases inB V 0 100 <;> cases inB D 1 1000000 <;> cases inB N 0 (10000 * D) <;> simp
  by_cases g : gcdI N D = 1
  · by_cases v : 0 < V
    · simp [g, v]
    · have v' : V ≤ 0 := by omega
      by_cases n : N = 0 <;> simp [g, v, n] <;> omega
  · simp [g]
theorem goodC_out {V N D : Int} (h : goodC V N D = true) : 0 ≤ V ∧ V ≤ 100 ∧ 1 ≤ D ∧ D ≤ 1000000 ∧ 0 ≤ N ∧ N ≤ 10000 * D ∧ gcdI N D = 1 ∧ (0 < V ∨ N = 0) := by
  simp only [goodC, Bool.and_eq_true, Bool.or_eq_true, beq_iff_eq, decide_eq_true_eq] at h
  obtain ⟨⟨⟨⟨h1, h2⟩, h3⟩, h4⟩, h5⟩ := h
  have a := inB_out h1; have b := inB_out h2; have c := inB_out h3
  exact ⟨a.1, a.2, b.1, b.2, c.1, c.2, h4, h5⟩

def cZ : Int × Int × Int × Bool := (0, 0, 0, false)
/-- A content with a volume and a mass, if it is valid. -/
def cOf (V n d : Int) : Int × Int × Int × Bool := if goodC V n d = true then (V, n, d, true) else cZ
theorem cOf_yes {V n d : Int} (h : goodC V n d = true) : cOf V n d = (V, n, d, true) := by unfold cOf; rw [if_pos h]
theorem cOf_no {V n d : Int} (h : goodC V n d = false) : cOf V n d = cZ := by unfold cOf; rw [if_neg (by simp [h])]
def ofC (V n d : Int) : Int × Int × Int × Bool := cOf V (rN n d) (rD n d)

def addC (V N D v m : Int) : Int × Int × Int × Bool := if goodC V N D = true ∧ inB v 1 100 = true ∧ inB m 0 10000 = true then ofC (V + v) (N + m * D) D else cZ
theorem addC_yes {V N D v m : Int} (h1 : goodC V N D = true) (h2 : inB v 1 100 = true) (h3 : inB m 0 10000 = true) : addC V N D v m = ofC (V + v) (N + m * D) D := by unfold addC; rw [if_pos ⟨h1, h2, h3⟩]
theorem addC_no {V N D v m : Int} (h : goodC V N D = false ∨ inB v 1 100 = false ∨ inB m 0 10000 = false) : addC V N D v m = cZ := by
  unfold addC; rw [if_neg]; rintro ⟨a, b, c⟩; rw [a, b, c] at h; simp at h

def takeC (V N D v : Int) : Int × Int × Int × Bool := if goodC V N D = true ∧ inB v 1 100 = true ∧ v ≤ V then ofC (V - v) (N * (V - v)) (D * V) else cZ
theorem takeC_yes {V N D v : Int} (h1 : goodC V N D = true) (h2 : inB v 1 100 = true) (h3 : v ≤ V) : takeC V N D v = ofC (V - v) (N * (V - v)) (D * V) := by unfold takeC; rw [if_pos ⟨h1, h2, h3⟩]
theorem takeC_no {V N D v : Int} (h : goodC V N D = false ∨ inB v 1 100 = false ∨ V < v) : takeC V N D v = cZ := by
  unfold takeC; rw [if_neg]; rintro ⟨a, b, c⟩; rw [a, b] at h; simp at h; omega

def joinC (V N D V' N' D' : Int) : Int × Int × Int × Bool := if goodC V N D = true ∧ goodC V' N' D' = true then ofC (V + V') (N * D' + N' * D) (D * D') else cZ
theorem joinC_yes {V N D V' N' D' : Int} (h1 : goodC V N D = true) (h2 : goodC V' N' D' = true) : joinC V N D V' N' D' = ofC (V + V') (N * D' + N' * D) (D * D') := by unfold joinC; rw [if_pos ⟨h1, h2⟩]
theorem joinC_no {V N D V' N' D' : Int} (h : goodC V N D = false ∨ goodC V' N' D' = false) : joinC V N D V' N' D' = cZ := by
  unfold joinC; rw [if_neg]; rintro ⟨a, b⟩; rw [a, b] at h; simp at h

def concC (V N D : Int) : Int × Int × Bool := if goodC V N D = true ∧ V ≠ 0 then (rN N (D * V), rD N (D * V), true) else (0, 0, false)
theorem concC_yes {V N D : Int} (h1 : goodC V N D = true) (h2 : V ≠ 0) : concC V N D = (rN N (D * V), rD N (D * V), true) := by unfold concC; rw [if_pos ⟨h1, h2⟩]
theorem concC_no {V N D : Int} (h : goodC V N D = false ∨ V = 0) : concC V N D = (0, 0, false) := by
  unfold concC; rw [if_neg]; rintro ⟨a, b⟩; rw [a] at h; simp at h; exact b h

def sgn3 (x y : Int) : Int := if x < y then 1 else if x > y then 2 else 0
def cmpC (V N D V' N' D' : Int) : Int × Bool := if goodC V N D = true ∧ goodC V' N' D' = true ∧ V ≠ 0 ∧ V' ≠ 0 then (sgn3 (N * D' * V') (N' * D * V), true) else (0, false)
theorem cmpC_yes {V N D V' N' D' : Int} (h1 : goodC V N D = true) (h2 : goodC V' N' D' = true) (h3 : V ≠ 0) (h4 : V' ≠ 0) : cmpC V N D V' N' D' = (sgn3 (N * D' * V') (N' * D * V), true) := by unfold cmpC; rw [if_pos ⟨h1, h2, h3, h4⟩]
theorem cmpC_no {V N D V' N' D' : Int} (h : goodC V N D = false ∨ goodC V' N' D' = false ∨ V = 0 ∨ V' = 0) : cmpC V N D V' N' D' = (0, false) := by
  unfold cmpC; rw [if_neg]; rintro ⟨a, b, c, d⟩; rw [a, b] at h; simp at h; rcases h with h | h
  · exact c h
  · exact d h

def dilC (V N D m : Int) : Int × Bool := if goodC V N D = true ∧ inB m 1 10000 = true then (maxI 0 ((N + D * m - 1) / (D * m) - V), true) else (0, false)
theorem dilC_yes {V N D m : Int} (h1 : goodC V N D = true) (h2 : inB m 1 10000 = true) : dilC V N D m = (maxI 0 ((N + D * m - 1) / (D * m) - V), true) := by unfold dilC; rw [if_pos ⟨h1, h2⟩]
theorem dilC_no {V N D m : Int} (h : goodC V N D = false ∨ inB m 1 10000 = false) : dilC V N D m = (0, false) := by
  unfold dilC; rw [if_neg]; rintro ⟨a, b⟩; rw [a, b] at h; simp at h

theorem rN_one (m : Int) : rN m 1 = m := by
  have h : gcdI m 1 = 1 := by unfold gcdI; simp
  unfold rN; rw [h, Int.ediv_one]
theorem rD_one (m : Int) : rD m 1 = 1 := by
  have h : gcdI m 1 = 1 := by unfold gcdI; simp
  unfold rD; rw [h]; rfl
/-- How the program compares two contents, and what it answers. -/
theorem cmp_ways (V N D V' N' D' : Int) (h1 : 0 < D * V) (h2 : 0 < D' * V') :
    (cmpI (rN N (D * V) * rD N' (D' * V')) (rN N' (D' * V') * rD N (D * V)) = -1 ∧ N * D' * V' < N' * D * V ∧ sgn3 (N * D' * V') (N' * D * V) = 1) ∨
    (cmpI (rN N (D * V) * rD N' (D' * V')) (rN N' (D' * V') * rD N (D * V)) = 1 ∧ N' * D * V < N * D' * V' ∧ sgn3 (N * D' * V') (N' * D * V) = 2) ∨
    (cmpI (rN N (D * V) * rD N' (D' * V')) (rN N' (D' * V') * rD N (D * V)) = 0 ∧ N * D' * V' = N' * D * V ∧ sgn3 (N * D' * V') (N' * D * V) = 0) := by
  have hc := cross N (D * V) N' (D' * V') h1 h2
  rw [← Int.mul_assoc, ← Int.mul_assoc] at hc
  unfold sgn3
  rcases cmpI_ways (rN N (D * V) * rD N' (D' * V')) (rN N' (D' * V') * rD N (D * V)) with ⟨h, e⟩ | ⟨h, e⟩ | ⟨h, e⟩
  · have := hc.1.1 h
    exact .inl ⟨e, this, by rw [if_pos this]⟩
  · have := hc.2.1 h
    exact .inr (.inl ⟨e, this, by rw [if_neg (by omega), if_pos this]⟩)
  · have a : ¬ N * D' * V' < N' * D * V := fun k => by have := hc.1.2 k; omega
    have b : ¬ N' * D * V < N * D' * V' := fun k => by have := hc.2.2 k; omega
    exact .inr (.inr ⟨e, by omega, by rw [if_neg a, if_neg (by omega)]⟩)
/-- The program's test of a concentration against a limit. -/
theorem lim_iff (V N D m : Int) (h1 : 0 < D * V) : (cmpI (rN N (D * V)) (m * rD N (D * V)) ≤ 0) ↔ N ≤ m * D * V := by
  have hc := cross N (D * V) m 1 h1 (by omega)
  rw [rN_one, rD_one, Int.mul_one, Int.mul_one, ← Int.mul_assoc] at hc
  rcases cmpI_ways (rN N (D * V)) (m * rD N (D * V)) with ⟨h, e⟩ | ⟨h, e⟩ | ⟨h, e⟩
  · have := hc.1.1 h; rw [e]; constructor <;> intro <;> omega
  · have := hc.2.1 h; rw [e]; constructor <;> intro <;> omega
  · have b : ¬ m * D * V < N := fun k => by have := hc.2.2 k; omega
    rw [e]; constructor <;> intro <;> omega

/-- How many shares of two waters give a third. -/
def mixC (a b t : Int) : Int × Int × Bool :=
  if inB a 0 10000 = true ∧ inB b 0 10000 = true ∧ inB t 0 10000 = true then
    (if a = t then (1, 0, true) else if t = b then (0, 1, true) else if (t < a ∧ t < b) ∨ (a < t ∧ b < t) then (0, 0, false) else (rN (absI (t - b)) (absI (a - t)), rD (absI (t - b)) (absI (a - t)), true))
  else (0, 0, false)
theorem mixC_no {a b t : Int} (h : inB a 0 10000 = false ∨ inB b 0 10000 = false ∨ inB t 0 10000 = false) : mixC a b t = (0, 0, false) := by
  unfold mixC; rw [if_neg]; rintro ⟨x, y, z⟩; rw [x, y, z] at h; simp at h
theorem mixC_yes {a b t : Int} (h1 : inB a 0 10000 = true) (h2 : inB b 0 10000 = true) (h3 : inB t 0 10000 = true) :
    (a = t ∧ mixC a b t = (1, 0, true)) ∨ (a ≠ t ∧ t = b ∧ mixC a b t = (0, 1, true)) ∨ (t < a ∧ t < b ∧ mixC a b t = (0, 0, false)) ∨ (a < t ∧ b < t ∧ mixC a b t = (0, 0, false)) ∨
    (t < a ∧ b < t ∧ mixC a b t = (rN (t - b) (a - t), rD (t - b) (a - t), true)) ∨ (a < t ∧ t < b ∧ mixC a b t = (rN (b - t) (t - a), rD (b - t) (t - a), true)) := by
  unfold mixC
  rw [if_pos ⟨h1, h2, h3⟩]
  by_cases e1 : a = t
  · exact .inl ⟨e1, by rw [if_pos e1]⟩
  · rw [if_neg e1]
    by_cases e2 : t = b
    · exact .inr (.inl ⟨e1, e2, by rw [if_pos e2]⟩)
    · rw [if_neg e2]
      by_cases e3 : t < a
      · by_cases e4 : t < b
        · exact .inr (.inr (.inl ⟨e3, e4, by rw [if_pos (.inl ⟨e3, e4⟩)]⟩))
        · exact .inr (.inr (.inr (.inr (.inl ⟨e3, by omega, by rw [if_neg (by omega), absI_of_nonneg (by omega), absI_of_nonneg (by omega)]⟩))))
      · by_cases e4 : t < b
        · refine .inr (.inr (.inr (.inr (.inr ⟨by omega, e4, ?_⟩))))
          rw [if_neg (by omega), absI_of_neg (by omega), absI_of_neg (by omega), show -(t - b) = b - t by omega, show -(a - t) = t - a by omega]
        · exact .inr (.inr (.inr (.inl ⟨by omega, by omega, by rw [if_pos (.inr ⟨by omega, by omega⟩)]⟩)))
end Go.Proofs.Ytbcgcpdnmpejlaa

/- Plain: rinsing a tank again and again. -/
import Derived.Test.YtbcgcpdnmpejlaaCPlain
namespace Go.Proofs.Ytbcgcpdnmpejlaa
def rinC (v m : Int) : Nat → Int → Int → Int → Int → Int × Bool
  | 0, _, _, _, _ => (0, false)
  | k + 1, s, V, N, D => if N ≤ m * D * V then (s, true)
      else if (takeC V N D v).2.2.2 = true ∧ (addC (takeC V N D v).1 (takeC V N D v).2.1 (takeC V N D v).2.2.1 v 0).2.2.2 = true then
        rinC v m k (s + 1) (addC (takeC V N D v).1 (takeC V N D v).2.1 (takeC V N D v).2.2.1 v 0).1 (addC (takeC V N D v).1 (takeC V N D v).2.1 (takeC V N D v).2.2.1 v 0).2.1 (addC (takeC V N D v).1 (takeC V N D v).2.1 (takeC V N D v).2.2.1 v 0).2.2.1
      else (0, false)
theorem rinC_hit {v m : Int} {k : Nat} {s V N D : Int} (h : N ≤ m * D * V) : rinC v m (k + 1) s V N D = (s, true) := by rw [rinC, if_pos h]
theorem rinC_no {v m : Int} {k : Nat} {s V N D : Int} (h : m * D * V < N)
    (h2 : (takeC V N D v).2.2.2 = false ∨ (addC (takeC V N D v).1 (takeC V N D v).2.1 (takeC V N D v).2.2.1 v 0).2.2.2 = false) : rinC v m (k + 1) s V N D = (0, false) := by
  rw [rinC, if_neg (by omega), if_neg]
  rintro ⟨a, b⟩
  rw [a, b] at h2
  simp at h2
theorem rinC_next {v m : Int} {k : Nat} {s V N D : Int} (h : m * D * V < N) (h2 : (takeC V N D v).2.2.2 = true) (h3 : (addC (takeC V N D v).1 (takeC V N D v).2.1 (takeC V N D v).2.2.1 v 0).2.2.2 = true) :
    rinC v m (k + 1) s V N D = rinC v m k (s + 1) (addC (takeC V N D v).1 (takeC V N D v).2.1 (takeC V N D v).2.2.1 v 0).1 (addC (takeC V N D v).1 (takeC V N D v).2.1 (takeC V N D v).2.2.1 v 0).2.1 (addC (takeC V N D v).1 (takeC V N D v).2.1 (takeC V N D v).2.2.1 v 0).2.2.1 := by
  rw [rinC, if_neg (by omega), if_pos ⟨h2, h3⟩]
theorem cOf_ok {V n d : Int} (h : (cOf V n d).2.2.2 = true) : goodC (cOf V n d).1 (cOf V n d).2.1 (cOf V n d).2.2.1 = true ∧ (cOf V n d).1 = V := by
  cases g : goodC V n d
  · rw [cOf_no g] at h; cases h
  · rw [cOf_yes g]; exact ⟨g, rfl⟩
theorem takeC_ok {V N D v : Int} (h : (takeC V N D v).2.2.2 = true) : goodC (takeC V N D v).1 (takeC V N D v).2.1 (takeC V N D v).2.2.1 = true ∧ (takeC V N D v).1 = V - v := by
  unfold takeC at *
  split at h
  · rename_i c; rw [if_pos c]; exact cOf_ok h
  · cases h
theorem addC_ok {V N D v m : Int} (h : (addC V N D v m).2.2.2 = true) : goodC (addC V N D v m).1 (addC V N D v m).2.1 (addC V N D v m).2.2.1 = true ∧ (addC V N D v m).1 = V + v := by
  unfold addC at *
  split at h
  · rename_i c; rw [if_pos c]; exact cOf_ok h
  · cases h
def rinse (V N D v m : Int) : Int × Bool := if goodC V N D = true ∧ inB v 1 100 = true ∧ inB m 1 10000 = true ∧ v ≤ V then rinC v m 5 0 V N D else (0, false)
theorem rinse_yes {V N D v m : Int} (h1 : goodC V N D = true) (h2 : inB v 1 100 = true) (h3 : inB m 1 10000 = true) (h4 : v ≤ V) : rinse V N D v m = rinC v m 5 0 V N D := by
  unfold rinse; rw [if_pos ⟨h1, h2, h3, h4⟩]
theorem rinse_no {V N D v m : Int} (h : goodC V N D = false ∨ inB v 1 100 = false ∨ inB m 1 10000 = false ∨ V < v) : rinse V N D v m = (0, false) := by
  unfold rinse; rw [if_neg]; rintro ⟨a, b, c, d⟩; rw [a, b, c] at h; simp at h; omega
theorem rinC_b (v m : Int) : ∀ (k : Nat) (s V N D : Int), 0 ≤ s → 0 ≤ (rinC v m k s V N D).1 ∧ (rinC v m k s V N D).1 ≤ s + k
  | 0, s, _, _, _, h => by simp [rinC]; omega
  | k + 1, s, V, N, D, h => by
    rw [rinC]
    split
    · simp; omega
    · split
      · have := rinC_b v m k (s + 1) (addC (takeC V N D v).1 (takeC V N D v).2.1 (takeC V N D v).2.2.1 v 0).1 (addC (takeC V N D v).1 (takeC V N D v).2.1 (takeC V N D v).2.2.1 v 0).2.1 (addC (takeC V N D v).1 (takeC V N D v).2.1 (takeC V N D v).2.2.1 v 0).2.2.1 (by omega)
        omega
      · simp; omega
end Go.Proofs.Ytbcgcpdnmpejlaa

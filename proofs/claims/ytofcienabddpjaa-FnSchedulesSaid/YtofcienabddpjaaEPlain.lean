/- Plain: the eager schedule. -/
import Derived.Test.YtofcienabddpjaaSCost
namespace Go.Proofs.Ytofcienabddpjaa
def egW (P M l : Int) : Int := minI P (M - l)
/-- The level ahead of hour k when the pump runs as early as it can. -/
def egL (E M P L : Int) (ys : List Int) : Nat → Int
  | 0 => L
  | k + 1 => nxT E M (egL E M P L ys k) (egW P M (egL E M P L ys k)) (ys.getD k 0)
def egV (E M P L : Int) (ys : List Int) (k : Nat) : Int := egW P M (egL E M P L ys k)
def egZ (E M P L : Int) (ys : List Int) : List Int := mapK (egV E M P L ys) ys.length
theorem egZ_len (E M P L : Int) (ys : List Int) : (egZ E M P L ys).length = ys.length := mapK_len _ _
theorem egZ_get (E M P L : Int) (ys : List Int) {k : Nat} (hk : k < ys.length) : (egZ E M P L ys).getD k 0 = egV E M P L ys k := mapK_get _ hk
theorem egL_lev (E M P L : Int) (ys : List Int) : ∀ k, k ≤ ys.length → levT E M L (egZ E M P L ys) ys k = egL E M P L ys k
  | 0, _ => rfl
  | k + 1, hk => by rw [levT, egL, egL_lev E M P L ys k (by omega), egZ_get E M P L ys (by omega)]; rfl
theorem egL_b {E M P L : Int} {ys : List Int} (h1 : E ≤ L) (h2 : L ≤ M) (hy : ∀ j, j < ys.length → 0 ≤ ys.getD j 0 ∧ ys.getD j 0 ≤ 100) : ∀ k, k ≤ ys.length → E ≤ egL E M P L ys k ∧ egL E M P L ys k ≤ M
  | 0, _ => ⟨h1, h2⟩
  | k + 1, hk => nxT_b (by omega) (hy k (by omega)).1
theorem egW_b {P M l : Int} (h0 : 0 ≤ P) (h : l ≤ M) : 0 ≤ egW P M l ∧ egW P M l ≤ P := by unfold egW minI; split <;> omega
theorem egZ_vols {E M P L : Int} {ys : List Int} (h0 : 0 ≤ P) (h1 : E ≤ L) (h2 : L ≤ M) (hy : ∀ j, j < ys.length → 0 ≤ ys.getD j 0 ∧ ys.getD j 0 ≤ 100) : volsB P (egZ E M P L ys) = true :=
  volsB_end fun j hj => by
    rw [egZ_len] at hj
    rw [egZ_get E M P L ys hj]
    have := egW_b h0 (egL_b (P := P) h1 h2 hy j (by omega)).2
    exact inB_mk this.1 this.2
/-- What is calm in an hour of the eager schedule. -/
def egC (E M P L : Int) (ys : List Int) (k : Nat) : Bool := decide (spT M (egL E M P L ys k) (egV E M P L ys k) + msT E M (egL E M P L ys k) (egV E M P L ys k) (ys.getD k 0) = 0)
theorem egC_calm (E M P L : Int) (ys : List Int) {k : Nat} (hk : k < ys.length) : calmK E M L (egZ E M P L ys) ys k = egC E M P L ys k := by
  unfold calmK spK msK egC
  rw [egL_lev E M P L ys k (by omega), egZ_get E M P L ys hk]
/-- The eager schedule, if it is good. -/
def eagerT (L E M P : Int) (xs ys : List Int) : List Int × Bool := if goodS L E M P xs ys (egZ E M P L ys) = true then (egZ E M P L ys, true) else ([], false)
theorem eagerT_no {L E M P : Int} {xs ys : List Int} (h : goodS L E M P xs ys (egZ E M P L ys) = false) : eagerT L E M P xs ys = ([], false) := by unfold eagerT; rw [if_neg (by rw [h]; decide)]
theorem eagerT_yes {L E M P : Int} {xs ys : List Int} (h : goodS L E M P xs ys (egZ E M P L ys) = true) : eagerT L E M P xs ys = (egZ E M P L ys, true) := by unfold eagerT; rw [if_pos h]
theorem goodS_eager {L E M P : Int} {xs ys : List Int} (g : goodPm L E M P xs ys = true) : goodS L E M P xs ys (egZ E M P L ys) = (calmT E M L (egZ E M P L ys) ys ys.length && decide (L ≤ egL E M P L ys ys.length)) := by
  have q := goodPm_out g
  have hv := egZ_vols (P := P) q.2.2.2.2.1 q.2.1 q.2.2.1 (allH_out q.2.2.2.2.2.2.2.2.2.2)
  unfold goodS
  rw [g, hv, egZ_len, egL_lev E M P L ys _ (Nat.le_refl _)]
  simp
theorem hour_eager {L E M P : Int} {xs ys : List Int} {k : Nat} (g : goodPm L E M P xs ys = true) (hk : k < ys.length) : HourB E M (egL E M P L ys k) (egV E M P L ys k) (ys.getD k 0) := by
  obtain ⟨g1, g2, g3, g4, g5, g6, g7, g8, g9, g10, g11⟩ := goodPm_out g
  have hy := allH_out g11
  have a := egL_b (P := P) g2 g3 hy k (by omega)
  have b := hy k hk
  have d := egW_b g5 a.2
  have e : egV E M P L ys k = egW P M (egL E M P L ys k) := rfl
  rw [← e] at d
  exact ⟨by omega, by omega, by omega, by omega, by omega, by omega, by omega, by omega, by omega, by omega⟩
theorem eagerT_len {L E M P : Int} {xs ys : List Int} : (eagerT L E M P xs ys).1.length ≤ ys.length := by
  unfold eagerT
  split
  · rw [egZ_len]; omega
  · simp
end Go.Proofs.Ytofcienabddpjaa

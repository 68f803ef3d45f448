/- Plain: the cost to go against one hour's volumes. -/
import Derived.Test.YtofcienabddpjaaQShad
import Derived.Test.YtofcienabddpjaaQSched
import Derived.Test.YtofcienabddpjaaQPick
namespace Go.Proofs.Ytofcienabddpjaa
theorem bstV_le {g : Int → Int} {E M x u l : Int} (hx : 0 ≤ x) : ∀ K : Nat, ∀ j, j < K → okV E M l j u = true → 0 ≤ g (nxT E M l j u) → 0 ≤ bstV g E M x u l K ∧ bstV g E M x u l K ≤ x * j + g (nxT E M l j u)
  | 0, _, h, _, _ => absurd h (by omega)
  | K + 1, j, h, o, q => by
    rw [bstV]
    by_cases e : j = K
    · subst e
      have m : 0 ≤ x * (j : Int) := Int.mul_nonneg hx (by omega)
      rw [if_pos ⟨o, q⟩]
      split <;> omega
    · have ih := bstV_le (g := g) (E := E) (M := M) (u := u) (l := l) hx K j (by omega) o q
      have m : 0 ≤ x * (K : Int) := Int.mul_nonneg hx (by omega)
      split
      · split <;> omega
      · exact ih
/-- Volume j reaches the cost c. -/
def hitV (g : Int → Int) (E M x u l c : Int) (j : Nat) : Bool := okV E M l j u && (decide (0 ≤ g (nxT E M l j u)) && decide (c = x * j + g (nxT E M l j u)))
def rchV (g : Int → Int) (E M x u l c : Int) : Nat → Bool
  | 0 => false
  | k + 1 => rchV g E M x u l c k || hitV g E M x u l c k
theorem rchV_of {g : Int → Int} {E M x u l c : Int} {j : Nat} (h : hitV g E M x u l c j = true) : ∀ K : Nat, j < K → rchV g E M x u l c K = true
  | 0, q => absurd q (by omega)
  | K + 1, q => by
    rw [rchV]
    by_cases e : j = K
    · rw [← e, h, Bool.or_true]
    · rw [rchV_of h K (by omega), Bool.true_or]
theorem rchV_not {g : Int → Int} {E M x u l c : Int} : ∀ K : Nat, (∀ j, j < K → hitV g E M x u l c j = false) → rchV g E M x u l c K = false
  | 0, _ => rfl
  | K + 1, h => by rw [rchV, rchV_not K (fun j q => h j (by omega)), h K (by omega)]; rfl
theorem rchV_end {g : Int → Int} {E M x u l c : Int} (hx : 0 ≤ x) (K : Nat) (hc : 0 ≤ bstV g E M x u l K → c = bstV g E M x u l K) : rchV g E M x u l c K = decide (0 ≤ bstV g E M x u l K) := by
  by_cases h : 0 ≤ bstV g E M x u l K
  · obtain ⟨j, h1, h2, h3, h4⟩ := bstV_has (g := g) (E := E) (M := M) (x := x) (u := u) (l := l) K h
    rw [decide_eq_true h]
    exact rchV_of (j := j) (by simp [hitV, h2, h3, h4, hc h]) K h1
  · rw [decide_eq_false h]
    refine rchV_not K fun j hj => ?_
    cases e : hitV g E M x u l c j
    · rfl
    · simp only [hitV, Bool.and_eq_true, decide_eq_true_eq] at e
      exact absurd (bstV_le (g := g) hx K j hj e.1 e.2.1).1 h
/-- What the law asks of an hour. -/
structure HourC (L E M P : Int) (xs ys : List Int) (k l : Int) (g : Int → Int) (x u : Int) : Prop where
  gd : goodTk l E M = true
  hb : ∀ z : Int, 0 ≤ z → z ≤ P → HourB E M l z u
  go : ∀ z : Int, 0 ≤ z → z ≤ P → cgo L E M P xs ys (k + 1) (nxT E M l z u) = if g (nxT E M l z u) < 0 then (0, false) else (g (nxT E M l z u), true)
  cur : cgo L E M P xs ys k l = if bstV g E M x u l (P.toNat + 1) < 0 then (0, false) else (bstV g E M x u l (P.toNat + 1), true)
  x0 : 0 ≤ x
  x1 : x ≤ 100
  g1 : ∀ z, g z ≤ 100000
  p0 : 0 ≤ P
  p1 : P ≤ 10
theorem HourC.of {L E M P : Int} {xs ys : List Int} {k : Nat} {l : Int} (g : goodPm L E M P xs ys = true) (hk : k < ys.length) (h1 : E ≤ l) (h2 : l ≤ M) :
    HourC L E M P xs ys k l (tabV E M P L xs ys ys.length (ys.length - (k + 1))) (xs.getD k 0) (ys.getD k 0) := by
  have nb := NumB.of g
  obtain ⟨e0, el, lm, m1, g0, g1, n1, n2, nq, hq, hy⟩ := id nb
  have yk := hy k hk
  have qk := hq k hk
  have tb := tabV_b (E := E) (M := M) (L := L) (ys := ys) (n := ys.length) g1 hq (ys.length - (k + 1)) (by omega)
  have nx : ∀ z : Int, E ≤ nxT E M l z (ys.getD k 0) ∧ nxT E M l z (ys.getD k 0) ≤ M := fun z => nxT_b (by omega) yk.1
  have ask : ∀ (j : Nat) (v : Int), j ≤ ys.length → E ≤ v → v ≤ M → askB L E M P xs ys j v = true := fun j v a b c => by
    unfold askB
    rw [g, inB_mk (by omega) (by omega), inB_mk b c]; rfl
  refine ⟨?_, ?_, ?_, ?_, qk.1, qk.2, fun z => by have := (tb z).2; omega, g0, g1⟩
  · simp [goodTk, e0, h1, h2, m1]
  · exact fun z z0 z1 => ⟨by omega, by omega, by omega, by omega, by omega, by omega, by omega, by omega, by omega, by omega⟩
  · intro z z0 z1
    have a := ask (k + 1) _ (by omega) (nx z).1 (nx z).2
    rw [Int.natCast_succ] at a
    unfold cgo
    rw [if_pos a]
    have e : ((k : Int) + 1).toNat = k + 1 := by omega
    rw [e]
  · have a := ask k l (by omega) h1 h2
    unfold cgo
    rw [if_pos a, Int.toNat_natCast]
    have e : ys.length - k = (ys.length - (k + 1)) + 1 := by omega
    have e2 : ys.length - ((ys.length - (k + 1)) + 1) = k := by omega
    rw [e, tabV, if_pos h1, e2]
theorem cgo_first {L E M P : Int} {xs ys : List Int} (h : (cheapT E M P L xs ys).2.2 = true) : cgo L E M P xs ys 0 L = ((cheapT E M P L xs ys).2.1, true) ∧ (cheapT E M P L xs ys).1.length = xs.length := by
  unfold cheapT at *
  by_cases g : goodPm L E M P xs ys = true
  · rw [if_pos g] at *
    have nb := NumB.of g
    obtain ⟨e0, el, lm, m1, g0, g1, n1, n2, nq, hq, hy⟩ := id nb
    unfold firstT at *
    by_cases c : tabV E M P L xs ys ys.length ys.length L < 0
    · rw [if_pos c] at h; cases h
    · rw [if_neg c]
      refine ⟨?_, by show (schV true E M P L xs ys ys.length).length = _; rw [nq]; simp [schV, mapK_len]⟩
      have a : askB L E M P xs ys 0 L = true := by
        unfold askB
        rw [g, inB_mk (by omega) (by omega), inB_mk el lm]; rfl
      unfold cgo
      rw [if_pos a]
      simp only [Int.toNat_zero, Nat.sub_zero]
      rw [if_neg c]
  · rw [if_neg g] at h; cases h
end Go.Proofs.Ytofcienabddpjaa

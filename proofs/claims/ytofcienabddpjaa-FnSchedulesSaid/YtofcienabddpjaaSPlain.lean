/- Plain: schedules of a pump. -/
import Derived.Test.YtofcienabddpjaaUPlain
namespace Go.Proofs.Ytofcienabddpjaa
/-- What is spilled, what is missing, and the level behind an hour. -/
def spT (M l z : Int) : Int := if 0 < l + z - M then l + z - M else 0
def mdT (M l z u : Int) : Int := l + z - spT M l z - u
def msT (E M l z u : Int) : Int := if 0 < E - mdT M l z u then E - mdT M l z u else 0
def nxT (E M l z u : Int) : Int := mdT M l z u + msT E M l z u
theorem spT_b {M l z : Int} (h1 : l ≤ M) (hz : z ≤ 100) : 0 ≤ spT M l z ∧ spT M l z ≤ 100 := by
  unfold spT; split <;> omega
theorem nxT_b {E M l z u : Int} (h1 : E ≤ M) (hu : 0 ≤ u) : E ≤ nxT E M l z u ∧ nxT E M l z u ≤ M := by
  unfold nxT msT mdT spT
  split <;> split <;> omega
theorem msT_b {E M l z u : Int} (h0 : 0 ≤ E) (hM : M ≤ 60) (h1 : E ≤ l) (h2 : l ≤ M) (hz : 0 ≤ z) (hu : 0 ≤ u) (hu2 : u ≤ 100) : 0 ≤ msT E M l z u ∧ msT E M l z u ≤ 200 := by
  unfold msT mdT spT
  split <;> split <;> omega
/-- The level ahead of hour k. -/
def levT (E M L : Int) (zs ys : List Int) : Nat → Int
  | 0 => L
  | k + 1 => nxT E M (levT E M L zs ys k) (zs.getD k 0) (ys.getD k 0)
theorem levT_b {E M L : Int} {zs ys : List Int} (h1 : E ≤ L) (h2 : L ≤ M) (hy : ∀ j, j < ys.length → 0 ≤ ys.getD j 0 ∧ ys.getD j 0 ≤ 100) : ∀ k, k ≤ ys.length → E ≤ levT E M L zs ys k ∧ levT E M L zs ys k ≤ M
  | 0, _ => ⟨h1, h2⟩
  | k + 1, hk => nxT_b (by omega) (hy k (by omega)).1
def spK (E M L : Int) (zs ys : List Int) (k : Nat) : Int := spT M (levT E M L zs ys k) (zs.getD k 0)
def msK (E M L : Int) (zs ys : List Int) (k : Nat) : Int := msT E M (levT E M L zs ys k) (zs.getD k 0) (ys.getD k 0)
def calmK (E M L : Int) (zs ys : List Int) (k : Nat) : Bool := decide (spK E M L zs ys k + msK E M L zs ys k = 0)
/-- Nothing is spilled or missing in the first n hours. -/
def calmT (E M L : Int) (zs ys : List Int) : Nat → Bool
  | 0 => true
  | n + 1 => calmT E M L zs ys n && calmK E M L zs ys n
theorem calmT_bad {E M L : Int} {zs ys : List Int} {k : Nat} (h : calmK E M L zs ys k = false) : ∀ {n : Nat}, k < n → calmT E M L zs ys n = false
  | 0, hk => absurd hk (by omega)
  | n + 1, hk => by
    rw [calmT]
    by_cases e : k = n
    · subst e; rw [h, Bool.and_false]
    · rw [calmT_bad h (n := n) (by omega), Bool.false_and]
/-- The numbers of the first n hours. -/
def mapK (f : Nat → Int) : Nat → List Int
  | 0 => []
  | n + 1 => mapK f n ++ [f n]
theorem mapK_len (f : Nat → Int) : ∀ n, (mapK f n).length = n
  | 0 => rfl
  | n + 1 => by rw [mapK, List.length_append, mapK_len f n]; rfl
theorem mapK_get (f : Nat → Int) : ∀ {n k : Nat}, k < n → (mapK f n).getD k 0 = f k
  | 0, k, h => absurd h (by omega)
  | n + 1, k, h => by
    rw [mapK]
    by_cases e : k = n
    · subst e
      simp [List.getD_eq_getElem?_getD, mapK_len]
    · have := mapK_get f (n := n) (k := k) (by omega)
      simp only [List.getD_eq_getElem?_getD] at this ⊢
      rw [List.getElem?_append_left (by rw [mapK_len]; omega), this]
/-- The sum of the first k numbers. -/
def sumI (ys : List Int) : Nat → Int
  | 0 => 0
  | k + 1 => sumI ys k + ys.getD k 0
theorem sumI_succ {ys : List Int} {k : Nat} {x : Int} (hx : x = ys.getD k 0) : sumI ys (k + 1) = sumI ys k + x := by rw [sumI, hx]
theorem sumI_bound {ys : List Int} {m : Int} (h : ∀ j, j < ys.length → 0 ≤ ys.getD j 0 ∧ ys.getD j 0 ≤ m) : ∀ k, k ≤ ys.length → 0 ≤ sumI ys k ∧ sumI ys k ≤ k * m
  | 0, _ => by simp [sumI]
  | k + 1, hk => by
    have a := sumI_bound h k (by omega)
    have b := h k (by omega)
    rw [sumI]
    have e : ((k + 1 : Nat) : Int) * m = k * m + m := by rw [Int.natCast_add, Int.add_mul]; simp
    rw [e]; omega
/-- The sum over n hours is nought if each hour is calm. -/
theorem sum_calm {E M L : Int} {zs ys : List Int} {N : Nat} (hs : ∀ k, k < N → 0 ≤ spK E M L zs ys k) (hm : ∀ k, k < N → 0 ≤ msK E M L zs ys k) : ∀ n, n ≤ N →
    (0 ≤ sumI (mapK (spK E M L zs ys) N) n ∧ 0 ≤ sumI (mapK (msK E M L zs ys) N) n) ∧ (decide (sumI (mapK (spK E M L zs ys) N) n + sumI (mapK (msK E M L zs ys) N) n = 0) = calmT E M L zs ys n)
  | 0, _ => by simp [sumI, calmT]
  | n + 1, hn => by
    obtain ⟨⟨a, b⟩, c⟩ := sum_calm hs hm n (by omega)
    have x := hs n (by omega)
    have y := hm n (by omega)
    rw [sumI, sumI, mapK_get _ (by omega), mapK_get _ (by omega), calmT, ← c, calmK]
    refine ⟨⟨by omega, by omega⟩, ?_⟩
    rw [Bool.eq_iff_iff]
    simp only [Bool.and_eq_true, decide_eq_true_eq]
    omega
/-- Volumes of a pump. -/
def volsB (P : Int) (zs : List Int) : Bool := zs.all fun z => inB z 0 P
theorem volsB_bad {P : Int} {zs : List Int} {k : Nat} (hk : k < zs.length) (h : inB (zs.getD k 0) 0 P = false) : volsB P zs = false := by
  unfold volsB
  rw [List.all_eq_false]
  exact ⟨zs.getD k 0, by simp [List.getD_eq_getElem?_getD, hk], by rw [h]; simp⟩
theorem volsB_end {P : Int} {zs : List Int} (h : ∀ j, j < zs.length → inB (zs.getD j 0) 0 P = true) : volsB P zs = true := by
  unfold volsB
  rw [List.all_eq_true]
  intro x hx
  obtain ⟨j, hj, rfl⟩ := List.getElem_of_mem hx
  have := h j hj
  simpa [List.getD_eq_getElem?_getD, hj] using this
theorem volsB_out {P : Int} {zs : List Int} (h : volsB P zs = true) : ∀ j, j < zs.length → 0 ≤ zs.getD j 0 ∧ zs.getD j 0 ≤ P := by
  simp only [volsB, List.all_eq_true] at h
  intro j hj
  exact inB_out (h (zs.getD j 0) (by simp [List.getD_eq_getElem?_getD, hj]))
/-- A good schedule. -/
def goodS (L E M P : Int) (xs ys zs : List Int) : Bool :=
  goodPm L E M P xs ys && (decide (zs.length = ys.length) && (volsB P zs && (calmT E M L zs ys zs.length && decide (L ≤ levT E M L zs ys zs.length))))
theorem goodS_ways (L E M P : Int) (xs ys zs : List Int) :
    (goodPm L E M P xs ys = false ∧ goodS L E M P xs ys zs = false) ∨ (goodPm L E M P xs ys = true ∧ ¬ zs.length = ys.length ∧ goodS L E M P xs ys zs = false) ∨
    (goodPm L E M P xs ys = true ∧ zs.length = ys.length ∧ volsB P zs = false ∧ goodS L E M P xs ys zs = false) ∨
    (goodPm L E M P xs ys = true ∧ zs.length = ys.length ∧ volsB P zs = true ∧ goodS L E M P xs ys zs = (calmT E M L zs ys zs.length && decide (L ≤ levT E M L zs ys zs.length))) := by
  unfold goodS
  cases goodPm L E M P xs ys <;> cases volsB P zs <;> by_cases h : zs.length = ys.length <;> simp [h]
/-- The cost of a schedule. -/
def costS (xs zs : List Int) : Nat → Int
  | 0 => 0
  | k + 1 => costS xs zs k + xs.getD k 0 * zs.getD k 0
theorem costS_b {xs zs : List Int} (hx : ∀ j, j < xs.length → 0 ≤ xs.getD j 0 ∧ xs.getD j 0 ≤ 100) (hz : ∀ j, j < zs.length → 0 ≤ zs.getD j 0 ∧ zs.getD j 0 ≤ 10) : ∀ k, k ≤ xs.length → k ≤ zs.length → 0 ≤ costS xs zs k ∧ costS xs zs k ≤ 1000 * k
  | 0, _, _ => by simp [costS]
  | k + 1, h1, h2 => by
    have a := costS_b hx hz k (by omega) (by omega)
    have p := mulB (hx k (by omega)).1 (hx k (by omega)).2 (hz k (by omega)).1 (hz k (by omega)).2
    rw [costS]
    constructor <;> omega
end Go.Proofs.Ytofcienabddpjaa

/- Plain: valid pumpings. -/
import Derived.Test.YtofcienabddpjaaPlain
namespace Go.Proofs.Ytofcienabddpjaa
def hourB (x : Int) : Bool := inB x 0 100
def badH (x : Int) : Bool := !hourB x
def overP (x : Int) : Bool := decide (100 < x)
def goodTk (L E M : Int) : Bool := decide (0 ≤ E) && (decide (E ≤ L) && (decide (L ≤ M) && decide (M ≤ 60)))
theorem goodTk_ways (L E M : Int) :
    (¬ 0 ≤ E ∧ goodTk L E M = false) ∨ (0 ≤ E ∧ ¬ E ≤ L ∧ goodTk L E M = false) ∨ (0 ≤ E ∧ E ≤ L ∧ ¬ L ≤ M ∧ goodTk L E M = false) ∨
    (0 ≤ E ∧ E ≤ L ∧ L ≤ M ∧ ¬ M ≤ 60 ∧ goodTk L E M = false) ∨ (0 ≤ E ∧ E ≤ L ∧ L ≤ M ∧ M ≤ 60 ∧ goodTk L E M = true) := by
  unfold goodTk
  by_cases h1 : 0 ≤ E <;> by_cases h2 : E ≤ L <;> by_cases h3 : L ≤ M <;> by_cases h4 : M ≤ 60 <;> simp [h1, h2, h3, h4]
theorem goodTk_out {L E M : Int} (h : goodTk L E M = true) : 0 ≤ E ∧ E ≤ L ∧ L ≤ M ∧ M ≤ 60 := by
  simpa [goodTk] using h
def allH (xs : List Int) : Bool := xs.all hourB
theorem allH_any (xs : List Int) : allH xs = !xs.any badH := by
  unfold allH
  induction xs with
  | nil => rfl
  | cons x xs ih => simp only [List.all_cons, List.any_cons, ih, badH]; cases hourB x <;> simp
theorem allH_append (xs ys : List Int) : allH (xs ++ ys) = (allH xs && allH ys) := by simp [allH]
theorem allH_out {xs : List Int} (h : allH xs = true) : ∀ j, j < xs.length → 0 ≤ xs.getD j 0 ∧ xs.getD j 0 ≤ 100 := by
  simp only [allH, List.all_eq_true] at h
  intro j hj
  have := h (xs.getD j 0) (by simp [List.getD_eq_getElem?_getD, hj])
  exact inB_out this
theorem allH_bad {xs : List Int} {k : Nat} (hk : k < xs.length) (h : hourB (xs.getD k 0) = false) : allH xs = false := by
  unfold allH
  rw [List.all_eq_false]
  exact ⟨xs.getD k 0, by simp [List.getD_eq_getElem?_getD, hk], by rw [h]; simp⟩
theorem allH_end {xs : List Int} (h : ∀ j, j < xs.length → hourB (xs.getD j 0) = true) : allH xs = true := by
  unfold allH
  rw [List.all_eq_true]
  intro x hx
  obtain ⟨j, hj, rfl⟩ := List.getElem_of_mem hx
  have := h j hj
  simpa [List.getD_eq_getElem?_getD, hj] using this
theorem allH_over {xs : List Int} (h : allH xs = true) : xs.any overP = false := by
  rw [List.any_eq_false]
  intro x hx
  simp only [allH, List.all_eq_true] at h
  have := inB_out (h x hx)
  simp [overP]; omega
/-- A valid day of a tank. -/
def dayB (L E M : Int) (xs ys : List Int) : Bool := goodTk L E M && (inB xs.length 1 12 && (decide (ys.length = xs.length) && (allH xs && allH ys)))
theorem dayB_ways (L E M : Int) (xs ys : List Int) :
    (goodTk L E M = false ∧ dayB L E M xs ys = false) ∨ (goodTk L E M = true ∧ inB xs.length 1 12 = false ∧ dayB L E M xs ys = false) ∨
    (goodTk L E M = true ∧ inB xs.length 1 12 = true ∧ ¬ ys.length = xs.length ∧ dayB L E M xs ys = false) ∨
    (goodTk L E M = true ∧ inB xs.length 1 12 = true ∧ ys.length = xs.length ∧ dayB L E M xs ys = (allH xs && allH ys)) := by
  unfold dayB
  cases goodTk L E M <;> cases inB xs.length 1 12 <;> by_cases h : ys.length = xs.length <;> simp [h]
/-- A valid pumping. -/
def goodPm (L E M P : Int) (xs ys : List Int) : Bool := inB P 0 10 && dayB L E M xs ys
theorem goodPm_out {L E M P : Int} {xs ys : List Int} (h : goodPm L E M P xs ys = true) :
    0 ≤ E ∧ E ≤ L ∧ L ≤ M ∧ M ≤ 60 ∧ 0 ≤ P ∧ P ≤ 10 ∧ 1 ≤ xs.length ∧ xs.length ≤ 12 ∧ ys.length = xs.length ∧ allH xs = true ∧ allH ys = true := by
  simp only [goodPm, dayB, Bool.and_eq_true, decide_eq_true_eq] at h
  obtain ⟨a, b, c, d, e, f⟩ := h
  have := inB_out a; have := goodTk_out b; have := inB_out c
  exact ⟨by omega, by omega, by omega, by omega, by omega, by omega, by omega, by omega, d, e, f⟩
theorem goodPm_ways (L E M P : Int) (xs ys : List Int) :
    (goodTk L E M = false ∧ goodPm L E M P xs ys = false) ∨ (goodTk L E M = true ∧ inB P 0 10 = false ∧ goodPm L E M P xs ys = false) ∨
    (goodTk L E M = true ∧ inB P 0 10 = true ∧ inB xs.length 1 12 = false ∧ goodPm L E M P xs ys = false) ∨
    (goodTk L E M = true ∧ inB P 0 10 = true ∧ inB xs.length 1 12 = true ∧ ¬ ys.length = xs.length ∧ goodPm L E M P xs ys = false) ∨
    (goodTk L E M = true ∧ inB P 0 10 = true ∧ inB xs.length 1 12 = true ∧ ys.length = xs.length ∧ goodPm L E M P xs ys = (allH xs && allH ys)) := by
  unfold goodPm dayB
  cases goodTk L E M <;> cases inB P 0 10 <;> cases inB xs.length 1 12 <;> by_cases h : ys.length = xs.length <;> simp [h]
end Go.Proofs.Ytofcienabddpjaa

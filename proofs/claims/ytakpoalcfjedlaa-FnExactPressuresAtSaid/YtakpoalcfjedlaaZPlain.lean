/- Plain: places, rules, levels. -/
import Derived.Test.YtakpoalcfjedlaaPlain
namespace Go.Proofs.Ytakpoalcfjedlaa
/-- A list of valid elevations. -/
def goodL (xs : List Int) : Bool := decide (xs.length ≤ 12) && xs.all fun x => inB x 0 1000
def badE (x : Int) : Bool := !inB x 0 1000
theorem goodL_out {xs : List Int} (h : goodL xs = true) : xs.length ≤ 12 ∧ ∀ j, j < xs.length → 0 ≤ xs.getD j 0 ∧ xs.getD j 0 ≤ 1000 := by
  simp only [goodL, Bool.and_eq_true, decide_eq_true_eq, List.all_eq_true] at h
  refine ⟨h.1, fun j hj => ?_⟩
  have := h.2 (xs.getD j 0) (by simp [List.getD_eq_getElem?_getD, hj])
  exact inB_out this
theorem goodL_of_any {xs : List Int} : goodL xs = (decide (xs.length ≤ 12) && !xs.any badE) := by
  have e : (xs.all fun x => inB x 0 1000) = !xs.any badE := by
    induction xs with
    | nil => rfl
    | cons x xs ih => simp only [List.all_cons, List.any_cons, ih, badE]; cases inB x 0 1000 <;> simp
  unfold goodL; rw [e]
theorem goodL_bad {xs : List Int} {k : Nat} (hk : k < xs.length) (h : inB (xs.getD k 0) 0 1000 = false) : goodL xs = false := by
  have : (xs.all fun x => inB x 0 1000) = false := by
    rw [List.all_eq_false]
    exact ⟨xs.getD k 0, by simp [List.getD_eq_getElem?_getD, hk], by rw [h]; simp⟩
  unfold goodL; rw [this, Bool.and_false]
theorem goodL_end {xs : List Int} (h : ∀ j, j < xs.length → inB (xs.getD j 0) 0 1000 = true) : goodL xs = decide (xs.length ≤ 12) := by
  have : (xs.all fun x => inB x 0 1000) = true := by
    rw [List.all_eq_true]
    intro x hx
    obtain ⟨j, hj, rfl⟩ := List.getElem_of_mem hx
    have := h j hj
    simpa [List.getD_eq_getElem?_getD, hj] using this
  unfold goodL; rw [this, Bool.and_true]

theorem take_snoc_map {f : Int → Int} {xs : List Int} {k : Nat} {x : Int} (hk : k < xs.length) (hx : x = xs.getD k 0) : (xs.take k).map f ++ [f x] = (xs.take (k + 1)).map f := by
  rw [List.take_succ_eq_append_getElem hk, List.map_append, hx]
  simp [List.getD_eq_getElem?_getD, hk]
/-- The pressures at a level. -/
def presL (xs : List Int) (l : Int) : List Int × Bool := if goodL xs = true ∧ inB l 0 2000 = true then (xs.map (l - ·), true) else ([], false)
theorem presL_yes {xs : List Int} {l : Int} (h1 : goodL xs = true) (h2 : inB l 0 2000 = true) : presL xs l = (xs.map (l - ·), true) := by unfold presL; rw [if_pos ⟨h1, h2⟩]
theorem presL_no {xs : List Int} {l : Int} (h : goodL xs = false ∨ inB l 0 2000 = false) : presL xs l = ([], false) := by
  unfold presL; rw [if_neg]; rintro ⟨a, b⟩; rw [a, b] at h; simp at h
theorem presL_len (xs : List Int) (l : Int) {n : Nat} (h : xs.length ≤ n) : (presL xs l).1.length ≤ n := by
  unfold presL; split <;> simp [h]
end Go.Proofs.Ytakpoalcfjedlaa

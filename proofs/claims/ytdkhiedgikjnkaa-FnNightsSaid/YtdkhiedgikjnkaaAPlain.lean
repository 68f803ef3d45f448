/- Plain: areas and flows. -/
import Derived.Test.YtdkhiedgikjnkaaPlain
namespace Go.Proofs.Ytdkhiedgikjnkaa
def okF (x : Int) : Bool := inB x 0 1000000
def badF (x : Int) : Bool := !okF x
def goodF (xs : List Int) : Bool := xs.all okF
theorem goodF_any (xs : List Int) : goodF xs = !xs.any badF := by
  unfold goodF
  induction xs with
  | nil => rfl
  | cons x xs ih => simp only [List.all_cons, List.any_cons, ih, badF]; cases okF x <;> simp
theorem goodF_out {xs : List Int} (h : goodF xs = true) : ∀ j, j < xs.length → 0 ≤ xs.getD j 0 ∧ xs.getD j 0 ≤ 1000000 := by
  simp only [goodF, List.all_eq_true] at h
  intro j hj
  have := h (xs.getD j 0) (by simp [List.getD_eq_getElem?_getD, hj])
  exact inB_out this
theorem goodF_bad {xs : List Int} {k : Nat} (hk : k < xs.length) (h : okF (xs.getD k 0) = false) : goodF xs = false := by
  unfold goodF
  rw [List.all_eq_false]
  exact ⟨xs.getD k 0, by simp [List.getD_eq_getElem?_getD, hk], by rw [h]; simp⟩
theorem goodF_end {xs : List Int} (h : ∀ j, j < xs.length → okF (xs.getD j 0) = true) : goodF xs = true := by
  unfold goodF
  rw [List.all_eq_true]
  intro x hx
  obtain ⟨j, hj, rfl⟩ := List.getElem_of_mem hx
  have := h j hj
  simpa [List.getD_eq_getElem?_getD, hj] using this
/-- A valid area. -/
def goodA (I H : Int) (xs : List Int) : Bool := inB I 1 99 && inB H 1 10000 && inB xs.length 1 14 && goodF xs
theorem goodA_out {I H : Int} {xs : List Int} (h : goodA I H xs = true) : 1 ≤ I ∧ I ≤ 99 ∧ 1 ≤ H ∧ H ≤ 10000 ∧ 1 ≤ xs.length ∧ xs.length ≤ 14 ∧ goodF xs = true := by
  simp only [goodA, Bool.and_eq_true] at h
  obtain ⟨⟨⟨a, b⟩, c⟩, d⟩ := h
  have := inB_out a; have := inB_out b; have := inB_out c
  exact ⟨by omega, by omega, by omega, by omega, by omega, by omega, d⟩
theorem goodA_ways (I H : Int) (xs : List Int) :
    (inB I 1 99 = false ∧ goodA I H xs = false) ∨ (inB I 1 99 = true ∧ inB H 1 10000 = false ∧ goodA I H xs = false) ∨
    (inB I 1 99 = true ∧ inB H 1 10000 = true ∧ inB xs.length 1 14 = false ∧ goodA I H xs = false) ∨
    (inB I 1 99 = true ∧ inB H 1 10000 = true ∧ inB xs.length 1 14 = true ∧ goodA I H xs = goodF xs) := by
  unfold goodA
  cases inB I 1 99 <;> cases inB H 1 10000 <;> cases inB xs.length 1 14 <;> simp
end Go.Proofs.Ytdkhiedgikjnkaa

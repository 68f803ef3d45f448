/- Plain: parcels joined with the last one of the same grade. -/
import Derived.Test.YtjpijcmfnckmaaaPMore
namespace Go.Proofs.Ytjpijcmfnckmaaa
/-- The last parcel of a list. -/
def lastP (xs : List (Int × Int)) : Int × Int := xs.getD (xs.length - 1) (0, 0)
/-- A parcel put behind a list, joined with the last one of the same grade. -/
def addP (xs : List (Int × Int)) (p : Int × Int) : List (Int × Int) :=
  if p.1 = 0 then xs else if 0 < xs.length ∧ (lastP xs).2 = p.2 then xs.take (xs.length - 1) ++ [((lastP xs).1 + p.1, p.2)] else xs ++ [p]
theorem addP_none {xs : List (Int × Int)} {p : Int × Int} (h : p.1 = 0) : addP xs p = xs := by simp [addP, h]
theorem addP_first {x y : Int} (h : x ≠ 0) : addP [] (x, y) = [] ++ [(x, y)] := by simp [addP, h]
theorem addP_other {xs : List (Int × Int)} {m : Nat} {V G x y : Int} (h : x ≠ 0) (hl : xs.length = m + 1) (hV : (V, G) = xs.getD m (0, 0)) (hg : G ≠ y) : addP xs (x, y) = xs ++ [(x, y)] := by
  have e : lastP xs = (V, G) := by unfold lastP; rw [hl, Nat.add_sub_cancel, ← hV]
  simp [addP, h, e, hg]
theorem addP_same {xs : List (Int × Int)} {m : Nat} {V x y : Int} (h : x ≠ 0) (hl : xs.length = m + 1) (hV : (V, y) = xs.getD m (0, 0)) : addP xs (x, y) = xs.take m ++ [(V + x, y)] := by
  have e : lastP xs = (V, y) := by unfold lastP; rw [hl, Nat.add_sub_cancel, ← hV]
  simp [addP, h, e, hl]
theorem set_last {xs : List (Int × Int)} {m : Nat} {p : Int × Int} (hl : xs.length = m + 1) : xs.set m p = xs.take m ++ [p] := by
  rw [List.set_eq_take_append_cons_drop, if_pos (by omega), List.drop_eq_nil_of_le (by omega)]
/-- Volumes from 0 to m. -/
def bnd (xs : List (Int × Int)) (m : Int) : Prop := ∀ q ∈ xs, 0 ≤ q.1 ∧ q.1 ≤ m
theorem bnd_nil (m : Int) : bnd [] m := fun _ h => by cases h
theorem bnd_at {xs : List (Int × Int)} {m : Int} (h : bnd xs m) {k : Nat} {x y : Int} (hk : k < xs.length) (hx : (x, y) = xs.getD k (0, 0)) : 0 ≤ x ∧ x ≤ m := by
  have := h (xs.getD k (0, 0)) (by simp [List.getD_eq_getElem?_getD, hk])
  rw [← hx] at this
  exact this
theorem bnd_add {xs : List (Int × Int)} {m : Int} {p : Int × Int} (h : bnd xs m) (hm : 0 ≤ m) (h0 : 0 ≤ p.1) (h1 : p.1 ≤ 1000) : bnd (addP xs p) (m + 1000) := by
  intro q hq
  unfold addP at hq
  split at hq
  · have := h q hq; omega
  · split at hq
    · rename_i hl
      rcases List.mem_append.1 hq with hq | hq
      · have := h q (List.mem_of_mem_take hq); omega
      · simp at hq; subst hq
        have := h (lastP xs) (by unfold lastP; simp [List.getD_eq_getElem?_getD, show xs.length - 1 < xs.length by omega])
        simp only
        omega
    · rcases List.mem_append.1 hq with hq | hq
      · have := h q hq; omega
      · simp at hq; subst hq; omega
theorem addP_len (xs : List (Int × Int)) (p : Int × Int) : (addP xs p).length ≤ xs.length + 1 := by
  unfold addP; split
  · omega
  · split
    · first | (simp; done) | (simp; omega)
    · simp
/-- The first k parcels, joined. -/
def joinT (xs : List (Int × Int)) : Nat → List (Int × Int)
  | 0 => []
  | k + 1 => addP (joinT xs k) (xs.getD k (0, 0))
theorem joinT_succ {xs : List (Int × Int)} {k : Nat} {x y : Int} (hx : (x, y) = xs.getD k (0, 0)) : joinT xs (k + 1) = addP (joinT xs k) (x, y) := by rw [joinT, ← hx]
theorem joinT_len (xs : List (Int × Int)) : ∀ k, (joinT xs k).length ≤ k
  | 0 => by simp [joinT]
  | k + 1 => by have a := joinT_len xs k; have b := addP_len (joinT xs k) (xs.getD k (0, 0)); unfold joinT; omega
theorem joinT_bnd {xs : List (Int × Int)} (h : bnd xs 1000) : ∀ k : Nat, k ≤ xs.length → bnd (joinT xs k) (1000 * k)
  | 0, _ => bnd_nil _
  | k + 1, hk => by
    have a := joinT_bnd h k (by omega)
    have b := h (xs.getD k (0, 0)) (by simp [List.getD_eq_getElem?_getD, show k < xs.length by omega])
    have c := bnd_add a (by omega) b.1 b.2
    have e : (1000 : Int) * ((k + 1 : Nat) : Int) = 1000 * k + 1000 := by omega
    rw [e]
    exact c
theorem bnd_good {xs : List (Int × Int)} (h : allAt xs = true) : bnd xs 1000 := by
  intro q hq
  obtain ⟨j, hj, rfl⟩ := List.getElem_of_mem hq
  have := okAt_out (allAt_out h hj)
  simp only [List.getD_eq_getElem?_getD, List.getElem?_eq_getElem hj, Option.getD_some] at this
  omega
end Go.Proofs.Ytjpijcmfnckmaaa

/- Plain: places, rules, levels. -/
import Derived.Test.YtakpoalcfjedlaaPlain
namespace Go.Proofs.Ytakpoalcfjedlaa
/-- A list of valid elevations. -/
def goodL (xs : List Int) : Bool := decide (xs.length ≤ 12) && xs.all fun x => inB x 0 1000
def badE (x : Int) : Bool := !inB x 0 1000
theorem goodL_out {xs : List Int} (h : goodL xs = true) : xs.length ≤ 12 ∧ ∀ j, j < xs.length → 0 ≤ xs.getD j 0 ∧ xs.getD j 0 ≤ 1000 := by
  simp only [goodL, Bool.and_eq_true, decide_eq_true_eq, List.all_eq_true] at h
  refine ⟨h.1, fun j hj => ?_⟩
  have := h.2 (xs.getD j 0) (by simp [List.getD_eq_getElem?_getD, hj])
  exact inB_out this
theorem goodL_of_any {xs : List Int} : goodL xs = (decide (xs.length ≤ 12) && !xs.any badE) := by
  have e : (xs.all fun x => inB x 0 1000) = !xs.any badE := by
    induction xs with
    | nil => rfl
    | cons x xs ih => simp only [List.all_cons, List.any_cons, ih, badE]; cases inB x 0 1000 <;> simp
  unfold goodL; rw [e]
theorem goodL_bad {xs : List Int} {k : Nat} (hk : k < xs.length) (h : inB (xs.getD k 0) 0 1000 = false) : goodL xs = false := by
  have : (xs.all fun x => inB x 0 1000) = false := by
    rw [List.all_eq_false]
    exact ⟨xs.getD k 0, by simp [List.getD_eq_getElem?_getD, hk], by rw [h]; simp⟩
  unfold goodL; rw [this, Bool.and_false]
theorem goodL_end {xs : List Int} (h : ∀ j, j < xs.length → inB (xs.getD j 0) 0 1000 = true) : goodL xs = decide (xs.length ≤ 12) := by
  have : (xs.all fun x => inB x 0 1000) = true := by
    rw [List.all_eq_true]
    intro x hx
    obtain ⟨j, hj, rfl⟩ := List.getElem_of_mem hx
    have := h j hj
    simpa [List.getD_eq_getElem?_getD, hj] using this
  unfold goodL; rw [this, Bool.and_true]

theorem take_snoc_map {f : Int → Int} {xs : List Int} {k : Nat} {x : Int} (hk : k < xs.length) (hx : x = xs.getD k 0) : (xs.take k).map f ++ [f x] = (xs.take (k + 1)).map f := by
  rw [List.take_succ_eq_append_getElem hk, List.map_append, hx]
  simp [List.getD_eq_getElem?_getD, hk]
/-- The pressures at a level. -/
def presL (xs : List Int) (l : Int) : List Int × Bool := if goodL xs = true ∧ inB l 0 2000 = true then (xs.map (l - ·), true) else ([], false)
theorem presL_yes {xs : List Int} {l : Int} (h1 : goodL xs = true) (h2 : inB l 0 2000 = true) : presL xs l = (xs.map (l - ·), true) := by unfold presL; rw [if_pos ⟨h1, h2⟩]
theorem presL_no {xs : List Int} {l : Int} (h : goodL xs = false ∨ inB l 0 2000 = false) : presL xs l = ([], false) := by
  unfold presL; rw [if_neg]; rintro ⟨a, b⟩; rw [a, b] at h; simp at h
theorem presL_len (xs : List Int) (l : Int) {n : Nat} (h : xs.length ≤ n) : (presL xs l).1.length ≤ n := by
  unfold presL; split <;> simp [h]

/-- Places, raised. -/
def raiseL (xs : List Int) (m : Int) : List Int × Bool := if goodL xs = true ∧ inB m (-1000) 1000 = true ∧ goodL (xs.map (· + m)) = true then (xs.map (· + m), true) else ([], false)
theorem raiseL_yes {xs : List Int} {m : Int} (h1 : goodL xs = true) (h2 : inB m (-1000) 1000 = true) (h3 : goodL (xs.map (· + m)) = true) : raiseL xs m = (xs.map (· + m), true) := by unfold raiseL; rw [if_pos ⟨h1, h2, h3⟩]
theorem raiseL_no {xs : List Int} {m : Int} (h : goodL xs = false ∨ inB m (-1000) 1000 = false ∨ goodL (xs.map (· + m)) = false) : raiseL xs m = ([], false) := by
  unfold raiseL; rw [if_neg]; rintro ⟨a, b, c⟩; rw [a, b, c] at h; simp at h
theorem raiseL_len (xs : List Int) (m : Int) {n : Nat} (h : xs.length ≤ n) : (raiseL xs m).1.length ≤ n := by
  unfold raiseL; split <;> simp [h]

/-- A valid rule. -/
def goodR (L M : Int) : Bool := decide (1 ≤ L) && decide (L ≤ M) && decide (M ≤ 200)
theorem goodR_out {L M : Int} (h : goodR L M = true) : 1 ≤ L ∧ L ≤ M ∧ M ≤ 200 := by
  simp only [goodR, Bool.and_eq_true, decide_eq_true_eq] at h
  exact ⟨h.1.1, h.1.2, h.2⟩
def goodZ (xs : List Int) (L M : Int) : Bool := goodL xs && goodR L M
/-- The places (as indices) among the first k that P takes. -/
def suitK (P : Int → Bool) (xs : List Int) (k : Nat) : List Int := ((List.range k).filter fun i => P (xs.getD i 0)).map fun (i : Nat) => (i : Int)
theorem suitK_zero (P : Int → Bool) (xs : List Int) : suitK P xs 0 = [] := rfl
theorem suitK_yes {P : Int → Bool} {xs : List Int} {k : Nat} {x : Int} (hx : x = xs.getD k 0) (h : P x = true) : suitK P xs (k + 1) = suitK P xs k ++ [(k : Int)] := by
  subst hx
  unfold suitK; rw [List.range_succ, List.filter_append, List.map_append, List.filter_cons, h]; simp
theorem suitK_no {P : Int → Bool} {xs : List Int} {k : Nat} {x : Int} (hx : x = xs.getD k 0) (h : P x = false) : suitK P xs (k + 1) = suitK P xs k := by
  subst hx
  unfold suitK; rw [List.range_succ, List.filter_append, List.map_append, List.filter_cons, h]; simp
theorem suitK_len (P : Int → Bool) (xs : List Int) (k : Nat) : (suitK P xs k).length ≤ k := by
  unfold suitK; rw [List.length_map]; exact Nat.le_trans (List.length_filter_le _ _) (by simp)
/-- The places that a level suits. -/
def suitP (L M l : Int) (e : Int) : Bool := inB (l - e) L M
def suitedL (xs : List Int) (L M l : Int) : List Int := suitK (suitP L M l) xs xs.length
def suitL (xs : List Int) (L M l : Int) : List Int × Bool := if goodZ xs L M = true ∧ inB l 0 2000 = true then (suitedL xs L M l, true) else ([], false)
theorem suitL_yes {xs : List Int} {L M l : Int} (h1 : goodZ xs L M = true) (h2 : inB l 0 2000 = true) : suitL xs L M l = (suitedL xs L M l, true) := by unfold suitL; rw [if_pos ⟨h1, h2⟩]
theorem suitL_no {xs : List Int} {L M l : Int} (h : goodZ xs L M = false ∨ inB l 0 2000 = false) : suitL xs L M l = ([], false) := by
  unfold suitL; rw [if_neg]; rintro ⟨a, b⟩; rw [a, b] at h; simp at h
theorem suitL_len (xs : List Int) (L M l : Int) {n : Nat} (h : xs.length ≤ n) : (suitL xs L M l).1.length ≤ n := by
  unfold suitL; split
  · exact Nat.le_trans (suitK_len _ _ _) h
  · simp

/-- The best of the first k levels, and how many places it suits. -/
def bstK (xs : List Int) (L M : Int) : Nat → Int × Int
  | 0 => (0, 0)
  | k + 1 => if (bstK xs L M k).2 < ((suitedL xs L M k).length : Int) then ((k : Int), ((suitedL xs L M k).length : Int)) else bstK xs L M k
theorem bstK_yes {xs : List Int} {L M : Int} {k : Nat} (h : (bstK xs L M k).2 < ((suitedL xs L M k).length : Int)) : bstK xs L M (k + 1) = ((k : Int), ((suitedL xs L M k).length : Int)) := by rw [bstK, if_pos h]
theorem bstK_no {xs : List Int} {L M : Int} {k : Nat} (h : ¬ (bstK xs L M k).2 < ((suitedL xs L M k).length : Int)) : bstK xs L M (k + 1) = bstK xs L M k := by rw [bstK, if_neg h]
theorem bstK_one (xs : List Int) (L M : Int) : bstK xs L M 1 = (0, ((suitedL xs L M ((0 : Nat) : Int)).length : Int)) := by
  rw [bstK]
  split
  · rfl
  · rename_i h
    simp only [bstK] at h ⊢
    congr 1; omega
def bestL (xs : List Int) (L M : Int) : Int × Int × Bool := if goodZ xs L M = true then ((bstK xs L M 2001).1, (bstK xs L M 2001).2, true) else (0, 0, false)
theorem bestL_yes {xs : List Int} {L M : Int} {N : Nat} (hN : N = 2001) (h : goodZ xs L M = true) : bestL xs L M = ((bstK xs L M N).1, (bstK xs L M N).2, true) := by unfold bestL; rw [if_pos h, hN]
theorem bestL_no {xs : List Int} {L M : Int} (h : goodZ xs L M = false) : bestL xs L M = (0, 0, false) := by unfold bestL; rw [if_neg (by simp [h])]

/-- The greatest and the smallest of the first k + 1 elements. -/
def mxK (xs : List Int) : Nat → Int
  | 0 => xs.getD 0 0
  | k + 1 => if mxK xs k < xs.getD (k + 1) 0 then xs.getD (k + 1) 0 else mxK xs k
def mnK (xs : List Int) : Nat → Int
  | 0 => xs.getD 0 0
  | k + 1 => if xs.getD (k + 1) 0 < mnK xs k then xs.getD (k + 1) 0 else mnK xs k
theorem mxK_b {xs : List Int} {a b : Int} (h : ∀ j, j < xs.length → a ≤ xs.getD j 0 ∧ xs.getD j 0 ≤ b) : ∀ k, k < xs.length → a ≤ mxK xs k ∧ mxK xs k ≤ b
  | 0, hk => h 0 hk
  | k + 1, hk => by
    have i1 := mxK_b h k (by omega); have i2 := h (k + 1) hk
    rw [mxK]; split <;> omega
theorem mnK_b {xs : List Int} {a b : Int} (h : ∀ j, j < xs.length → a ≤ xs.getD j 0 ∧ xs.getD j 0 ≤ b) : ∀ k, k < xs.length → a ≤ mnK xs k ∧ mnK xs k ≤ b
  | 0, hk => h 0 hk
  | k + 1, hk => by
    have i1 := mnK_b h k (by omega); have i2 := h (k + 1) hk
    rw [mnK]; split <;> omega
/-- The lowest and the highest level after k places, as the reference reckons them. -/
def lowK (xs : List Int) (L : Int) : Nat → Int
  | 0 => 0
  | k + 1 => maxI (lowK xs L k) (xs.getD k 0 + L)
def highK (xs : List Int) (M : Int) : Nat → Int
  | 0 => 2000
  | k + 1 => minI (highK xs M k) (xs.getD k 0 + M)
theorem lowK_eq {xs : List Int} {L : Int} (hL : 0 ≤ L) (h : ∀ j, j < xs.length → 0 ≤ xs.getD j 0 ∧ xs.getD j 0 ≤ 1000) : ∀ k, k < xs.length → lowK xs L (k + 1) = mxK xs k + L
  | 0, hk => by
    have := h 0 hk
    show maxI 0 (xs.getD 0 0 + L) = xs.getD 0 0 + L
    exact maxI_le (by omega)
  | k + 1, hk => by
    rw [lowK, lowK_eq hL h k (by omega), mxK]
    unfold maxI; split <;> split <;> omega
theorem highK_eq {xs : List Int} {M : Int} (hM : M ≤ 1000) (h : ∀ j, j < xs.length → 0 ≤ xs.getD j 0 ∧ xs.getD j 0 ≤ 1000) : ∀ k, k < xs.length → highK xs M (k + 1) = mnK xs k + M
  | 0, hk => by
    have := h 0 hk
    show minI 2000 (xs.getD 0 0 + M) = xs.getD 0 0 + M
    exact minI_ge (by omega)
  | k + 1, hk => by
    rw [highK, highK_eq hM h k (by omega), mnK]
    unfold minI; split <;> split <;> omega
theorem lowK_b {xs : List Int} {L : Int} (hL : 0 ≤ L) (hL2 : L ≤ 1000) (h : ∀ j, j < xs.length → 0 ≤ xs.getD j 0 ∧ xs.getD j 0 ≤ 1000) (k : Nat) (hk : k ≤ xs.length) : 0 ≤ lowK xs L k ∧ lowK xs L k ≤ 2000 := by
  cases k with
  | zero => simp [lowK]
  | succ k =>
    have := mxK_b h k (by omega)
    rw [lowK_eq hL h k (by omega)]; omega
theorem highK_b {xs : List Int} {M : Int} (hM0 : 0 ≤ M) (hM : M ≤ 1000) (h : ∀ j, j < xs.length → 0 ≤ xs.getD j 0 ∧ xs.getD j 0 ≤ 1000) (k : Nat) (hk : k ≤ xs.length) : 0 ≤ highK xs M k ∧ highK xs M k ≤ 2000 := by
  cases k with
  | zero => simp [highK]
  | succ k =>
    have := mnK_b h k (by omega)
    rw [highK_eq hM h k (by omega)]; omega
def levL (xs : List Int) (L M : Int) : Int × Int × Bool :=
  if goodZ xs L M = true ∧ xs.length ≠ 0 then (if mnK xs (xs.length - 1) + M < mxK xs (xs.length - 1) + L then (0, 0, false) else (mxK xs (xs.length - 1) + L, mnK xs (xs.length - 1) + M, true)) else (0, 0, false)
theorem levL_no {xs : List Int} {L M : Int} (h : goodZ xs L M = false ∨ xs.length = 0) : levL xs L M = (0, 0, false) := by
  unfold levL; rw [if_neg]; rintro ⟨a, b⟩; rw [a] at h; simp at h; exact b (by simp [h])
theorem levL_out {xs : List Int} {L M : Int} (h : goodZ xs L M = true) (h0 : xs.length ≠ 0) (h1 : mnK xs (xs.length - 1) + M < mxK xs (xs.length - 1) + L) : levL xs L M = (0, 0, false) := by
  unfold levL; rw [if_pos ⟨h, h0⟩, if_pos h1]
theorem levL_yes {xs : List Int} {L M : Int} (h : goodZ xs L M = true) (h0 : xs.length ≠ 0) (h1 : ¬ mnK xs (xs.length - 1) + M < mxK xs (xs.length - 1) + L) : levL xs L M = (mxK xs (xs.length - 1) + L, mnK xs (xs.length - 1) + M, true) := by
  unfold levL; rw [if_pos ⟨h, h0⟩, if_neg h1]
end Go.Proofs.Ytakpoalcfjedlaa

/- Plain: the order of repairs. -/
import Derived.Test.YtdkhiedgikjnkaaALost
namespace Go.Proofs.Ytdkhiedgikjnkaa
/-- i before k. -/
def lessR (ls hs : List Int) (i k : Int) : Bool := decide (ls.getD k.toNat 0 * hs.getD i.toNat 0 < ls.getD i.toNat 0 * hs.getD k.toNat 0)
/-- Where i comes to stand among the first j. -/
def posR (ls hs : List Int) (f : Nat → Int) (i : Nat) : Nat → Nat
  | 0 => 0
  | j + 1 => if lessR ls hs i (f j) = true then posR ls hs f i j else j + 1
theorem posR_le (ls hs : List Int) (f : Nat → Int) (i : Nat) : ∀ j, posR ls hs f i j ≤ j
  | 0 => by rw [posR]; omega
  | j + 1 => by
    have := posR_le ls hs f i j
    rw [posR]
    split <;> omega
/-- i taken out of its place and put at j. -/
def putR (f : Nat → Int) (i j q : Nat) : Int := if q < j then f q else if q = j then (i : Int) else if q ≤ i then f (q - 1) else (q : Int)
/-- The first i, ordered; what follows, as it was. -/
def ordR (ls hs : List Int) : Nat → Nat → Int
  | 0 => fun q => q
  | i + 1 => putR (ordR ls hs i) i (posR ls hs (ordR ls hs i) i i)
theorem ordR_hi (ls hs : List Int) : ∀ i q, i ≤ q → ordR ls hs i q = (q : Int)
  | 0, q, _ => rfl
  | i + 1, q, h => by
    have := posR_le ls hs (ordR ls hs i) i i
    rw [ordR, putR, if_neg (by omega), if_neg (by omega), if_neg (by omega)]
theorem putR_b {f : Nat → Int} {n i j : Nat} (hi : i < n) (hf : ∀ q, q < n → 0 ≤ f q ∧ f q < n) : ∀ q, q < n → 0 ≤ putR f i j q ∧ putR f i j q < n := fun q hq => by
  have a := hf q hq
  have b := hf (q - 1) (by omega)
  unfold putR
  split
  · exact a
  · split
    · omega
    · split
      · exact b
      · omega
theorem ordR_b (ls hs : List Int) {n : Nat} : ∀ i, i ≤ n → ∀ q, q < n → 0 ≤ ordR ls hs i q ∧ ordR ls hs i q < n
  | 0, _, q, hq => ⟨Int.natCast_nonneg q, Int.ofNat_lt.2 hq⟩
  | i + 1, hi, q, hq => by
    rw [ordR]
    exact putR_b (by omega) (ordR_b ls hs i (by omega)) q hq
theorem putR_self {f : Nat → Int} {i : Nat} (h : ∀ q, i ≤ q → f q = (q : Int)) (q : Nat) : putR f i i q = f q := by
  unfold putR
  split
  · rfl
  · split
    · rename_i e; rw [h q (by omega), e]
    · rw [if_neg (by omega), h q (by omega)]
theorem putR_at (f : Nat → Int) (i j : Nat) : putR f i j j = (i : Int) := by unfold putR; rw [if_neg (by omega), if_pos rfl]
theorem putR_lo (f : Nat → Int) {i j q : Nat} (h : q < j) : putR f i j q = f q := by unfold putR; rw [if_pos h]
/-- A swap. -/
theorem putR_swap (f : Nat → Int) {i j : Nat} (hj : j + 1 ≤ i) (q : Nat) : putR f i j q = if q = j then (i : Int) else if q = j + 1 then f j else putR f i (j + 1) q := by
  unfold putR
  by_cases a : q < j
  · rw [if_pos a, if_neg (by omega), if_neg (by omega), if_pos (by omega)]
  · by_cases b : q = j
    · subst b
      rw [if_neg a, if_pos rfl, if_pos rfl]
    · by_cases c : q = j + 1
      · subst c
        rw [if_neg a, if_neg b, if_pos hj, if_neg b, if_pos rfl]; rfl
      · rw [if_neg a, if_neg b, if_neg b, if_neg c, if_neg (show ¬ q < j + 1 by omega), if_neg c]
/-- The values of a function, in a row. -/
def rowR (f : Nat → Int) (n : Nat) : List Int := (List.range n).map f
theorem rowR_len (f : Nat → Int) (n : Nat) : (rowR f n).length = n := by simp [rowR]
theorem rowR_get (f : Nat → Int) {n k : Nat} (h : k < n) : (rowR f n).getD k 0 = f k := by simp [rowR, List.getD_eq_getElem?_getD, h]
theorem rowR_congr {f g : Nat → Int} {n : Nat} (h : ∀ q, q < n → f q = g q) : rowR f n = rowR g n := by
  unfold rowR
  exact List.map_congr_left fun q hq => h q (List.mem_range.1 hq)
theorem rowR_succ (f : Nat → Int) (n : Nat) : rowR f (n + 1) = rowR f n ++ [f n] := by simp [rowR, List.range_succ]
theorem rowR_set (f : Nat → Int) (n k : Nat) (v : Int) : (rowR f n).set k v = rowR (fun q => if q = k then v else f q) n := by
  apply List.ext_getElem (by simp [rowR])
  intro q h1 h2
  simp only [rowR, List.getElem_set, List.getElem_map, List.getElem_range]
  by_cases e : k = q
  · subst e; simp
  · rw [if_neg e, if_neg (by omega)]
theorem rowR_take (f : Nat → Int) {n k : Nat} (h : k ≤ n) : (rowR f n).take k = rowR f k := by
  unfold rowR
  rw [← List.map_take, List.take_range, Nat.min_eq_left h]
theorem rowR_swap (f : Nat → Int) {i j n : Nat} (hj : j + 1 ≤ i) : ((rowR (putR f i (j + 1)) n).set (j + 1) (f j)).set j (i : Int) = rowR (putR f i j) n := by
  rw [rowR_set, rowR_set]
  refine rowR_congr fun q _ => ?_
  rw [putR_swap f hj]
/-- An insertion, as the reference writes it. -/
theorem rowR_ins (f : Nat → Int) {i k : Nat} (hk : k ≤ i) : (rowR f i).take k ++ [(i : Int)] ++ (rowR f i).drop k = rowR (putR f i k) (i + 1) := by
  apply List.ext_getElem
  · simp [rowR]; omega
  · intro q h1 h2
    simp only [rowR, List.getElem_map, List.getElem_range]
    rw [rowR_len] at h2
    by_cases a : q < k
    · rw [List.getElem_append_left (by simp; omega), List.getElem_append_left (by simp; omega)]
      simp [putR, a]
    · by_cases b : q = k
      · subst b
        rw [List.getElem_append_left (by simp; omega), List.getElem_append_right (by simp; omega)]
        simp [putR]
      · rw [List.getElem_append_right (by simp; omega)]
        simp only [List.getElem_drop, List.getElem_map, List.getElem_range, putR, if_neg a, if_neg b, if_pos (show q ≤ i by omega)]
        congr 1
        simp
        omega
/-- The order that is returned. -/
def repO (ls hs : List Int) : List Int × Bool := if repG ls hs = true then (rowR (ordR ls hs ls.length) ls.length, true) else ([], false)
theorem repO_no {ls hs : List Int} (h : repG ls hs = false) : repO ls hs = ([], false) := by unfold repO; rw [if_neg (by rw [h]; decide)]
theorem repO_yes {ls hs : List Int} (h : repG ls hs = true) : repO ls hs = (rowR (ordR ls hs ls.length) ls.length, true) := by unfold repO; rw [if_pos h]
theorem repO_len (ls hs : List Int) : (repO ls hs).1.length ≤ ls.length := by
  unfold repO; split
  · rw [rowR_len]; exact Nat.le_refl _
  · simp
end Go.Proofs.Ytdkhiedgikjnkaa

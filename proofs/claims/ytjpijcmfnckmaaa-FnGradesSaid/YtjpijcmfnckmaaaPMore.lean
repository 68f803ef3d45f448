/- Plain: what the functions on pipefuls answer. -/
import Derived.Test.YtjpijcmfnckmaaaPPlain
namespace Go.Proofs.Ytjpijcmfnckmaaa
theorem drop_xy {xs : List (Int × Int)} {k : Nat} {x y : Int} (hk : k < xs.length) (hx : (x, y) = xs.getD k (0, 0)) : xs.drop k = (x, y) :: xs.drop (k + 1) := by
  rw [List.drop_eq_getElem_cons hk, hx]
  simp [List.getD_eq_getElem?_getD, hk]
def volR (xs : List (Int × Int)) : Int × Int × Bool := if goodPs xs then (sumV xs xs.length, sumM xs xs.length, true) else (0, 0, false)
theorem volR_no {xs : List (Int × Int)} (h : goodPs xs = false) : volR xs = (0, 0, false) := by simp [volR, h]
theorem volR_yes {xs : List (Int × Int)} (h : goodPs xs = true) : volR xs = (sumV xs xs.length, sumM xs xs.length, true) := by simp [volR, h]
def meanPR (xs : List (Int × Int)) : Int × Int × Bool := if goodPs xs then (rN (sumM xs xs.length) (sumV xs xs.length), rD (sumM xs xs.length) (sumV xs xs.length), true) else (0, 0, false)
theorem meanPR_no {xs : List (Int × Int)} (h : goodPs xs = false) : meanPR xs = (0, 0, false) := by simp [meanPR, h]
theorem meanPR_yes {xs : List (Int × Int)} (h : goodPs xs = true) : meanPR xs = (rN (sumM xs xs.length) (sumV xs xs.length), rD (sumM xs xs.length) (sumV xs xs.length), true) := by simp [meanPR, h]
/-- The grade at a place. -/
def gradeF : List (Int × Int) → Int → Int × Bool
  | [], _ => (0, false)
  | p :: ps, a => if a < p.1 then (p.2, true) else gradeF ps (a - p.1)
def gradeR (xs : List (Int × Int)) (a : Int) : Int × Bool := if goodPs xs && decide (0 ≤ a) then gradeF xs a else (0, false)
theorem gradeR_no {xs : List (Int × Int)} {a : Int} (h : goodPs xs = false) : gradeR xs a = (0, false) := by simp [gradeR, h]
theorem gradeR_neg {xs : List (Int × Int)} {a : Int} (h : a < 0) : gradeR xs a = (0, false) := by
  have : ¬ 0 ≤ a := by omega
  simp [gradeR, this]
theorem gradeR_yes {xs : List (Int × Int)} {a : Int} (h : goodPs xs = true) (ha : 0 ≤ a) : gradeR xs a = gradeF xs a := by simp [gradeR, h, ha]
theorem gradeF_hit {xs : List (Int × Int)} {k : Nat} {x y a : Int} (hk : k < xs.length) (hx : (x, y) = xs.getD k (0, 0)) (h : a < x) : gradeF (xs.drop k) a = (y, true) := by
  rw [drop_xy hk hx]; simp [gradeF, h]
theorem gradeF_on {xs : List (Int × Int)} {k : Nat} {x y a : Int} (hk : k < xs.length) (hx : (x, y) = xs.getD k (0, 0)) (h : ¬ a < x) : gradeF (xs.drop k) a = gradeF (xs.drop (k + 1)) (a - x) := by
  rw [drop_xy hk hx]; simp [gradeF, h]
theorem gradeF_end {xs : List (Int × Int)} {a : Int} : gradeF (xs.drop xs.length) a = (0, false) := by rw [List.drop_length]; rfl
/-- What is to be flushed. -/
def flushF (l : Int) : List (Int × Int) → Int → Int
  | [], _ => 0
  | p :: ps, v => if l < p.2 then v else flushF l ps (v - p.1)
def flushR (xs : List (Int × Int)) (l : Int) : Int × Bool := if goodPs xs && inB l 0 10000 then (flushF l xs (sumV xs xs.length), true) else (0, false)
theorem flushR_no {xs : List (Int × Int)} {l : Int} (h : goodPs xs = false) : flushR xs l = (0, false) := by simp [flushR, h]
theorem flushR_out {xs : List (Int × Int)} {l : Int} (h : inB l 0 10000 = false) : flushR xs l = (0, false) := by simp [flushR, h]
theorem flushR_yes {xs : List (Int × Int)} {l : Int} (h : goodPs xs = true) (hl : inB l 0 10000 = true) : flushR xs l = (flushF l xs (sumV xs xs.length), true) := by simp [flushR, h, hl]
theorem flushF_hit {xs : List (Int × Int)} {l : Int} {k : Nat} {x y v : Int} (hk : k < xs.length) (hx : (x, y) = xs.getD k (0, 0)) (h : l < y) : flushF l (xs.drop k) v = v := by
  rw [drop_xy hk hx]; simp [flushF, h]
theorem flushF_on {xs : List (Int × Int)} {l : Int} {k : Nat} {x y v : Int} (hk : k < xs.length) (hx : (x, y) = xs.getD k (0, 0)) (h : ¬ l < y) : flushF l (xs.drop k) v = flushF l (xs.drop (k + 1)) (v - x) := by
  rw [drop_xy hk hx]; simp [flushF, h]
theorem flushF_end {xs : List (Int × Int)} {l v : Int} : flushF l (xs.drop xs.length) v = 0 := by rw [List.drop_length]; rfl
/-- The least grade and where it begins. -/
def leastF : List (Int × Int) → Int → Int → Int → Int × Int
  | [], b, w, _ => (b, w)
  | p :: ps, b, w, a => if p.2 < b then leastF ps p.2 a (a + p.1) else leastF ps b w (a + p.1)
def leastR (xs : List (Int × Int)) : Int × Int × Bool := if goodPs xs then ((leastF xs (xs.getD 0 (0, 0)).2 0 0).1, (leastF xs (xs.getD 0 (0, 0)).2 0 0).2, true) else (0, 0, false)
theorem leastR_no {xs : List (Int × Int)} (h : goodPs xs = false) : leastR xs = (0, 0, false) := by simp [leastR, h]
theorem leastR_yes {xs : List (Int × Int)} {x y b w : Int} (h : goodPs xs = true) (hx : (x, y) = xs.getD 0 (0, 0)) (hf : leastF xs y 0 0 = (b, w)) : leastR xs = (b, w, true) := by
  unfold leastR; rw [h, ← hx]; simp [hf]
theorem leastF_less {xs : List (Int × Int)} {k : Nat} {x y b w a : Int} (hk : k < xs.length) (hx : (x, y) = xs.getD k (0, 0)) (h : y < b) : leastF (xs.drop k) b w a = leastF (xs.drop (k + 1)) y a (a + x) := by
  rw [drop_xy hk hx]; simp [leastF, h]
theorem leastF_keep {xs : List (Int × Int)} {k : Nat} {x y b w a : Int} (hk : k < xs.length) (hx : (x, y) = xs.getD k (0, 0)) (h : ¬ y < b) : leastF (xs.drop k) b w a = leastF (xs.drop (k + 1)) b w (a + x) := by
  rw [drop_xy hk hx]; simp [leastF, h]
theorem leastF_end {xs : List (Int × Int)} {b w a : Int} : leastF (xs.drop xs.length) b w a = (b, w) := by rw [List.drop_length]; rfl
/-- A pipe turned round. -/
def revR (xs : List (Int × Int)) : List (Int × Int) × Bool := if goodPs xs then (xs.reverse, true) else ([], false)
theorem revR_no {xs : List (Int × Int)} (h : goodPs xs = false) : revR xs = ([], false) := by simp [revR, h]
theorem revR_yes {xs : List (Int × Int)} (h : goodPs xs = true) : revR xs = (xs.reverse, true) := by simp [revR, h]
theorem revR_len (xs : List (Int × Int)) (h : xs.length ≤ 1048576) : (revR xs).1.length ≤ 1048576 := by unfold revR; split <;> simp; omega
theorem rev_next {xs : List (Int × Int)} {k : Nat} {x y : Int} (hk : k < xs.length) (hx : (x, y) = xs.getD k (0, 0)) : (xs.drop k).reverse = (xs.drop (k + 1)).reverse ++ [(x, y)] := by
  rw [drop_xy hk hx, List.reverse_cons]
end Go.Proofs.Ytjpijcmfnckmaaa

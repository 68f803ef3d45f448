/- Plain: decay. -/
import Derived.Test.YtjpijcmfnckmaaaPJPlain
namespace Go.Proofs.Ytjpijcmfnckmaaa
def decP (n d : Int) (xs : List (Int × Int)) : List (Int × Int) := xs.map fun p => (p.1, p.2 * n / d)
theorem decP_len (n d : Int) (xs : List (Int × Int)) : (decP n d xs).length = xs.length := by simp [decP]
theorem decP_at {n d : Int} {xs : List (Int × Int)} {k : Nat} {x y : Int} (hk : k < xs.length) (hx : (x, y) = xs.getD k (0, 0)) : (x, y * n / d) = (decP n d xs).getD k (0, 0) := by
  have e : xs[k] = (x, y) := by rw [hx]; simp [List.getD_eq_getElem?_getD, hk]
  simp [decP, List.getD_eq_getElem?_getD, hk, e]
theorem decP_next {n d : Int} {xs : List (Int × Int)} {k : Nat} {x y : Int} (hk : k < xs.length) (hx : (x, y) = xs.getD k (0, 0)) : (decP n d xs).take (k + 1) = (decP n d xs).take k ++ [(x, y * n / d)] := by
  have h : k < (decP n d xs).length := by rw [decP_len]; exact hk
  rw [List.take_succ_eq_append_getElem h]
  have := decP_at (n := n) (d := d) hk hx
  simp only [List.getD_eq_getElem?_getD, List.getElem?_eq_getElem h, Option.getD_some] at this
  rw [← this]
theorem decP_bnd {n d m : Int} {xs : List (Int × Int)} (h : bnd xs m) : bnd (decP n d xs) m := by
  intro q hq
  obtain ⟨p, hp, rfl⟩ := List.mem_map.1 hq
  exact h p hp
def decR (xs : List (Int × Int)) (n d : Int) : List (Int × Int) × Bool := if goodPs xs && (inB d 1 100 && inB n 0 d) then (joinT (decP n d xs) xs.length, true) else ([], false)
theorem decR_no {xs : List (Int × Int)} {n d : Int} (h : goodPs xs = false) : decR xs n d = ([], false) := by simp [decR, h]
theorem decR_no2 {xs : List (Int × Int)} {n d : Int} (h : inB d 1 100 = false) : decR xs n d = ([], false) := by simp [decR, h]
theorem decR_no3 {xs : List (Int × Int)} {n d : Int} (h : inB n 0 d = false) : decR xs n d = ([], false) := by simp [decR, h]
theorem decR_yes {xs : List (Int × Int)} {n d : Int} (h : goodPs xs = true) (h2 : inB d 1 100 = true) (h3 : inB n 0 d = true) : decR xs n d = (joinT (decP n d xs) xs.length, true) := by simp [decR, h, h2, h3]
theorem decR_len (xs : List (Int × Int)) (n d : Int) (h : xs.length ≤ 1048576) : (decR xs n d).1.length ≤ 1048576 := by
  unfold decR; split
  · have := joinT_len (decP n d xs) xs.length; simp only; omega
  · simp
theorem dec_b {y n d : Int} (hy0 : 0 ≤ y) (hy1 : y ≤ 10000) (hd0 : 1 ≤ d) (hd1 : d ≤ 100) (hn0 : 0 ≤ n) (hn1 : n ≤ d) : 0 ≤ y * n ∧ y * n ≤ 1000000 ∧ 0 ≤ y * n / d ∧ y * n / d ≤ 1000000 := by
  have a := Int.mul_nonneg hy0 hn0
  have b : y * n ≤ 10000 * 100 := Int.mul_le_mul hy1 (by omega) hn0 (by omega)
  have c := Int.ediv_nonneg a (by omega : 0 ≤ d)
  have e := Int.ediv_le_self d a
  exact ⟨a, by omega, c, by omega⟩
end Go.Proofs.Ytjpijcmfnckmaaa

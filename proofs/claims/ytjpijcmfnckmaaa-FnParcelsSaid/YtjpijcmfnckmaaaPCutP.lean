/- Plain: parcels cut at a volume; what is pushed in and out of a pipe. -/
import Derived.Test.YtjpijcmfnckmaaaPJPlain
namespace Go.Proofs.Ytjpijcmfnckmaaa
theorem minI_comm (a b : Int) : minI a b = minI b a := by unfold minI; split <;> split <;> omega
/-- The volume that is left when k parcels are cut. -/
def volK (xs : List (Int × Int)) (v : Int) : Nat → Int
  | 0 => v
  | k + 1 => volK xs v k - minI (xs.getD k (0, 0)).1 (volK xs v k)
def firstT (xs : List (Int × Int)) (v : Int) : Nat → List (Int × Int)
  | 0 => []
  | k + 1 => firstT xs v k ++ [(minI (xs.getD k (0, 0)).1 (volK xs v k), (xs.getD k (0, 0)).2)]
def restT (xs : List (Int × Int)) (v : Int) : Nat → List (Int × Int)
  | 0 => []
  | k + 1 => restT xs v k ++ [((xs.getD k (0, 0)).1 - minI (xs.getD k (0, 0)).1 (volK xs v k), (xs.getD k (0, 0)).2)]
theorem firstT_len (xs : List (Int × Int)) (v : Int) : ∀ k, (firstT xs v k).length = k
  | 0 => rfl
  | k + 1 => by simp [firstT, firstT_len xs v k]
theorem restT_len (xs : List (Int × Int)) (v : Int) : ∀ k, (restT xs v k).length = k
  | 0 => rfl
  | k + 1 => by simp [restT, restT_len xs v k]
theorem firstT_get {xs : List (Int × Int)} {v : Int} {k : Nat} {x y : Int} (hx : (x, y) = xs.getD k (0, 0)) : ∀ {n : Nat}, k < n → (minI x (volK xs v k), y) = (firstT xs v n).getD k (0, 0)
  | n + 1, h => by
    have hl := firstT_len xs v n
    rcases Nat.lt_or_ge k n with hk | hk
    · rw [firstT, List.getD_eq_getElem?_getD, List.getElem?_append_left (by omega), ← List.getD_eq_getElem?_getD]
      exact firstT_get hx hk
    · obtain rfl : k = n := by omega
      rw [firstT, List.getD_eq_getElem?_getD, List.getElem?_append_right (by omega), hl, ← hx]
      simp
theorem restT_get {xs : List (Int × Int)} {v : Int} {k : Nat} {x y : Int} (hx : (x, y) = xs.getD k (0, 0)) : ∀ {n : Nat}, k < n → (x - minI x (volK xs v k), y) = (restT xs v n).getD k (0, 0)
  | n + 1, h => by
    have hl := restT_len xs v n
    rcases Nat.lt_or_ge k n with hk | hk
    · rw [restT, List.getD_eq_getElem?_getD, List.getElem?_append_left (by omega), ← List.getD_eq_getElem?_getD]
      exact restT_get hx hk
    · obtain rfl : k = n := by omega
      rw [restT, List.getD_eq_getElem?_getD, List.getElem?_append_right (by omega), hl, ← hx]
      simp
theorem firstT_next {xs : List (Int × Int)} {v : Int} {k : Nat} {x y : Int} (hx : (x, y) = xs.getD k (0, 0)) : firstT xs v (k + 1) = firstT xs v k ++ [(minI x (volK xs v k), y)] := by rw [firstT, ← hx]
theorem restT_next {xs : List (Int × Int)} {v : Int} {k : Nat} {x y : Int} (hx : (x, y) = xs.getD k (0, 0)) : restT xs v (k + 1) = restT xs v k ++ [(x - minI x (volK xs v k), y)] := by rw [restT, ← hx]
theorem volK_next {xs : List (Int × Int)} {v : Int} {k : Nat} {x y : Int} (hx : (x, y) = xs.getD k (0, 0)) : volK xs v (k + 1) = volK xs v k - minI x (volK xs v k) := by rw [volK, ← hx]
/-- Parcels from 1 to 1000, grades from 0 to 10000. -/
def okAll (xs : List (Int × Int)) : Prop := ∀ k x y, k < xs.length → (x, y) = xs.getD k (0, 0) → 1 ≤ x ∧ x ≤ 1000 ∧ 0 ≤ y ∧ y ≤ 10000
theorem volK_b {xs : List (Int × Int)} {v : Int} (h : okAll xs) (hv : 0 ≤ v) : ∀ k, k ≤ xs.length → 0 ≤ volK xs v k ∧ volK xs v k ≤ v
  | 0, _ => ⟨hv, Int.le_refl _⟩
  | k + 1, hk => by
    have a := volK_b h hv k (by omega)
    have ok := h k (xs.getD k (0, 0)).1 (xs.getD k (0, 0)).2 (by omega) rfl
    have m : 0 ≤ minI (xs.getD k (0, 0)).1 (volK xs v k) ∧ minI (xs.getD k (0, 0)).1 (volK xs v k) ≤ volK xs v k := by unfold minI; split <;> omega
    unfold volK; omega
/-- Joined parcels: none empty, neighbours of different grades. -/
def okJ (l : List (Int × Int)) : Prop := ∀ k, k < l.length → 1 ≤ (l.getD k (0, 0)).1 ∧ 0 ≤ (l.getD k (0, 0)).2 ∧ (l.getD k (0, 0)).2 ≤ 10000 ∧ (k = 0 ∨ (l.getD (k - 1) (0, 0)).2 ≠ (l.getD k (0, 0)).2)
def totL (l : List (Int × Int)) : Int := (l.map (·.1)).sum
theorem totL_app (l : List (Int × Int)) (p : Int × Int) : totL (l ++ [p]) = totL l + p.1 := by simp [totL]
theorem getD_left {l : List (Int × Int)} {p : Int × Int} {k : Nat} (h : k < l.length) : (l ++ [p]).getD k (0, 0) = l.getD k (0, 0) := by
  rw [List.getD_eq_getElem?_getD, List.getElem?_append_left h, ← List.getD_eq_getElem?_getD]
theorem getD_right {l : List (Int × Int)} {p : Int × Int} : (l ++ [p]).getD l.length (0, 0) = p := by
  rw [List.getD_eq_getElem?_getD, List.getElem?_append_right (Nat.le_refl _)]; simp
theorem okJ_app {l : List (Int × Int)} {p : Int × Int} (h : okJ l) (h1 : 1 ≤ p.1) (h2 : 0 ≤ p.2) (h3 : p.2 ≤ 10000) (hd : l.length = 0 ∨ (l.getD (l.length - 1) (0, 0)).2 ≠ p.2) : okJ (l ++ [p]) := by
  intro k hk
  simp only [List.length_append, List.length_singleton] at hk
  rcases Nat.lt_or_ge k l.length with hl | hg
  · have a := h k hl
    rw [getD_left hl]
    refine ⟨a.1, a.2.1, a.2.2.1, ?_⟩
    rcases a.2.2.2 with e | e
    · exact .inl e
    · right; rw [getD_left (by omega)]; exact e
  · obtain rfl : k = l.length := by omega
    rw [getD_right]
    refine ⟨h1, h2, h3, ?_⟩
    rcases hd with e | e
    · exact .inl e
    · by_cases hz : l.length = 0
      · exact .inl hz
      · right; rw [getD_left (by omega)]; exact e
theorem okJ_take {l : List (Int × Int)} {m : Nat} (h : okJ l) (hm : m ≤ l.length) : okJ (l.take m) := by
  intro k hk
  rw [List.length_take] at hk
  have a := h k (by omega)
  have e : ∀ j, j < m → (l.take m).getD j (0, 0) = l.getD j (0, 0) := fun j hj => by
    rw [List.getD_eq_getElem?_getD, List.getElem?_take_of_lt hj, ← List.getD_eq_getElem?_getD]
  rw [e k (by omega)]
  refine ⟨a.1, a.2.1, a.2.2.1, ?_⟩
  rcases a.2.2.2 with hz | hz
  · exact .inl hz
  · by_cases hz0 : k = 0
    · exact .inl hz0
    · right; rw [e (k - 1) (by omega)]; exact hz
theorem okJ_add {l : List (Int × Int)} {p : Int × Int} (h : okJ l) (h1 : 0 ≤ p.1) (h2 : 0 ≤ p.2) (h3 : p.2 ≤ 10000) : okJ (addP l p) ∧ totL (addP l p) = totL l + p.1 := by
  unfold addP
  by_cases hz : p.1 = 0
  · rw [if_pos hz]; exact ⟨h, by omega⟩
  rw [if_neg hz]
  by_cases hc : 0 < l.length ∧ (lastP l).2 = p.2
  · rw [if_pos hc]
    obtain ⟨hp, he⟩ := hc
    have a := h (l.length - 1) (by omega)
    have hlt : (l.take (l.length - 1)).length = l.length - 1 := by rw [List.length_take]; omega
    have hsplit : l = l.take (l.length - 1) ++ [lastP l] := by
      conv => lhs; rw [← List.take_append_drop (l.length - 1) l]
      congr 1
      rw [List.drop_eq_getElem_cons (by omega), List.drop_eq_nil_of_le (by omega)]
      unfold lastP
      simp [List.getD_eq_getElem?_getD, show l.length - 1 < l.length by omega]
    constructor
    · refine okJ_app (okJ_take h (by omega)) (by unfold lastP; simp only; omega) h2 h3 ?_
      by_cases hz0 : l.length - 1 = 0
      · exact .inl (by rw [hlt]; exact hz0)
      · right
        rw [hlt, List.getD_eq_getElem?_getD, List.getElem?_take_of_lt (by omega), ← List.getD_eq_getElem?_getD]
        rcases a.2.2.2 with e | e
        · omega
        · unfold lastP at he
          simp only
          rw [← he]
          exact e
    · rw [totL_app]
      conv => rhs; rw [hsplit, totL_app]
      simp only
      omega
  · rw [if_neg hc]
    refine ⟨okJ_app h (by omega) h2 h3 ?_, totL_app l p⟩
    by_cases hl : l.length = 0
    · exact .inl hl
    · right; intro e; exact hc ⟨by omega, e⟩
theorem joinT_ok {fs : List (Int × Int)} (h : ∀ k, k < fs.length → 0 ≤ (fs.getD k (0, 0)).1 ∧ 0 ≤ (fs.getD k (0, 0)).2 ∧ (fs.getD k (0, 0)).2 ≤ 10000) : ∀ k, k ≤ fs.length → okJ (joinT fs k) ∧ totL (joinT fs k) = sumV fs k
  | 0, _ => ⟨fun k hk => absurd hk (by simp [joinT]), rfl⟩
  | k + 1, hk => by
    have a := joinT_ok h k (by omega)
    have b := h k (by omega)
    have c := okJ_add a.1 b.1 b.2.1 b.2.2
    refine ⟨c.1, ?_⟩
    show totL (addP (joinT fs k) (fs.getD k (0, 0))) = sumV fs k + (fs.getD k (0, 0)).1
    rw [c.2, a.2]
theorem totL_sum : ∀ l : List (Int × Int), totL l = sumV l l.length := by
  intro l
  have key : ∀ k, k ≤ l.length → totL (l.take k) = sumV l k := by
    intro k
    induction k with
    | zero => intro _; simp [totL, sumV]
    | succ k ih =>
      intro hk
      rw [List.take_succ_eq_append_getElem (by omega), totL_app, ih (by omega)]
      simp [sumV, List.getD_eq_getElem?_getD, show k < l.length by omega]
  have := key l.length (Nat.le_refl _)
  rwa [List.take_length] at this
theorem okJ_le {l : List (Int × Int)} (h : okJ l) : ∀ {k n : Nat}, k < n → n ≤ l.length → (l.getD k (0, 0)).1 + (n - 1 : Int) ≤ sumV l n
  | k, n + 1, hk, hn => by
    have a := h n (by omega)
    have e : sumV l (n + 1) = sumV l n + (l.getD n (0, 0)).1 := rfl
    have b0 : ∀ m, m ≤ l.length → (m : Int) ≤ sumV l m := by
      intro m
      induction m with
      | zero => intro _; simp [sumV]
      | succ m ih =>
        intro hm
        have := ih (by omega)
        have := h m (by omega)
        have e : sumV l (m + 1) = sumV l m + (l.getD m (0, 0)).1 := rfl
        omega
    rcases Nat.lt_or_ge k n with hl | hg
    · have := okJ_le h hl (by omega)
      omega
    · obtain rfl : k = n := by omega
      have := b0 k (by omega)
      omega
theorem goodPs_joined {l : List (Int × Int)} (h : okJ l) (h1 : 1 ≤ totL l) (h2 : totL l ≤ 1000) : goodPs l = decide (l.length ≤ 8) := by
  have hs := totL_sum l
  have hp : 0 < l.length := by
    rcases Nat.eq_zero_or_pos l.length with e | e
    · rw [List.eq_nil_of_length_eq_zero e] at h1; simp [totL] at h1
    · exact e
  have hall : allAt l = true := allAt_yes fun k hk => by
    have a := h k hk
    have b := okJ_le h hk (Nat.le_refl _)
    have c : okP (l.getD k (0, 0)).1 (l.getD k (0, 0)).2 = true := by
      unfold okP; rw [inB_mk a.1 (by omega), inB_mk a.2.1 a.2.2.1]; rfl
    unfold okAt
    rw [c]
    simp only [Bool.true_and, Bool.or_eq_true, decide_eq_true_eq]
    exact a.2.2.2
  by_cases h8 : l.length ≤ 8
  · rw [goodPs_sum (inB_mk (by omega) (by omega)) hall, ← hs]
    simp [h8, h2]
  · rw [goodPs_len (inB_hi (by omega))]
    simp [h8]
theorem sum_first {xs : List (Int × Int)} {v : Int} {n : Nat} : ∀ k, k ≤ n → sumV (firstT xs v n) k = v - volK xs v k
  | 0, _ => by simp [sumV, volK]
  | k + 1, hk => by
    have a := sum_first (xs := xs) (v := v) (n := n) k (by omega)
    have b := firstT_get (xs := xs) (v := v) (k := k) (x := (xs.getD k (0, 0)).1) (y := (xs.getD k (0, 0)).2) rfl (n := n) (by omega)
    show sumV (firstT xs v n) k + ((firstT xs v n).getD k (0, 0)).1 = v - (volK xs v k - minI (xs.getD k (0, 0)).1 (volK xs v k))
    rw [a, ← b]
    simp only
    omega
theorem vol_end {xs : List (Int × Int)} {v : Int} (h : okAll xs) (hv : 0 ≤ v) : ∀ k, k ≤ xs.length → volK xs v k = 0 ∨ volK xs v k = v - sumV xs k
  | 0, _ => .inr (by simp [volK, sumV])
  | k + 1, hk => by
    have a := vol_end h hv k (by omega)
    have b := volK_b h hv k (by omega)
    have ok := h k (xs.getD k (0, 0)).1 (xs.getD k (0, 0)).2 (by omega) rfl
    have e : sumV xs (k + 1) = sumV xs k + (xs.getD k (0, 0)).1 := rfl
    have e2 : volK xs v (k + 1) = volK xs v k - minI (xs.getD k (0, 0)).1 (volK xs v k) := rfl
    have m : minI (xs.getD k (0, 0)).1 (volK xs v k) = (xs.getD k (0, 0)).1 ∨ minI (xs.getD k (0, 0)).1 (volK xs v k) = volK xs v k := by unfold minI; split <;> omega
    rcases m with m | m
    · have m2 : minI (xs.getD k (0, 0)).1 (volK xs v k) ≤ volK xs v k := by unfold minI; split <;> omega
      rcases a with a | a
      · left; omega
      · right; omega
    · left; omega
theorem stays_good {xs : List (Int × Int)} {v : Int} (h : okAll xs) (h1 : 1 ≤ v) (h2 : v ≤ 1000) (h3 : v ≤ sumV xs xs.length) : goodPs (joinT (firstT xs v xs.length) xs.length) = decide ((joinT (firstT xs v xs.length) xs.length).length ≤ 8) := by
  have hf : ∀ k, k < (firstT xs v xs.length).length → 0 ≤ ((firstT xs v xs.length).getD k (0, 0)).1 ∧ 0 ≤ ((firstT xs v xs.length).getD k (0, 0)).2 ∧ ((firstT xs v xs.length).getD k (0, 0)).2 ≤ 10000 := fun k hk => by
    rw [firstT_len] at hk
    have ok := h k (xs.getD k (0, 0)).1 (xs.getD k (0, 0)).2 hk rfl
    have b := volK_b h (by omega : 0 ≤ v) k (by omega)
    rw [← firstT_get (v := v) (x := (xs.getD k (0, 0)).1) (y := (xs.getD k (0, 0)).2) rfl hk]
    have m : 0 ≤ minI (xs.getD k (0, 0)).1 (volK xs v k) := by unfold minI; split <;> omega
    exact ⟨m, ok.2.2.1, ok.2.2.2⟩
  have j := joinT_ok hf xs.length (by rw [firstT_len]; exact Nat.le_refl _)
  have s := sum_first (xs := xs) (v := v) (n := xs.length) xs.length (Nat.le_refl _)
  have ve := vol_end h (by omega : 0 ≤ v) xs.length (Nat.le_refl _)
  have vb := volK_b h (by omega : 0 ≤ v) xs.length (Nat.le_refl _)
  have ht : totL (joinT (firstT xs v xs.length) xs.length) = v := by rw [j.2, s]; omega
  exact goodPs_joined j.1 (by omega) (by omega)
theorem firstT_bnd {xs : List (Int × Int)} {v : Int} (h : okAll xs) (hv : 0 ≤ v) : ∀ k, k ≤ xs.length → bnd (firstT xs v k) 1000
  | 0, _ => bnd_nil _
  | k + 1, hk => by
    intro q hq
    rcases List.mem_append.1 hq with hq | hq
    · exact firstT_bnd h hv k (by omega) q hq
    · rw [List.mem_singleton] at hq; subst hq
      have ok := h k (xs.getD k (0, 0)).1 (xs.getD k (0, 0)).2 (by omega) rfl
      have b := volK_b h hv k (by omega)
      simp only
      unfold minI; split <;> omega
theorem restT_bnd {xs : List (Int × Int)} {v : Int} (h : okAll xs) (hv : 0 ≤ v) : ∀ k, k ≤ xs.length → bnd (restT xs v k) 1000
  | 0, _ => bnd_nil _
  | k + 1, hk => by
    intro q hq
    rcases List.mem_append.1 hq with hq | hq
    · exact restT_bnd h hv k (by omega) q hq
    · rw [List.mem_singleton] at hq; subst hq
      have ok := h k (xs.getD k (0, 0)).1 (xs.getD k (0, 0)).2 (by omega) rfl
      have b := volK_b h hv k (by omega)
      simp only
      unfold minI; split <;> omega
end Go.Proofs.Ytjpijcmfnckmaaa

/- Plain: tariffs. -/
import Derived.Test.YtbfaejacfhblkaaPlain
namespace Go.Proofs.Ytbfaejacfhblkaa
/-- Where block k ends, and its price. -/
def upT (xs : List (Int × Int)) (k : Nat) : Int := (xs.getD k (0, 0)).1
def prT (xs : List (Int × Int)) (k : Nat) : Int := (xs.getD k (0, 0)).2
theorem up_of {xs : List (Int × Int)} {k : Nat} {x y : Int} (hx : (x, y) = xs.getD k (0, 0)) : upT xs k = x := by unfold upT; rw [← hx]
theorem pr_of {xs : List (Int × Int)} {k : Nat} {x y : Int} (hx : (x, y) = xs.getD k (0, 0)) : prT xs k = y := by unfold prT; rw [← hx]
def okT (xs : List (Int × Int)) (k : Nat) : Bool := inB (upT xs k) 1 100000 && (inB (prT xs k) 0 1000 && (decide (k = 0) || decide (upT xs (k - 1) < upT xs k)))
def okS (xs : List (Int × Int)) (k : Nat) : Bool := decide (1 ≤ upT xs k) && (inB (prT xs k) 0 1000 && (decide (k = 0) || decide (upT xs (k - 1) < upT xs k)))
def allK (p : Nat → Bool) (n : Nat) : Bool := (List.range n).all p
theorem allK_out {p : Nat → Bool} {n : Nat} (h : allK p n = true) {k : Nat} (hk : k < n) : p k = true := by
  simp only [allK, List.all_eq_true] at h
  exact h k (List.mem_range.2 hk)
theorem allK_no {p : Nat → Bool} {n k : Nat} (hk : k < n) (h : p k = false) : allK p n = false := by
  unfold allK
  rw [List.all_eq_false]
  exact ⟨k, List.mem_range.2 hk, by rw [h]; simp⟩
theorem allK_yes {p : Nat → Bool} {n : Nat} (h : ∀ k, k < n → p k = true) : allK p n = true := by
  unfold allK
  rw [List.all_eq_true]
  intro k hk
  exact h k (List.mem_range.1 hk)
/-- A valid tariff. -/
def goodT (F : Int) (xs : List (Int × Int)) : Bool := inB F 0 100000 && (inB xs.length 1 5 && (allK (okT xs) xs.length && decide (upT xs (xs.length - 1) = 100000)))
theorem okT_bad1 {xs : List (Int × Int)} {k : Nat} {x y : Int} (hx : (x, y) = xs.getD k (0, 0)) (h : inB x 1 100000 = false) : okT xs k = false := by unfold okT; rw [up_of hx, h]; rfl
theorem okT_bad2 {xs : List (Int × Int)} {k : Nat} {x y : Int} (hx : (x, y) = xs.getD k (0, 0)) (h : inB y 0 1000 = false) : okT xs k = false := by unfold okT; rw [pr_of hx, h]; simp
theorem okT_first {xs : List (Int × Int)} {x y : Int} (hx : (x, y) = xs.getD 0 (0, 0)) (h : inB x 1 100000 = true) (h2 : inB y 0 1000 = true) : okT xs 0 = true := by unfold okT; rw [up_of hx, pr_of hx, h, h2]; simp
theorem okT_bad3 {xs : List (Int × Int)} {k : Nat} {x y x' y' : Int} (hx : (x, y) = xs.getD (k + 1) (0, 0)) (hx' : (x', y') = xs.getD k (0, 0)) (h : x ≤ x') : okT xs (k + 1) = false := by
  have : ¬ x' < x := by omega
  unfold okT; rw [Nat.add_sub_cancel, up_of hx, up_of hx']; simp [this]
theorem okT_next {xs : List (Int × Int)} {k : Nat} {x y x' y' : Int} (hx : (x, y) = xs.getD (k + 1) (0, 0)) (hx' : (x', y') = xs.getD k (0, 0)) (h1 : inB x 1 100000 = true) (h2 : inB y 0 1000 = true) (h : ¬ x ≤ x') : okT xs (k + 1) = true := by
  have : x' < x := by omega
  unfold okT; rw [Nat.add_sub_cancel, up_of hx, up_of hx', pr_of hx, h1, h2]; simp [this]
theorem okS_bad1 {xs : List (Int × Int)} {k : Nat} {x y : Int} (hx : (x, y) = xs.getD k (0, 0)) (h : x < 1) : okS xs k = false := by
  have : ¬ 1 ≤ x := by omega
  unfold okS; rw [up_of hx]; simp [this]
theorem okS_bad2 {xs : List (Int × Int)} {k : Nat} {x y : Int} (hx : (x, y) = xs.getD k (0, 0)) (h : inB y 0 1000 = false) : okS xs k = false := by unfold okS; rw [pr_of hx, h]; simp
theorem okS_first {xs : List (Int × Int)} {x y : Int} (hx : (x, y) = xs.getD 0 (0, 0)) (h : ¬ x < 1) (h2 : inB y 0 1000 = true) : okS xs 0 = true := by
  have : 1 ≤ x := by omega
  unfold okS; rw [up_of hx, pr_of hx, h2]; simp [this]
theorem okS_bad3 {xs : List (Int × Int)} {k : Nat} {x y x' y' : Int} (hx : (x, y) = xs.getD (k + 1) (0, 0)) (hx' : (x', y') = xs.getD k (0, 0)) (h : x ≤ x') : okS xs (k + 1) = false := by
  have : ¬ x' < x := by omega
  unfold okS; rw [Nat.add_sub_cancel, up_of hx, up_of hx']; simp [this]
theorem okS_next {xs : List (Int × Int)} {k : Nat} {x y x' y' : Int} (hx : (x, y) = xs.getD (k + 1) (0, 0)) (hx' : (x', y') = xs.getD k (0, 0)) (h1 : ¬ x < 1) (h2 : inB y 0 1000 = true) (h : ¬ x ≤ x') : okS xs (k + 1) = true := by
  have : x' < x := by omega
  have : 1 ≤ x := by omega
  unfold okS; rw [Nat.add_sub_cancel, up_of hx, up_of hx', pr_of hx, h2]; simp [*]
theorem okT_out {xs : List (Int × Int)} {k : Nat} (h : okT xs k = true) : 1 ≤ upT xs k ∧ upT xs k ≤ 100000 ∧ 0 ≤ prT xs k ∧ prT xs k ≤ 1000 ∧ (k = 0 ∨ upT xs (k - 1) < upT xs k) := by
  simp only [okT, Bool.and_eq_true, Bool.or_eq_true, decide_eq_true_eq] at h
  have a := inB_out h.1
  have b := inB_out h.2.1
  exact ⟨a.1, a.2, b.1, b.2, h.2.2⟩
theorem okS_out {xs : List (Int × Int)} {k : Nat} (h : okS xs k = true) : 1 ≤ upT xs k ∧ inB (prT xs k) 0 1000 = true ∧ (k = 0 ∨ upT xs (k - 1) < upT xs k) := by
  simp only [okS, Bool.and_eq_true, Bool.or_eq_true, decide_eq_true_eq] at h
  exact ⟨h.1, h.2.1, h.2.2⟩
theorem okT_S {xs : List (Int × Int)} {k : Nat} (h : okT xs k = true) : okS xs k = true := by
  simp only [okT, okS, Bool.and_eq_true, Bool.or_eq_true, decide_eq_true_eq] at h ⊢
  exact ⟨(inB_out h.1).1, h.2⟩
theorem upS_le {xs : List (Int × Int)} {n : Nat} (h : allK (okS xs) n = true) : ∀ j k, k + j < n → upT xs k ≤ upT xs (k + j)
  | 0, _, _ => Int.le_refl _
  | j + 1, k, hk => by
    have a := upS_le h j k (by omega)
    have b := (okS_out (allK_out h (k := k + (j + 1)) hk)).2.2
    have e : k + (j + 1) - 1 = k + j := by omega
    rw [e] at b
    omega
theorem allS_T {xs : List (Int × Int)} {n : Nat} (hn : 0 < n) (hl : upT xs (n - 1) = 100000) : allK (okS xs) n = allK (okT xs) n := by
  cases h : allK (okT xs) n
  · cases h2 : allK (okS xs) n
    · rfl
    · exfalso
      have : allK (okT xs) n = true := allK_yes fun k hk => by
        have a := okS_out (allK_out h2 hk)
        have b := upS_le h2 (n - 1 - k) k (by omega)
        have e : k + (n - 1 - k) = n - 1 := by omega
        rw [e, hl] at b
        simp only [okT, Bool.and_eq_true, Bool.or_eq_true, decide_eq_true_eq]
        exact ⟨inB_mk a.1 b, a.2.1, a.2.2⟩
      rw [this] at h; cases h
  · exact allK_yes fun k hk => okT_S (allK_out h hk)
theorem goodT_fee {F : Int} {xs : List (Int × Int)} (h : inB F 0 100000 = false) : goodT F xs = false := by simp [goodT, h]
theorem goodT_len {F : Int} {xs : List (Int × Int)} (h : inB xs.length 1 5 = false) : goodT F xs = false := by simp [goodT, h]
theorem goodT_at {F : Int} {xs : List (Int × Int)} (h : allK (okT xs) xs.length = false) : goodT F xs = false := by simp [goodT, h]
theorem goodT_end {F : Int} {xs : List (Int × Int)} (h1 : inB F 0 100000 = true) (h2 : inB xs.length 1 5 = true) (h : allK (okT xs) xs.length = true) : goodT F xs = decide (upT xs (xs.length - 1) = 100000) := by simp [goodT, h, h1, h2]
theorem goodT_last {F : Int} {xs : List (Int × Int)} (h : upT xs (xs.length - 1) ≠ 100000) : goodT F xs = false := by simp [goodT, h]
theorem goodT_S {F : Int} {xs : List (Int × Int)} (h1 : inB F 0 100000 = true) (h2 : inB xs.length 1 5 = true) (h3 : upT xs (xs.length - 1) = 100000) : goodT F xs = allK (okS xs) xs.length := by
  have := inB_out h2
  rw [allS_T (by omega) h3]; simp [goodT, h1, h2, h3]
theorem goodT_out {F : Int} {xs : List (Int × Int)} (h : goodT F xs = true) : 0 ≤ F ∧ F ≤ 100000 ∧ 1 ≤ xs.length ∧ xs.length ≤ 5 ∧ allK (okT xs) xs.length = true ∧ upT xs (xs.length - 1) = 100000 := by
  simp only [goodT, Bool.and_eq_true, decide_eq_true_eq] at h
  have a := inB_out h.1
  have b := inB_out h.2.1
  exact ⟨a.1, a.2, by omega, by omega, h.2.2⟩
theorem goodT_xy {F : Int} {xs : List (Int × Int)} {k : Nat} {x y : Int} (h : goodT F xs = true) (hk : k < xs.length) (hx : (x, y) = xs.getD k (0, 0)) : 1 ≤ x ∧ x ≤ 100000 ∧ 0 ≤ y ∧ y ≤ 1000 := by
  have := okT_out (allK_out (goodT_out h).2.2.2.2.1 hk)
  rw [up_of hx, pr_of hx] at this
  exact ⟨this.1, this.2.1, this.2.2.1, this.2.2.2.1⟩
end Go.Proofs.Ytbfaejacfhblkaa

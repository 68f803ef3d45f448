/- Plain: from which volume on a tariff is cheaper. -/
import Derived.Test.YtbfaejacfhblkaaTNext
namespace Go.Proofs.Ytbfaejacfhblkaa
def isCheap (Fa : Int) (xa : List (Int × Int)) (Fb : Int) (xb : List (Int × Int)) (n : Int) : Prop :=
  0 ≤ n ∧ n ≤ 100000 ∧ costT Fb xb n < costT Fa xa n ∧ ∀ j : Int, 0 ≤ j → j < n → costT Fa xa j ≤ costT Fb xb j
theorem isCheap_one {Fa Fb : Int} {xa xb : List (Int × Int)} {n n' : Int} (a : isCheap Fa xa Fb xb n) (b : isCheap Fa xa Fb xb n') : n = n' := by
  obtain ⟨a0, a1, a2, a3⟩ := a
  obtain ⟨b0, b1, b2, b3⟩ := b
  rcases Int.lt_trichotomy n n' with hl | e | hg
  · have := b3 n a0 hl; omega
  · exact e
  · have := a3 n' b0 hg; omega
open Classical in
noncomputable def cheapF (Fa : Int) (xa : List (Int × Int)) (Fb : Int) (xb : List (Int × Int)) : Int × Bool := if h : ∃ n, isCheap Fa xa Fb xb n then (Classical.choose h, true) else (0, false)
theorem cheapF_is {Fa Fb : Int} {xa xb : List (Int × Int)} {n : Int} (a : isCheap Fa xa Fb xb n) : cheapF Fa xa Fb xb = (n, true) := by
  have hx : ∃ n, isCheap Fa xa Fb xb n := ⟨n, a⟩
  unfold cheapF
  rw [dif_pos hx, isCheap_one (Classical.choose_spec hx) a]
theorem cheapF_no {Fa Fb : Int} {xa xb : List (Int × Int)} (h : ∀ j : Int, 0 ≤ j → j < 100001 → costT Fa xa j ≤ costT Fb xb j) : cheapF Fa xa Fb xb = (0, false) := by
  unfold cheapF
  rw [dif_neg]
  rintro ⟨n, a0, a1, a2, _⟩
  have := h n a0 (by omega)
  omega
noncomputable def cheapR (Fa : Int) (xa : List (Int × Int)) (Fb : Int) (xb : List (Int × Int)) : Int × Bool := if goodT Fa xa && goodT Fb xb then cheapF Fa xa Fb xb else (0, false)
theorem cheapR_no {Fa Fb : Int} {xa xb : List (Int × Int)} (h : goodT Fa xa = false) : cheapR Fa xa Fb xb = (0, false) := by simp [cheapR, h]
theorem cheapR_no2 {Fa Fb : Int} {xa xb : List (Int × Int)} (h : goodT Fb xb = false) : cheapR Fa xa Fb xb = (0, false) := by simp [cheapR, h]
theorem cheapR_yes {Fa Fb : Int} {xa xb : List (Int × Int)} (h : goodT Fa xa = true) (h2 : goodT Fb xb = true) : cheapR Fa xa Fb xb = cheapF Fa xa Fb xb := by simp [cheapR, h, h2]
/-- Where the walk through the blocks stands before volume v + 1. -/
def stands (xs : List (Int × Int)) (v : Int) (i : Nat) : Prop := i < xs.length ∧ v ≤ upT xs i ∧ ∀ j, j < i → upT xs j ≤ v
theorem stands_zero {F : Int} {xs : List (Int × Int)} (h : goodT F xs = true) : stands xs 0 0 := by
  have g := goodT_out h
  have := okT_out (allK_out g.2.2.2.2.1 (k := 0) (by omega))
  exact ⟨by omega, by omega, fun j hj => absurd hj (by omega)⟩
theorem stands_holds {xs : List (Int × Int)} {v : Int} {i : Nat} (s : stands xs v i) (h : ¬ upT xs i < v + 1) : holds xs v i := ⟨by omega, s.2.2⟩
theorem stands_skip {F : Int} {xs : List (Int × Int)} {v : Int} {i : Nat} (hg : goodT F xs = true) (s : stands xs v i) (hv : v < 100000) (h : upT xs i < v + 1) : i + 1 < xs.length ∧ holds xs v (i + 1) := by
  obtain ⟨s0, s1, s2⟩ := s
  have g := goodT_out hg
  have hl : i + 1 < xs.length := by
    rcases Nat.lt_or_ge (i + 1) xs.length with hl | hge
    · exact hl
    · have e : xs.length - 1 = i := by omega
      have := g.2.2.2.2.2
      rw [e] at this
      omega
  have ok := okT_out (allK_out g.2.2.2.2.1 (k := i + 1) hl)
  have hlt : upT xs i < upT xs (i + 1) := by
    rcases ok.2.2.2.2 with e | e
    · omega
    · simpa using e
  refine ⟨hl, by omega, fun j hj => ?_⟩
  by_cases e : j = i
  · subst e; omega
  · exact s2 j (by omega)
theorem holds_stands {xs : List (Int × Int)} {v : Int} {i : Nat} (hi : i < xs.length) (h : holds xs v i) : stands xs (v + 1) i := ⟨hi, by have := h.1; omega, fun j hj => by have := h.2 j hj; omega⟩
end Go.Proofs.Ytbfaejacfhblkaa

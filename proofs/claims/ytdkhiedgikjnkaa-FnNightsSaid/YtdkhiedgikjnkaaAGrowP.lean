/- Plain: growing runs. -/
import Derived.Test.YtdkhiedgikjnkaaAPlain
namespace Go.Proofs.Ytdkhiedgikjnkaa
def grows (xs : List Int) (i n : Nat) : Prop := ∀ t, i < t → t < i + n → xs.getD (t - 1) 0 ≤ xs.getD t 0
/-- The longest growing run within the first k elements, the earliest of its kind. -/
structure Best (xs : List Int) (k b m : Nat) : Prop where
  le : b + m ≤ k
  run : grows xs b m
  most : ∀ i n, i + n ≤ k → grows xs i n → n ≤ m
  first : ∀ i n, i < b → i + n ≤ k → grows xs i n → n < m
theorem Best.same {xs : List Int} {k b m b' m' : Nat} (h : Best xs k b m) (h' : Best xs k b' m') : b = b' ∧ m = m' := by
  have e1 := h.most b' m' h'.le h'.run
  have e2 := h'.most b m h.le h.run
  refine ⟨?_, by omega⟩
  rcases Nat.lt_trichotomy b b' with hl | he | hg
  · have := h'.first b m hl h.le h.run; omega
  · exact he
  · have := h.first b' m' hg h'.le h'.run; omega
theorem Best.zero (xs : List Int) : Best xs 0 0 0 := ⟨by omega, fun t h1 h2 => by omega, fun i n h _ => by omega, fun i n h _ _ => by omega⟩
/-- f is where the run that ends ahead of k starts. -/
structure From (xs : List Int) (k f : Nat) : Prop where
  le : f ≤ k
  run : grows xs f (k - f)
  brk : 0 < f → xs.getD f 0 < xs.getD (f - 1) 0
theorem From.next {xs : List Int} {k f : Nat} (h : From xs k f) (hk : f < k) (hn : ¬ xs.getD k 0 < xs.getD (k - 1) 0) : From xs (k + 1) f :=
  ⟨by have := h.le; omega, fun t h1 h2 => by
    by_cases e : t = k
    · subst e; omega
    · exact h.run t h1 (by omega), h.brk⟩
theorem From.new {xs : List Int} {k : Nat} (hn : xs.getD k 0 < xs.getD (k - 1) 0) : From xs (k + 1) k :=
  ⟨by omega, fun t h1 h2 => by omega, fun _ => hn⟩
theorem From.one (xs : List Int) : From xs 1 0 := ⟨by omega, fun t h1 h2 => by omega, fun h => by omega⟩
theorem From.least {xs : List Int} {k f i n : Nat} (h : From xs (k + 1) f) (hf : f ≤ k) (hi : i + n = k + 1) (hg : grows xs i n) : n ≤ k + 1 - f := by
  rcases Nat.lt_or_ge i f with hl | hge
  · have h1 := h.brk (by omega)
    have h2 := hg f hl (by omega)
    omega
  · omega
theorem Best.more {xs : List Int} {k b m f : Nat} (h : Best xs k b m) (hf : From xs (k + 1) f) (hfk : f ≤ k) (hm : m < k + 1 - f) : Best xs (k + 1) f (k + 1 - f) :=
  ⟨by omega, hf.run, fun i n hi hg => by
    rcases Nat.lt_or_ge k (i + n) with hl | hge
    · exact hf.least hfk (by omega) hg
    · have := h.most i n hge hg; omega, fun i n hif hi hg => by
    rcases Nat.lt_or_ge k (i + n) with hl | hge
    · have := hf.least hfk (show i + n = k + 1 by omega) hg; omega
    · have := h.most i n hge hg; omega⟩
theorem Best.keep {xs : List Int} {k b m f : Nat} (h : Best xs k b m) (hf : From xs (k + 1) f) (hfk : f ≤ k) (hm : ¬ m < k + 1 - f) : Best xs (k + 1) b m :=
  ⟨by have := h.le; omega, h.run, fun i n hi hg => by
    rcases Nat.lt_or_ge k (i + n) with hl | hge
    · have := hf.least hfk (show i + n = k + 1 by omega) hg; omega
    · exact h.most i n hge hg, fun i n hib hi hg => by
    have hle := h.le
    rcases Nat.lt_or_ge k (i + n) with hl | hge
    · have h1 := hf.least hfk (show i + n = k + 1 by omega) hg
      have h2 := h.first i (k - i) hib (by omega) (fun t a b => hg t a (by omega))
      omega
    · exact h.first i n hib hge hg⟩
/-- Where the run that ends at k starts. -/
def rsK (xs : List Int) : Nat → Nat
  | 0 => 0
  | k + 1 => if xs.getD (k + 1) 0 < xs.getD k 0 then k + 1 else rsK xs k
theorem rsK_le (xs : List Int) : ∀ k, rsK xs k ≤ k
  | 0 => Nat.le_refl _
  | k + 1 => by have := rsK_le xs k; rw [rsK]; split <;> omega
theorem rsK_from (xs : List Int) : ∀ k, From xs (k + 1) (rsK xs k)
  | 0 => From.one xs
  | k + 1 => by
    have h := rsK_from xs k
    have hl := rsK_le xs k
    by_cases hn : xs.getD (k + 1) 0 < xs.getD k 0
    · rw [rsK, if_pos hn]; exact From.new hn
    · rw [rsK, if_neg hn]; exact h.next (by omega) hn
def gK (xs : List Int) : Nat → Nat × Nat
  | 0 => (0, 0)
  | k + 1 => if (gK xs k).2 < k + 1 - rsK xs k then (rsK xs k, k + 1 - rsK xs k) else gK xs k
theorem gK_best (xs : List Int) : ∀ k, Best xs k (gK xs k).1 (gK xs k).2
  | 0 => Best.zero xs
  | k + 1 => by
    have h := gK_best xs k
    by_cases hm : (gK xs k).2 < k + 1 - rsK xs k
    · rw [gK, if_pos hm]; exact h.more (rsK_from xs k) (rsK_le xs k) hm
    · rw [gK, if_neg hm]; exact h.keep (rsK_from xs k) (rsK_le xs k) hm
def growR (I H : Int) (xs : List Int) : Int × Int × Bool := if goodA I H xs then (((gK xs xs.length).1 : Int), ((gK xs xs.length).2 : Int), true) else (0, 0, false)
theorem growR_no {I H : Int} {xs : List Int} (h : goodA I H xs = false) : growR I H xs = (0, 0, false) := by simp [growR, h]
theorem growR_yes {I H : Int} {xs : List Int} {b m : Nat} (h : goodA I H xs = true) (hb : Best xs xs.length b m) : growR I H xs = ((b : Int), (m : Int), true) := by
  obtain ⟨e1, e2⟩ := (gK_best xs xs.length).same hb
  simp [growR, h, e1, e2]
end Go.Proofs.Ytdkhiedgikjnkaa

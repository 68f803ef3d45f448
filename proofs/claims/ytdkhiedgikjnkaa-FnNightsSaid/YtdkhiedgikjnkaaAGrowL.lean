/- Plain: growing runs, as the reference finds them. -/
import Derived.Test.YtdkhiedgikjnkaaAGrowP
namespace Go.Proofs.Ytdkhiedgikjnkaa
/-- What the reference knows once the runs from the nights ahead of k are looked at. -/
structure Lead (xs : List Int) (k b m : Nat) : Prop where
  le : b + m ≤ xs.length
  bk : b ≤ k
  run : grows xs b m
  most : ∀ i n, i < k → i + n ≤ xs.length → grows xs i n → n ≤ m
  first : ∀ i n, i < b → i + n ≤ xs.length → grows xs i n → n < m
theorem Lead.zero (xs : List Int) : Lead xs 0 0 0 := ⟨by omega, by omega, fun t h1 h2 => by omega, fun i n h _ _ => by omega, fun i n h _ _ => by omega⟩
theorem Lead.done {xs : List Int} {b m : Nat} (h : Lead xs xs.length b m) : Best xs xs.length b m :=
  ⟨h.le, h.run, fun i n hi hg => by
    rcases Nat.lt_or_ge i xs.length with hl | hge
    · exact h.most i n hl hi hg
    · omega, h.first⟩
/-- n is the whole length of the run from k. -/
structure Whole (xs : List Int) (k n : Nat) : Prop where
  le : k + n ≤ xs.length
  run : grows xs k n
  pos : 1 ≤ n
  stop : k + n = xs.length ∨ xs.getD (k + n) 0 < xs.getD (k + n - 1) 0
theorem Whole.all {xs : List Int} {k n i : Nat} (h : Whole xs k n) (hi : k + i ≤ xs.length) (hg : grows xs k i) : i ≤ n := by
  have hp := h.pos
  rcases h.stop with e | e
  · omega
  · rcases Nat.lt_or_ge n i with hl | hge
    · have := hg (k + n) (by omega) (by omega); omega
    · exact hge
theorem Lead.more {xs : List Int} {k b m n : Nat} (h : Lead xs k b m) (hw : Whole xs k n) (hm : m < n) : Lead xs (k + 1) k n :=
  ⟨hw.le, by omega, hw.run, fun i x hi hx hg => by
    rcases Nat.lt_or_ge i k with hl | hge
    · have := h.most i x hl hx hg; omega
    · obtain rfl : i = k := by omega
      exact hw.all hx hg, fun i x hi hx hg => by have := h.most i x hi hx hg; omega⟩
theorem Lead.keep {xs : List Int} {k b m n : Nat} (h : Lead xs k b m) (hw : Whole xs k n) (hm : ¬ m < n) : Lead xs (k + 1) b m :=
  ⟨h.le, by have := h.bk; omega, h.run, fun i x hi hx hg => by
    rcases Nat.lt_or_ge i k with hl | hge
    · exact h.most i x hl hx hg
    · obtain rfl : i = k := by omega
      have := hw.all hx hg; omega, h.first⟩
theorem grows_one (xs : List Int) (k : Nat) : grows xs k 1 := fun t h1 h2 => by omega
theorem grows_next {xs : List Int} {k n : Nat} (h : grows xs k n) (hn : xs.getD (k + n - 1) 0 ≤ xs.getD (k + n) 0) : grows xs k (n + 1) := fun t h1 h2 => by
  by_cases e : t = k + n
  · subst e; exact hn
  · exact h t h1 (by omega)
end Go.Proofs.Ytdkhiedgikjnkaa

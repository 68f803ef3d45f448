/- Plain: the table of the costs to go. -/
import Derived.Test.YtofcienabddpjaaSPlain
namespace Go.Proofs.Ytofcienabddpjaa
/-- An hour in which nothing is spilled or missing. -/
def okV (E M l v u : Int) : Bool := decide (spT M l v + msT E M l v u = 0)
theorem okV_iff (E M l v u : Int) : okV E M l v u = true ↔ (l + v ≤ M ∧ E ≤ l + v - u) := by
  unfold okV msT mdT spT
  simp only [decide_eq_true_eq]
  split <;> split <;> omega
theorem okV_next {E M l v u : Int} (h : okV E M l v u = true) : nxT E M l v u = l + v - u := by
  have := (okV_iff E M l v u).1 h
  unfold nxT msT mdT spT
  split <;> split <;> omega
/-- The least cost over the first k volumes, or -1. -/
def bstV (g : Int → Int) (E M x u l : Int) : Nat → Int
  | 0 => -1
  | k + 1 => if okV E M l k u = true ∧ 0 ≤ g (nxT E M l k u) then (if bstV g E M x u l k < 0 ∨ x * k + g (nxT E M l k u) < bstV g E M x u l k then x * k + g (nxT E M l k u) else bstV g E M x u l k) else bstV g E M x u l k
theorem bstV_no {g : Int → Int} {E M x u l : Int} {k : Nat} (h : okV E M l k u = false ∨ g (nxT E M l k u) < 0) : bstV g E M x u l (k + 1) = bstV g E M x u l k := by
  rw [bstV, if_neg]
  rintro ⟨a, b⟩
  rw [a] at h
  rcases h with h | h
  · cases h
  · omega
theorem bstV_new {g : Int → Int} {E M x u l : Int} {k : Nat} (h : okV E M l k u = true) (h0 : 0 ≤ g (nxT E M l k u)) (h1 : bstV g E M x u l k < 0 ∨ x * k + g (nxT E M l k u) < bstV g E M x u l k) : bstV g E M x u l (k + 1) = x * k + g (nxT E M l k u) := by
  rw [bstV, if_pos ⟨h, h0⟩, if_pos h1]
theorem bstV_old {g : Int → Int} {E M x u l : Int} {k : Nat} (h1 : ¬ (bstV g E M x u l k < 0 ∨ x * k + g (nxT E M l k u) < bstV g E M x u l k)) : bstV g E M x u l (k + 1) = bstV g E M x u l k := by
  rw [bstV]
  by_cases c : okV E M l k u = true ∧ 0 ≤ g (nxT E M l k u)
  · rw [if_pos c, if_neg h1]
  · rw [if_neg c]
/-- The bounds of the least cost. -/
theorem bstV_b {g : Int → Int} {E M x u l B : Int} (hx : 0 ≤ x) (hx2 : x ≤ 100) (hg : ∀ z, g z ≤ B) (hB : 0 ≤ B) : ∀ k : Nat, k ≤ 11 → (bstV g E M x u l k = -1 ∨ 0 ≤ bstV g E M x u l k) ∧ bstV g E M x u l k ≤ B + 1000
  | 0, _ => ⟨.inl rfl, by rw [bstV]; omega⟩
  | k + 1, hk => by
    have a := bstV_b (u := u) (l := l) (E := E) (M := M) hx hx2 hg hB k (by omega)
    have m := mulB hx hx2 (show (0 : Int) ≤ k by omega) (show (k : Int) ≤ 10 by omega)
    have b := hg (nxT E M l k u)
    rw [bstV]
    split
    · rename_i c
      split
      · exact ⟨.inr (by omega), by omega⟩
      · exact a
    · exact a
/-- The least cost from level l with r hours to go, or -1 (n hours in all). -/
def tabV (E M P L : Int) (xs ys : List Int) (n : Nat) : Nat → Int → Int
  | 0, l => if L ≤ l then 0 else -1
  | r + 1, l => if E ≤ l then bstV (tabV E M P L xs ys n r) E M (xs.getD (n - (r + 1)) 0) (ys.getD (n - (r + 1)) 0) l (P.toNat + 1) else -1
theorem tabV_b {E M P L : Int} {xs ys : List Int} {n : Nat} (hP : P ≤ 10) (hx : ∀ j, j < n → 0 ≤ xs.getD j 0 ∧ xs.getD j 0 ≤ 100) : ∀ r, r ≤ n → ∀ l, (tabV E M P L xs ys n r l = -1 ∨ 0 ≤ tabV E M P L xs ys n r l) ∧ tabV E M P L xs ys n r l ≤ 1000 * r
  | 0, _, l => by simp only [tabV]; split <;> omega
  | r + 1, hr, l => by
    have ih := tabV_b (E := E) (M := M) (L := L) (ys := ys) hP hx r (by omega)
    have x := hx (n - (r + 1)) (by omega)
    rw [tabV]
    split
    · have := bstV_b (g := tabV E M P L xs ys n r) (E := E) (M := M) (u := ys.getD (n - (r + 1)) 0) (l := l) (B := 1000 * r) x.1 x.2 (fun z => (ih z).2) (by omega) (P.toNat + 1) (by omega)
      omega
    · omega
/-- The program's word for 'none'. -/
def noC : Int := 1099511627776
def encV (b : Int) : Int := if b < 0 then noC else b
/-- The program's fold. -/
def imV (g : Int → Int) (E M x u l : Int) : Nat → Int
  | 0 => noC
  | k + 1 => if l + k ≤ M ∧ E ≤ l + k - u then min (imV g E M x u l k) (x * k + g (l + k - u)) else imV g E M x u l k
theorem imV_enc {g h : Int → Int} {E M x u l : Int} (hx : 0 ≤ x) (hx2 : x ≤ 100) (hg : ∀ z, (g z = -1 ∨ 0 ≤ g z) ∧ g z ≤ 1000000) (hh : ∀ z, E ≤ z → z ≤ M → h z = encV (g z)) (hu : 0 ≤ u) : ∀ k : Nat, k ≤ 11 → imV h E M x u l k = encV (bstV g E M x u l k)
  | 0, _ => rfl
  | k + 1, hk => by
    have ih := imV_enc hx hx2 hg hh hu (l := l) k (by omega)
    have bb := bstV_b (g := g) (E := E) (M := M) (u := u) (l := l) (B := 1000000) hx hx2 (fun z => (hg z).2) (by omega) k (by omega)
    have m := mulB hx hx2 (show (0 : Int) ≤ k by omega) (show (k : Int) ≤ 10 by omega)
    rw [imV]
    by_cases ok : okV E M l k u = true
    · have o := (okV_iff E M l k u).1 ok
      have e := okV_next ok
      rw [if_pos o, ih, hh _ o.2 (by omega), bstV, e]
      have q := hg (l + k - u)
      generalize g (l + k - u) = y at *
      generalize bstV g E M x u l k = b at *
      generalize x * (k : Int) = c at *
      unfold encV noC
      by_cases hy : y < 0
      · rw [if_neg (show ¬ (okV E M l (k : Int) u = true ∧ 0 ≤ y) from fun q => by omega), if_pos hy]
        by_cases hb : b < 0
        · rw [if_pos hb, Int.min_eq_left (by omega)]
        · rw [if_neg hb, Int.min_eq_left (by omega)]
      · rw [if_pos (show okV E M l (k : Int) u = true ∧ 0 ≤ y from ⟨ok, by omega⟩), if_neg hy]
        by_cases hb : b < 0
        · rw [if_pos hb, if_pos (show b < 0 ∨ c + y < b from .inl hb), Int.min_eq_right (by omega), if_neg (by omega)]
        · by_cases hc : c + y < b
          · rw [if_neg hb, if_pos (show b < 0 ∨ c + y < b from .inr hc), Int.min_eq_right (by omega), if_neg (by omega)]
          · rw [if_neg hb, if_neg (show ¬ (b < 0 ∨ c + y < b) by omega), Int.min_eq_left (by omega), if_neg hb]
    · have o : ¬ (l + k ≤ M ∧ E ≤ l + k - u) := fun q => ok ((okV_iff E M l k u).2 q)
      rw [if_neg o, ih, bstV_no (.inl (by simpa using ok))]
end Go.Proofs.Ytofcienabddpjaa

/- Plain: the schedules by the table of the costs to go. -/
import Derived.Test.YtofcienabddpjaaQPlain
namespace Go.Proofs.Ytofcienabddpjaa
/-- The first place where p holds, or n. -/
def fstK (p : Nat → Bool) : Nat → Nat
  | 0 => 0
  | n + 1 => if fstK p n < n then fstK p n else if p n = true then n else n + 1
theorem fstK_none {p : Nat → Bool} : ∀ n, (∀ j, j < n → p j = false) → fstK p n = n
  | 0, _ => rfl
  | n + 1, h => by
    rw [fstK, fstK_none n (fun j hj => h j (by omega)), if_neg (by omega), if_neg (by rw [h n (by omega)]; decide)]
theorem fstK_at {p : Nat → Bool} {k : Nat} (h : ∀ j, j < k → p j = false) (hk : p k = true) : ∀ n, k < n → fstK p n = k
  | 0, q => absurd q (by omega)
  | n + 1, q => by
    rw [fstK]
    by_cases e : k = n
    · subst e
      rw [fstK_none k h, if_neg (by omega), if_pos hk]
    · rw [fstK_at h hk n (by omega), if_pos (by omega)]
theorem fstK_ex {p : Nat → Bool} : ∀ n, (∃ j, j < n ∧ p j = true) → fstK p n < n ∧ p (fstK p n) = true
  | 0, ⟨_, h, _⟩ => absurd h (by omega)
  | n + 1, ⟨j, hj, hp⟩ => by
    rw [fstK]
    by_cases e : fstK p n < n
    · rw [if_pos e]
      refine ⟨by omega, ?_⟩
      by_cases q : ∃ j, j < n ∧ p j = true
      · exact (fstK_ex n q).2
      · exact absurd (fstK_none (p := p) n (fun j hj => by cases c : p j; rfl; exact absurd ⟨j, hj, c⟩ q)) (by omega)
    · rw [if_neg e]
      by_cases c : p n = true
      · rw [if_pos c]; exact ⟨by omega, c⟩
      · exfalso
        by_cases q : j = n
        · subst q; exact c hp
        · exact e (fstK_ex n ⟨j, by omega, hp⟩).1
theorem fstK_le {p : Nat → Bool} : ∀ n, fstK p n ≤ n
  | 0 => by rw [fstK]; omega
  | n + 1 => by
    have := fstK_le (p := p) n
    rw [fstK]
    split
    · omega
    · split <;> omega
theorem fstK_congr {p q : Nat → Bool} (h : ∀ j, p j = q j) (n : Nat) : fstK p n = fstK q n := by
  rw [show p = q from funext h]
/-- A volume that the search takes. -/
def pickV (ch : Bool) (g : Int → Int) (E M x u l cur : Int) (k : Nat) : Bool := okV E M l k u && (decide (0 ≤ g (nxT E M l k u)) && (!ch || decide (x * k + g (nxT E M l k u) = cur)))
theorem pickV_iff {ch : Bool} {g : Int → Int} {E M x u l cur : Int} {k : Nat} : pickV ch g E M x u l cur k = true ↔ (okV E M l k u = true ∧ 0 ≤ g (nxT E M l k u) ∧ (ch = true → x * k + g (nxT E M l k u) = cur)) := by
  unfold pickV
  cases ch <;> simp
def volV (ch : Bool) (E M P L : Int) (xs ys : List Int) (n k : Nat) (l : Int) : Nat := fstK (pickV ch (tabV E M P L xs ys n (n - (k + 1))) E M (xs.getD k 0) (ys.getD k 0) l (tabV E M P L xs ys n (n - k) l)) (P.toNat + 1)
def lvV (ch : Bool) (E M P L : Int) (xs ys : List Int) (n : Nat) : Nat → Int
  | 0 => L
  | k + 1 => nxT E M (lvV ch E M P L xs ys n k) (volV ch E M P L xs ys n k (lvV ch E M P L xs ys n k)) (ys.getD k 0)
def vtV (ch : Bool) (E M P L : Int) (xs ys : List Int) (n k : Nat) : Int := volV ch E M P L xs ys n k (lvV ch E M P L xs ys n k)
def schV (ch : Bool) (E M P L : Int) (xs ys : List Int) (n : Nat) : List Int := mapK (vtV ch E M P L xs ys n) n
theorem bstV_has {g : Int → Int} {E M x u l : Int} : ∀ K : Nat, 0 ≤ bstV g E M x u l K → ∃ j, j < K ∧ okV E M l j u = true ∧ 0 ≤ g (nxT E M l j u) ∧ x * j + g (nxT E M l j u) = bstV g E M x u l K
  | 0, h => by rw [bstV] at h; omega
  | K + 1, h => by
    rw [bstV] at h ⊢
    by_cases c : okV E M l K u = true ∧ 0 ≤ g (nxT E M l K u)
    · rw [if_pos c] at h ⊢
      by_cases d : bstV g E M x u l K < 0 ∨ x * K + g (nxT E M l K u) < bstV g E M x u l K
      · rw [if_pos d] at h ⊢
        exact ⟨K, by omega, c.1, c.2, rfl⟩
      · rw [if_neg d] at h ⊢
        obtain ⟨j, a, b⟩ := bstV_has K h
        exact ⟨j, by omega, b⟩
    · rw [if_neg c] at h ⊢
      obtain ⟨j, a, b⟩ := bstV_has K h
      exact ⟨j, by omega, b⟩
theorem bstV_some {g : Int → Int} {E M x u l : Int} (hx : 0 ≤ x) : ∀ K : Nat, (∃ j, j < K ∧ okV E M l j u = true ∧ 0 ≤ g (nxT E M l j u)) → 0 ≤ bstV g E M x u l K
  | 0, ⟨_, h, _⟩ => absurd h (by omega)
  | K + 1, ⟨j, hj, ho, hg⟩ => by
    rw [bstV]
    by_cases c : okV E M l K u = true ∧ 0 ≤ g (nxT E M l K u)
    · have m : 0 ≤ x * (K : Int) := Int.mul_nonneg hx (by omega)
      rw [if_pos c]
      split
      · omega
      · omega
    · rw [if_neg c]
      refine bstV_some hx K ⟨j, ?_, ho, hg⟩
      by_cases q : j = K
      · subst q; exact absurd ⟨ho, hg⟩ c
      · omega
section
variable {ch : Bool} {E M P L : Int} {xs ys : List Int} {n : Nat}
theorem tabV_step {k : Nat} {l : Int} (hk : k < n) (h : 0 ≤ tabV E M P L xs ys n (n - k) l) : E ≤ l ∧ tabV E M P L xs ys n (n - k) l = bstV (tabV E M P L xs ys n (n - (k + 1))) E M (xs.getD k 0) (ys.getD k 0) l (P.toNat + 1) := by
  obtain ⟨r, hr⟩ : ∃ r, n - k = r + 1 := ⟨n - k - 1, by omega⟩
  have e1 : n - (k + 1) = r := by omega
  have e2 : n - (r + 1) = k := by omega
  rw [hr] at h ⊢
  rw [e1]
  rw [tabV] at h ⊢
  rw [e2] at h ⊢
  by_cases c : E ≤ l
  · rw [if_pos c]; exact ⟨c, rfl⟩
  · rw [if_neg c] at h; omega
/-- At a level with a cost there is a volume. -/
theorem vol_ok {k : Nat} {l : Int} (hk : k < n) (h : 0 ≤ tabV E M P L xs ys n (n - k) l) : volV ch E M P L xs ys n k l < P.toNat + 1 ∧ pickV ch (tabV E M P L xs ys n (n - (k + 1))) E M (xs.getD k 0) (ys.getD k 0) l (tabV E M P L xs ys n (n - k) l) (volV ch E M P L xs ys n k l) = true := by
  obtain ⟨_, e⟩ := tabV_step hk h
  unfold volV
  apply fstK_ex
  obtain ⟨j, a, b, c, d⟩ := bstV_has _ (e ▸ h)
  exact ⟨j, a, pickV_iff.2 ⟨b, c, fun _ => d.trans e.symm⟩⟩
theorem lvV_ok (hy : ∀ j, j < n → 0 ≤ ys.getD j 0) (h : 0 ≤ tabV E M P L xs ys n n L) (hL : L ≤ M) (h1 : E ≤ L) : ∀ k, k ≤ n → 0 ≤ tabV E M P L xs ys n (n - k) (lvV ch E M P L xs ys n k) ∧ E ≤ lvV ch E M P L xs ys n k ∧ lvV ch E M P L xs ys n k ≤ M
  | 0, _ => ⟨h, h1, hL⟩
  | k + 1, hk => by
    have ih := lvV_ok hy h hL h1 k (by omega)
    have v := vol_ok (ch := ch) (k := k) (by omega) ih.1
    have p := pickV_iff.1 v.2
    have o := (okV_iff _ _ _ _ _).1 p.1
    have e := okV_next p.1
    rw [lvV]
    refine ⟨p.2.1, ?_, ?_⟩
    · omega
    · have := hy k (by omega)
      omega
/-- The cost that is left, hour by hour. -/
theorem cost_left (hy : ∀ j, j < n → 0 ≤ ys.getD j 0) (h : 0 ≤ tabV E M P L xs ys n n L) (hL : L ≤ M) (h1 : E ≤ L) : ∀ k, k ≤ n → costS xs (schV true E M P L xs ys n) k + tabV E M P L xs ys n (n - k) (lvV true E M P L xs ys n k) = tabV E M P L xs ys n n L
  | 0, _ => by rw [costS, lvV]; simp
  | k + 1, hk => by
    have ih := cost_left hy h hL h1 k (by omega)
    have b := lvV_ok (ch := true) hy h hL h1 k (by omega)
    have v := vol_ok (ch := true) (k := k) (by omega) b.1
    have p := (pickV_iff.1 v.2).2.2 rfl
    rw [costS, lvV]
    have e : (schV true E M P L xs ys n).getD k 0 = (volV true E M P L xs ys n k (lvV true E M P L xs ys n k) : Int) := mapK_get _ (by omega)
    rw [e]
    omega
theorem cost_all (hy : ∀ j, j < n → 0 ≤ ys.getD j 0) (h : 0 ≤ tabV E M P L xs ys n n L) (hL : L ≤ M) (h1 : E ≤ L) : costS xs (schV true E M P L xs ys n) n = tabV E M P L xs ys n n L := by
  have a := cost_left hy h hL h1 n (Nat.le_refl _)
  have b := (lvV_ok (ch := true) hy h hL h1 n (Nat.le_refl _)).1
  rw [Nat.sub_self] at a b
  rw [tabV] at a b
  split at b
  · rename_i c; rw [if_pos c] at a; omega
  · omega
end
/-- With no prices the table tells which levels have a cost. -/
theorem bst_sign {g g' : Int → Int} {E M x x' u l : Int} (hx : 0 ≤ x) (hx' : 0 ≤ x') (h : ∀ z, 0 ≤ g z ↔ 0 ≤ g' z) (K : Nat) : 0 ≤ bstV g E M x u l K ↔ 0 ≤ bstV g' E M x' u l K := by
  constructor
  · intro q
    obtain ⟨j, a, b, c, _⟩ := bstV_has K q
    exact bstV_some hx' K ⟨j, a, b, (h _).1 c⟩
  · intro q
    obtain ⟨j, a, b, c, _⟩ := bstV_has K q
    exact bstV_some hx K ⟨j, a, b, (h _).2 c⟩
theorem tab_sign {E M P L : Int} {xs qs ys : List Int} {n : Nat} (hx : ∀ j, j < n → 0 ≤ xs.getD j 0) (hq : ∀ j, j < n → 0 ≤ qs.getD j 0) : ∀ r, r ≤ n → ∀ l, 0 ≤ tabV E M P L xs ys n r l ↔ 0 ≤ tabV E M P L qs ys n r l
  | 0, _, l => by rw [tabV, tabV]
  | r + 1, hr, l => by
    have ih := tab_sign (E := E) (M := M) (P := P) (L := L) (ys := ys) hx hq r (by omega)
    rw [tabV, tabV]
    by_cases c : E ≤ l
    · rw [if_pos c, if_pos c]
      exact bst_sign (hx _ (by omega)) (hq _ (by omega)) ih _
    · rw [if_neg c, if_neg c]
/-- With no prices every cost is nought. -/
theorem bst_zero {g : Int → Int} {E M u l : Int} (h : ∀ z, g z ≤ 0) : ∀ K, bstV g E M 0 u l K ≤ 0
  | 0 => by rw [bstV]; omega
  | K + 1 => by
    have := bst_zero (E := E) (M := M) (u := u) (l := l) h K
    have := h (nxT E M l K u)
    rw [bstV]
    split
    · split <;> omega
    · omega
theorem tab_zero {E M P L : Int} {xs ys : List Int} {n : Nat} (hx : ∀ j, xs.getD j 0 = 0) : ∀ r l, tabV E M P L xs ys n r l ≤ 0
  | 0, l => by rw [tabV]; split <;> omega
  | r + 1, l => by
    rw [tabV, hx]
    split
    · exact bst_zero (tab_zero hx r) _
    · omega
/-- The cheapest search with no prices is the search that asks no cost. -/
theorem lazy_lv {E M P L : Int} {xs qs ys : List Int} {n : Nat} (hx : ∀ j, j < n → 0 ≤ xs.getD j 0) (hq : ∀ j, qs.getD j 0 = 0) (hy : ∀ j, j < n → 0 ≤ ys.getD j 0) (h : 0 ≤ tabV E M P L xs ys n n L) (hL : L ≤ M) (h1 : E ≤ L) : ∀ k, k ≤ n → lvV true E M P L qs ys n k = lvV false E M P L xs ys n k ∧ (k < n → volV true E M P L qs ys n k (lvV false E M P L xs ys n k) = volV false E M P L xs ys n k (lvV false E M P L xs ys n k)) := by
  have sg := tab_sign (E := E) (M := M) (P := P) (L := L) (ys := ys) (n := n) hx (qs := qs) (fun j _ => by rw [hq]; omega)
  have zr := tab_zero (E := E) (M := M) (P := P) (L := L) (ys := ys) (n := n) hq
  have vol : ∀ k, k < n → volV true E M P L qs ys n k (lvV false E M P L xs ys n k) = volV false E M P L xs ys n k (lvV false E M P L xs ys n k) := fun k hk => by
    have b := (lvV_ok (ch := false) hy h hL h1 k (by omega)).1
    have c := (sg (n - k) (by omega) _).1 b
    have cz : tabV E M P L qs ys n (n - k) (lvV false E M P L xs ys n k) = 0 := by have := zr (n - k) (lvV false E M P L xs ys n k); omega
    unfold volV
    apply fstK_congr
    intro j
    rw [Bool.eq_iff_iff, pickV_iff, pickV_iff, hq, cz]
    have s := sg (n - (k + 1)) (by omega) (nxT E M (lvV false E M P L xs ys n k) j (ys.getD k 0))
    have z := zr (n - (k + 1)) (nxT E M (lvV false E M P L xs ys n k) j (ys.getD k 0))
    constructor
    · rintro ⟨a, b, _⟩
      exact ⟨a, s.2 b, fun q => nomatch q⟩
    · rintro ⟨a, b, _⟩
      exact ⟨a, s.1 b, fun _ => by have := s.1 b; omega⟩
  intro k
  induction k with
  | zero => exact fun _ => ⟨rfl, fun hk => vol 0 hk⟩
  | succ k ih =>
    intro hk
    have a := ih (by omega)
    refine ⟨?_, fun hk => vol (k + 1) hk⟩
    rw [lvV, lvV, a.1, a.2 (by omega)]
theorem mapK_congr {f g : Nat → Int} : ∀ n, (∀ k, k < n → f k = g k) → mapK f n = mapK g n
  | 0, _ => rfl
  | n + 1, h => by rw [mapK, mapK, mapK_congr n (fun k hk => h k (by omega)), h n (by omega)]
theorem lazy_sch {E M P L : Int} {xs qs ys : List Int} {n : Nat} (hx : ∀ j, j < n → 0 ≤ xs.getD j 0) (hq : ∀ j, qs.getD j 0 = 0) (hy : ∀ j, j < n → 0 ≤ ys.getD j 0) (h : 0 ≤ tabV E M P L xs ys n n L) (hL : L ≤ M) (h1 : E ≤ L) : schV true E M P L qs ys n = schV false E M P L xs ys n := by
  unfold schV
  refine mapK_congr n fun k hk => ?_
  have a := lazy_lv hx hq hy h hL h1 k (by omega)
  unfold vtV
  rw [a.1, a.2 hk]
end Go.Proofs.Ytofcienabddpjaa

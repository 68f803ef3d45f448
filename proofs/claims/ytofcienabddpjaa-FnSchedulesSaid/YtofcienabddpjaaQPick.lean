/- Plain: the cheapest and the lazy schedule. -/
import Derived.Test.YtofcienabddpjaaQTab
import Derived.Test.YtofcienabddpjaaQSched
namespace Go.Proofs.Ytofcienabddpjaa
/-- What the program's search asks of a volume that is not calm, and of a calm one. -/
theorem pick_no {ch : Bool} {g : Int → Int} {E M x u l cur : Int} {k : Nat} (h : okV E M l k u = false) : pickV ch g E M x u l cur k = false := by unfold pickV; rw [h]; rfl
theorem pick_enc {g : Int → Int} {E M x u l cur z : Int} {k : Nat} (ok : okV E M l k u = true) (hz : l + k - u = z) (hc2 : cur < noC) (hx : 0 ≤ x * k) : pickV true g E M x u l cur k = (x * k + encV (g z) == cur) := by
  rw [Bool.eq_iff_iff, pickV_iff, okV_next ok, hz, beq_iff_eq]
  unfold encV
  by_cases h : g z < 0
  · rw [if_pos h]
    constructor
    · rintro ⟨_, a, _⟩; omega
    · intro a; omega
  · rw [if_neg h]
    constructor
    · rintro ⟨_, _, a⟩; exact a rfl
    · intro a; exact ⟨ok, by omega, fun _ => a⟩
theorem pick_ref {ch : Bool} {g : Int → Int} {E M x u l cur z : Int} {k : Nat} (ok : okV E M l k u = true) (hz : l + k - u = z) : pickV ch g E M x u l cur k = (decide (0 ≤ g z) && (!ch || decide (x * k + g z = cur))) := by
  unfold pickV
  rw [ok, okV_next ok, hz]; rfl
section
variable {ch : Bool} {E M P L : Int} {xs ys : List Int}
theorem sch_len (ch : Bool) (E M P L : Int) (xs ys : List Int) (n : Nat) : (schV ch E M P L xs ys n).length = n := mapK_len _ _
theorem sch_get (n : Nat) {k : Nat} (hk : k < n) : (schV ch E M P L xs ys n).getD k 0 = vtV ch E M P L xs ys n k := mapK_get _ hk
theorem sch_lev (n : Nat) : ∀ k, k ≤ n → levT E M L (schV ch E M P L xs ys n) ys k = lvV ch E M P L xs ys n k
  | 0, _ => rfl
  | k + 1, hk => by
    rw [levT, lvV, sch_lev n k (by omega), sch_get n (by omega)]; rfl
theorem calm_all {zs : List Int} : ∀ n, (∀ k, k < n → calmK E M L zs ys k = true) → calmT E M L zs ys n = true
  | 0, _ => rfl
  | n + 1, h => by rw [calmT, calm_all n (fun k hk => h k (by omega)), h n (by omega)]; rfl
theorem sch_good (g : goodPm L E M P xs ys = true) (h : 0 ≤ tabV E M P L xs ys ys.length ys.length L) : goodS L E M P xs ys (schV ch E M P L xs ys ys.length) = true := by
  have nb := NumB.of g
  have hy : ∀ j, j < ys.length → 0 ≤ ys.getD j 0 := fun j hj => (nb.hy j hj).1
  have lv := lvV_ok (ch := ch) hy h nb.lm nb.el
  have vo := fun k (hk : k < ys.length) => vol_ok (ch := ch) hk (lv k (by omega)).1
  unfold goodS
  rw [g, sch_len]
  simp only [Bool.true_and, decide_true, Bool.and_eq_true, decide_eq_true_eq]
  refine ⟨?_, ?_, ?_⟩
  · refine volsB_end fun j hj => ?_
    rw [sch_len] at hj
    rw [sch_get _ hj]
    have := (vo j hj).1
    have := nb.p0
    unfold vtV
    exact inB_mk (by omega) (by omega)
  · refine calm_all _ fun k hk => ?_
    have p := (pickV_iff.1 (vo k hk).2).1
    unfold calmK spK msK
    rw [sch_lev _ k (by omega), sch_get _ hk]
    exact p
  · rw [sch_lev _ _ (Nat.le_refl _)]
    have a := (lv _ (Nat.le_refl _)).1
    rw [Nat.sub_self, tabV] at a
    split at a
    · assumption
    · omega
end
/-- The first schedule by some prices; what the program and the reference return. -/
def firstT (E M P L : Int) (qs ys : List Int) : List Int × Int × Bool :=
  if tabV E M P L qs ys ys.length ys.length L < 0 then ([], 0, false) else (schV true E M P L qs ys ys.length, tabV E M P L qs ys ys.length ys.length L, true)
def bestT (ch : Bool) (E M P L : Int) (xs ys : List Int) : List Int × Bool :=
  if tabV E M P L xs ys ys.length ys.length L < 0 then ([], false) else (schV ch E M P L xs ys ys.length, true)
def cheapT (E M P L : Int) (xs ys : List Int) : List Int × Int × Bool := if goodPm L E M P xs ys = true then firstT E M P L xs ys else ([], 0, false)
def lazyT (E M P L : Int) (xs ys : List Int) : List Int × Bool := if goodPm L E M P xs ys = true then bestT false E M P L xs ys else ([], false)
theorem firstT_lazy {E M P L : Int} {xs qs ys : List Int} (g : goodPm L E M P xs ys = true) (hq : ∀ j, qs.getD j 0 = 0) : ((firstT E M P L qs ys).1, (firstT E M P L qs ys).2.2) = bestT false E M P L xs ys := by
  have nb := NumB.of g
  have hy : ∀ j, j < ys.length → 0 ≤ ys.getD j 0 := fun j hj => (nb.hy j hj).1
  have hx : ∀ j, j < ys.length → 0 ≤ xs.getD j 0 := fun j hj => (nb.hq j hj).1
  have s := tab_sign (E := E) (M := M) (P := P) (L := L) (ys := ys) hx (qs := qs) (fun j _ => by rw [hq]; omega) ys.length (Nat.le_refl _) L
  unfold firstT bestT
  by_cases h : tabV E M P L xs ys ys.length ys.length L < 0
  · rw [if_pos h, if_pos (by omega)]
  · rw [if_neg h, if_neg (by omega), lazy_sch hx hq hy (by omega) nb.lm nb.el]
theorem firstT_len (E M P L : Int) (qs ys : List Int) : (firstT E M P L qs ys).1.length ≤ ys.length := by
  unfold firstT
  split
  · simp
  · simp [sch_len]
theorem bestT_len (ch : Bool) (E M P L : Int) (qs ys : List Int) : (bestT ch E M P L qs ys).1.length ≤ ys.length := by
  unfold bestT
  split
  · simp
  · simp [sch_len]
theorem cheapT_len (E M P L : Int) (xs ys : List Int) : (cheapT E M P L xs ys).1.length ≤ ys.length := by
  unfold cheapT
  split
  · exact firstT_len _ _ _ _ _ _
  · simp
theorem lazyT_len (E M P L : Int) (xs ys : List Int) : (lazyT E M P L xs ys).1.length ≤ ys.length := by
  unfold lazyT
  split
  · exact bestT_len _ _ _ _ _ _ _
  · simp
end Go.Proofs.Ytofcienabddpjaa

/- Plain: good schedules and the costs to go. -/
import Derived.Test.YtofcienabddpjaaVPlain
import Derived.Test.YtofcienabddpjaaEPlain
namespace Go.Proofs.Ytofcienabddpjaa
theorem calmT_at {E M L : Int} {zs ys : List Int} {n k : Nat} (h : calmT E M L zs ys n = true) (hk : k < n) : calmK E M L zs ys k = true := by
  cases e : calmK E M L zs ys k
  · rw [calmT_bad e hk] at h; cases h
  · rfl
theorem calmT_mk {E M L : Int} {zs ys : List Int} : ∀ n, (∀ k, k < n → calmK E M L zs ys k = true) → calmT E M L zs ys n = true
  | 0, _ => rfl
  | n + 1, h => by rw [calmT, calmT_mk n (fun k hk => h k (by omega)), h n (by omega)]; rfl
theorem volsB_at {P : Int} {zs : List Int} (h : volsB P zs = true) {k : Nat} (hk : k < zs.length) : 0 ≤ zs.getD k 0 ∧ zs.getD k 0 ≤ P := by
  cases e : inB (zs.getD k 0) 0 P
  · rw [volsB_bad hk e] at h; cases h
  · exact inB_out e
/-- A good schedule costs the cost to go at least. -/
theorem good_tab {L E M P : Int} {xs ys zs : List Int} (h : goodS L E M P xs ys zs = true) : 0 ≤ tabV E M P L xs ys ys.length ys.length L ∧ tabV E M P L xs ys ys.length ys.length L ≤ costS xs zs zs.length := by
  obtain ⟨g, hl, hv⟩ := goodS_out h
  have nb := NumB.of g
  obtain ⟨e0, el, lm, m1, g0, g1, n1, n2, nq, hq, hy⟩ := id nb
  simp only [goodS, Bool.and_eq_true, decide_eq_true_eq] at h
  obtain ⟨_, _, _, hc, hL⟩ := h
  rw [hl] at hc hL ⊢
  have key : ∀ r, r ≤ ys.length → 0 ≤ tabV E M P L xs ys ys.length r (levT E M L zs ys (ys.length - r)) ∧ costS xs zs (ys.length - r) + tabV E M P L xs ys ys.length r (levT E M L zs ys (ys.length - r)) ≤ costS xs zs ys.length := by
    intro r
    induction r with
    | zero => intro _; rw [Nat.sub_zero, tabV, if_pos hL]; omega
    | succ r ih =>
      intro hr
      have i := ih (by omega)
      obtain ⟨k, hk⟩ : ∃ k, k = ys.length - (r + 1) := ⟨_, rfl⟩
      have e1 : ys.length - r = k + 1 := by omega
      rw [e1] at i
      rw [← hk]
      have hkn : k < ys.length := by omega
      have v := volsB_at hv (show k < zs.length by omega)
      have c := calmT_at hc hkn
      have lb := (levT_b (zs := zs) el lm hy k (by omega)).1
      obtain ⟨z, hz⟩ := Int.eq_ofNat_of_zero_le v.1
      have ok : okV E M (levT E M L zs ys k) z (ys.getD k 0) = true := by rw [← hz]; exact c
      have nx : levT E M L zs ys (k + 1) = nxT E M (levT E M L zs ys k) z (ys.getD k 0) := by rw [levT, hz]
      rw [nx] at i
      have b := bstV_le (g := tabV E M P L xs ys ys.length r) (hq k hkn).1 (P.toNat + 1) z (by omega) ok i.1
      rw [tabV, ← hk, if_pos lb]
      rw [costS, hz] at i
      omega
  have k0 := key ys.length (Nat.le_refl _)
  rw [Nat.sub_self, costS, levT] at k0
  omega
/-- The schedules by the table are good. -/
theorem sch_goodS {ch : Bool} {L E M P : Int} {xs ys : List Int} (g : goodPm L E M P xs ys = true) (h : 0 ≤ tabV E M P L xs ys ys.length ys.length L) : goodS L E M P xs ys (schV ch E M P L xs ys ys.length) = true := by
  have nb := NumB.of g
  obtain ⟨e0, el, lm, m1, g0, g1, n1, n2, nq, hq, hy⟩ := id nb
  have hy0 : ∀ j, j < ys.length → 0 ≤ ys.getD j 0 := fun j hj => (hy j hj).1
  have lv := lvV_ok (ch := ch) hy0 h lm el
  have len : (schV ch E M P L xs ys ys.length).length = ys.length := mapK_len _ _
  have get : ∀ k, k < ys.length → (schV ch E M P L xs ys ys.length).getD k 0 = (volV ch E M P L xs ys ys.length k (lvV ch E M P L xs ys ys.length k) : Int) := fun k hk => mapK_get _ hk
  have lev : ∀ k, k ≤ ys.length → levT E M L (schV ch E M P L xs ys ys.length) ys k = lvV ch E M P L xs ys ys.length k := by
    intro k
    induction k with
    | zero => intro _; rfl
    | succ k ih => intro hk; rw [levT, lvV, ih (by omega), get k (by omega)]
  have vol : ∀ k, k < ys.length → volV ch E M P L xs ys ys.length k (lvV ch E M P L xs ys ys.length k) < P.toNat + 1 ∧ okV E M (lvV ch E M P L xs ys ys.length k) (volV ch E M P L xs ys ys.length k (lvV ch E M P L xs ys ys.length k)) (ys.getD k 0) = true := fun k hk => by
    have v := vol_ok (ch := ch) hk (lv k (by omega)).1
    exact ⟨v.1, (pickV_iff.1 v.2).1⟩
  have hv : volsB P (schV ch E M P L xs ys ys.length) = true := volsB_end fun j hj => by
    rw [len] at hj
    have v := (vol j hj).1
    rw [get j hj]
    exact inB_mk (by omega) (by omega)
  have hc : calmT E M L (schV ch E M P L xs ys ys.length) ys ys.length = true := calmT_mk _ fun k hk => by
    have v := (vol k hk).2
    unfold calmK spK msK
    rw [lev k (by omega), get k hk]
    exact v
  have hL : L ≤ levT E M L (schV ch E M P L xs ys ys.length) ys ys.length := by
    have a := (lv ys.length (Nat.le_refl _)).1
    rw [Nat.sub_self, tabV] at a
    rw [lev _ (Nat.le_refl _)]
    by_cases q : L ≤ lvV ch E M P L xs ys ys.length ys.length
    · exact q
    · rw [if_neg q] at a; omega
  unfold goodS
  rw [g, len, hv, hc, decide_eq_true hL]
  simp
/-- What the law asks of the schedules. -/
theorem sched_facts (L E M P : Int) (xs ys : List Int) :
    (cheapT E M P L xs ys = ([], 0, false) ∧ lazyT E M P L xs ys = ([], false) ∧ eagerT L E M P xs ys = ([], false) ∧ ∀ zs, goodS L E M P xs ys zs = false) ∨
    (∃ (best lazy : List Int) (m : Int), cheapT E M P L xs ys = (best, m, true) ∧ lazyT E M P L xs ys = (lazy, true) ∧ scost L E M P xs ys best = (m, true) ∧ (∃ q, scost L E M P xs ys lazy = (q, true) ∧ m ≤ q) ∧ (best.length ≤ 12 ∧ lazy.length ≤ 12) ∧
      (∀ zs, goodS L E M P xs ys zs = true → ∃ q, scost L E M P xs ys zs = (q, true) ∧ m ≤ q) ∧ (eagerT L E M P xs ys = ([], false) ∨ ∃ eg q, eagerT L E M P xs ys = (eg, true) ∧ eg.length ≤ 12 ∧ scost L E M P xs ys eg = (q, true) ∧ m ≤ q)) := by
  by_cases g : goodPm L E M P xs ys = true
  · have nb := NumB.of g
    have n2 := nb.n2
    have hy0 : ∀ j, j < ys.length → 0 ≤ ys.getD j 0 := fun j hj => (nb.hy j hj).1
    by_cases c : tabV E M P L xs ys ys.length ys.length L < 0
    · have no : ∀ zs, goodS L E M P xs ys zs = false := fun zs => by
        cases e : goodS L E M P xs ys zs
        · rfl
        · have := (good_tab e).1; omega
      refine .inl ⟨?_, ?_, eagerT_no (no _), no⟩
      · unfold cheapT firstT; rw [if_pos g, if_pos c]
      · unfold lazyT bestT; rw [if_pos g, if_pos c]
    · have s1 := sch_goodS (ch := true) g (by omega)
      have s2 := sch_goodS (ch := false) g (by omega)
      have len1 : (schV true E M P L xs ys ys.length).length = ys.length := mapK_len _ _
      have len2 : (schV false E M P L xs ys ys.length).length = ys.length := mapK_len _ _
      have all : ∀ zs, goodS L E M P xs ys zs = true → ∃ q, scost L E M P xs ys zs = (q, true) ∧ tabV E M P L xs ys ys.length ys.length L ≤ q := fun zs h => ⟨_, by unfold scost; rw [if_pos h], (good_tab h).2⟩
      refine .inr ⟨schV true E M P L xs ys ys.length, schV false E M P L xs ys ys.length, tabV E M P L xs ys ys.length ys.length L, ?_, ?_, ?_, all _ s2, by omega, all, ?_⟩
      · unfold cheapT firstT; rw [if_pos g, if_neg c]
      · unfold lazyT bestT; rw [if_pos g, if_neg c]
      · unfold scost; rw [if_pos s1, len1, cost_all hy0 (by omega) nb.lm nb.el]
      · cases e : goodS L E M P xs ys (egZ E M P L ys)
        · exact .inl (eagerT_no e)
        · obtain ⟨q, h1, h2⟩ := all _ e
          exact .inr ⟨_, q, eagerT_yes e, by rw [egZ_len]; omega, h1, h2⟩
  · have g' : goodPm L E M P xs ys = false := by simpa using g
    have no : ∀ zs, goodS L E M P xs ys zs = false := fun zs => by unfold goodS; rw [g']; rfl
    refine .inl ⟨?_, ?_, eagerT_no (no _), no⟩
    · unfold cheapT; rw [if_neg g]
    · unfold lazyT; rw [if_neg g]
theorem lazyT_lenY {L E M P : Int} {xs ys : List Int} : (lazyT E M P L xs ys).1.length ≤ ys.length := by
  unfold lazyT bestT
  split
  · split
    · simp
    · show (schV false E M P L xs ys ys.length).length ≤ _; rw [show (schV false E M P L xs ys ys.length).length = ys.length from mapK_len _ _]; omega
  · simp
end Go.Proofs.Ytofcienabddpjaa

/- Plain: what the great law on zones asks. -/
import Derived.Test.YtakpoalcfjedlaaZFPlain
namespace Go.Proofs.Ytakpoalcfjedlaa
theorem mxK_ge {xs : List Int} : ∀ k, ∀ j, j ≤ k → xs.getD j 0 ≤ mxK xs k
  | 0, j, h => by obtain rfl : j = 0 := by omega
                  exact Int.le_refl _
  | k + 1, j, h => by
    rw [mxK]
    by_cases e : j = k + 1
    · subst e; split <;> omega
    · have := mxK_ge (xs := xs) k j (by omega)
      split <;> omega
theorem mnK_le {xs : List Int} : ∀ k, ∀ j, j ≤ k → mnK xs k ≤ xs.getD j 0
  | 0, j, h => by obtain rfl : j = 0 := by omega
                  exact Int.le_refl _
  | k + 1, j, h => by
    rw [mnK]
    by_cases e : j = k + 1
    · subst e; split <;> omega
    · have := mnK_le (xs := xs) k j (by omega)
      split <;> omega
theorem mxK_mem {xs : List Int} : ∀ k, ∃ j, j ≤ k ∧ xs.getD j 0 = mxK xs k
  | 0 => ⟨0, Nat.le_refl _, rfl⟩
  | k + 1 => by
    obtain ⟨j, hj, e⟩ := mxK_mem (xs := xs) k
    rw [mxK]
    split
    · exact ⟨k + 1, Nat.le_refl _, rfl⟩
    · exact ⟨j, by omega, e⟩
theorem mnK_mem {xs : List Int} : ∀ k, ∃ j, j ≤ k ∧ xs.getD j 0 = mnK xs k
  | 0 => ⟨0, Nat.le_refl _, rfl⟩
  | k + 1 => by
    obtain ⟨j, hj, e⟩ := mnK_mem (xs := xs) k
    rw [mnK]
    split
    · exact ⟨k + 1, Nat.le_refl _, rfl⟩
    · exact ⟨j, by omega, e⟩
/-- Some level suits all places. -/
def allZ (xs : List Int) (L M : Int) : Bool := decide (xs.length ≠ 0) && decide (mxK xs (xs.length - 1) + L ≤ mnK xs (xs.length - 1) + M)
theorem levL_all {xs : List Int} {L M : Int} (h : goodZ xs L M = true) : (levL xs L M).2.2 = allZ xs L M := by
  unfold levL allZ
  by_cases h0 : xs.length = 0
  · rw [if_neg (by simp [h0])]; simp [h0]
  · rw [if_pos ⟨h, h0⟩]
    by_cases h1 : mnK xs (xs.length - 1) + M < mxK xs (xs.length - 1) + L
    · rw [if_pos h1, decide_eq_false (show ¬ mxK xs (xs.length - 1) + L ≤ mnK xs (xs.length - 1) + M by omega), Bool.and_false]
    · rw [if_neg h1, decide_eq_true (show mxK xs (xs.length - 1) + L ≤ mnK xs (xs.length - 1) + M by omega), decide_eq_true h0]; rfl
theorem allZ_of {xs : List Int} {L M l : Int} (h0 : xs.length ≠ 0) (h : ∀ j, j < xs.length → suitP L M l (xs.getD j 0) = true) : allZ xs L M = true := by
  obtain ⟨j, hj, e⟩ := mxK_mem (xs := xs) (xs.length - 1)
  obtain ⟨i, hi, e2⟩ := mnK_mem (xs := xs) (xs.length - 1)
  have a := inB_out (h j (by omega))
  have b := inB_out (h i (by omega))
  unfold allZ
  rw [decide_eq_true h0, decide_eq_true (by omega)]
  rfl
theorem allZ_suits {xs : List Int} {L M : Int} (h : allZ xs L M = true) : xs.length ≠ 0 ∧ ∀ j, j < xs.length → suitP L M (mnK xs (xs.length - 1) + M) (xs.getD j 0) = true := by
  unfold allZ at h
  simp only [Bool.and_eq_true, decide_eq_true_eq] at h
  refine ⟨h.1, fun j hj => ?_⟩
  have a := mxK_ge (xs := xs) (xs.length - 1) j (by omega)
  have b := mnK_le (xs := xs) (xs.length - 1) j (by omega)
  exact inB_mk (by omega) (by omega)
/-- The levels ascend; whoever is left lies above them all. -/
structure AscI (L M : Int) (xs out : List Int) : Prop where
  up : out.Pairwise (· < ·)
  left : ∀ l, l ∈ out → ∀ j, j < xs.length → unS L M out (xs.getD j 0) = true → l - M < xs.getD j 0
theorem AscI.next {L M : Int} {xs out : List Int} (h : AscI L M xs out) (g : goodR L M = true) (hx : ∀ j, j < xs.length → 0 ≤ xs.getD j 0 ∧ xs.getD j 0 ≤ 1000) (hl : 0 ≤ lowU L M out xs xs.length) : AscI L M xs (out ++ [lowU L M out xs xs.length + M]) := by
  obtain ⟨i, hi, ei, ui⟩ := lowU_mem (L := L) (M := M) (out := out) (xs := xs) xs.length (Nat.le_refl _) hl
  refine ⟨?_, fun l hm j hj u => ?_⟩
  · rw [List.pairwise_append]
    refine ⟨h.up, List.pairwise_singleton _ _, fun a ha b hb => ?_⟩
    rw [List.mem_singleton] at hb
    subst hb
    have := h.left a ha i hi ui
    omega
  · rw [unS_snoc, Bool.and_eq_true] at u
    rcases List.mem_append.1 hm with hm | hm
    · exact h.left l hm j hj u.1
    · rw [List.mem_singleton] at hm
      subst hm
      have a := lowU_le hx xs.length (Nat.le_refl _) j hj u.1
      have s := suitP_self (y := lowU L M out xs xs.length) g
      by_cases e : xs.getD j 0 = lowU L M out xs xs.length
      · rw [← e] at s u
        have := u.2
        rw [s] at this; cases this
      · omega
theorem asc_all {L M : Int} {xs : List Int} (g : goodR L M = true) (hx : ∀ j, j < xs.length → 0 ≤ xs.getD j 0 ∧ xs.getD j 0 ≤ 1000) : ∀ m out, AscI L M xs out → AscI L M xs (fewD L M xs m out)
  | 0, out, h => h
  | m + 1, out, h => by
    rw [fewD]
    split
    · exact h
    · rename_i q
      exact asc_all g hx m _ (h.next g hx (by omega))
theorem few_one {L M : Int} {xs : List Int} (g : goodR L M = true) (hx : ∀ j, j < xs.length → 0 ≤ xs.getD j 0 ∧ xs.getD j 0 ≤ 1000) : allZ xs L M = decide ((fewS L M xs).length = 1) := by
  obtain ⟨f1, f2, f3⟩ := fewS_ok g hx
  cases e : allZ xs L M
  · symm
    apply decide_eq_false
    intro h1
    have h0 : xs.length ≠ 0 := by omega
    have : allZ xs L M = true := allZ_of (l := (fewS L M xs).getD 0 0) h0 fun j hj => by
      obtain ⟨k, hk, s⟩ := f3 j hj
      obtain rfl : k = 0 := by omega
      exact s
    rw [e] at this; cases this
  · obtain ⟨h0, s⟩ := allZ_suits e
    symm
    apply decide_eq_true
    obtain ⟨i, hi, ei⟩ := mnK_mem (xs := xs) (xs.length - 1)
    have u0 : unS L M [] (xs.getD i 0) = true := rfl
    have a := lowU_le (L := L) (M := M) (out := []) hx xs.length (Nat.le_refl _) i (by omega) u0
    obtain ⟨q, hq, eq, _⟩ := lowU_mem (L := L) (M := M) (out := []) (xs := xs) xs.length (Nat.le_refl _) a.1
    have b := mnK_le (xs := xs) (xs.length - 1) q (by omega)
    have lo : lowU L M [] xs xs.length = mnK xs (xs.length - 1) := by omega
    obtain ⟨k, hk, I⟩ := (FewI.start L M xs).next g hx a.1
    have st := I.stop (by
      rcases Int.lt_or_le (lowU L M ([] ++ [lowU L M [] xs xs.length + M]) xs xs.length) 0 with h | h
      · exact h
      · obtain ⟨p, hp, _, up⟩ := lowU_mem (L := L) (M := M) (out := [] ++ [lowU L M [] xs xs.length + M]) (xs := xs) xs.length (Nat.le_refl _) h
        rw [unS_snoc, lo, s p hp] at up
        simp at up)
    rw [← st]; rfl
theorem bst_ge {xs : List Int} {L M : Int} : ∀ k j : Nat, j < k → ((suitedL xs L M j).length : Int) ≤ (bstK xs L M k).2
  | k + 1, j, h => by
    rw [bstK]
    by_cases e : j = k
    · subst e; split
      · exact Int.le_refl _
      · omega
    · have := bst_ge (xs := xs) (L := L) (M := M) k j (by omega)
      split
      · rename_i q; simp only; omega
      · exact this
theorem bst_at {xs : List Int} {L M : Int} : ∀ k : Nat, (bstK xs L M k).2 = 0 ∨ ∃ j : Nat, j < k ∧ (bstK xs L M k).2 = ((suitedL xs L M j).length : Int)
  | 0 => .inl rfl
  | k + 1 => by
    rw [bstK]
    split
    · exact .inr ⟨k, by omega, rfl⟩
    · rcases bst_at (xs := xs) (L := L) (M := M) k with h | ⟨j, hj, e⟩
      · exact .inl h
      · exact .inr ⟨j, by omega, e⟩
theorem suited_len (xs : List Int) (L M l : Int) : (suitedL xs L M l).length ≤ xs.length := suitK_len _ _ _
theorem suited_all {xs : List Int} {L M l : Int} : (suitedL xs L M l).length = xs.length ↔ ∀ j, j < xs.length → suitP L M l (xs.getD j 0) = true := by
  unfold suitedL suitK
  rw [List.length_map]
  constructor
  · intro h j hj
    have h2 : ((List.range xs.length).filter fun i => suitP L M l (xs.getD i 0)).length = (List.range xs.length).length := by rw [h, List.length_range]
    rw [List.length_filter_eq_length_iff] at h2
    exact h2 j (List.mem_range.2 hj)
  · intro h
    have : ((List.range xs.length).filter fun i => suitP L M l (xs.getD i 0)) = List.range xs.length := by
      rw [List.filter_eq_self]
      intro j hj
      exact h j (List.mem_range.1 hj)
    rw [this, List.length_range]
theorem best_all {L M : Int} {xs : List Int} (g : goodR L M = true) (hx : ∀ j, j < xs.length → 0 ≤ xs.getD j 0 ∧ xs.getD j 0 ≤ 1000) : allZ xs L M = (decide ((bstK xs L M 2001).2 = xs.length) && decide (0 < (bstK xs L M 2001).2)) := by
  obtain ⟨r1, r2, r3⟩ := goodR_out g
  have at_ := bst_at (xs := xs) (L := L) (M := M) 2001
  have ge := bst_ge (xs := xs) (L := L) (M := M) 2001
  generalize (bstK xs L M 2001).2 = n at *
  cases e : allZ xs L M
  · symm
    rw [Bool.and_eq_false_iff]
    by_cases h0 : n = xs.length
    · right
      apply decide_eq_false
      intro hn
      rcases at_ with h | ⟨j, hj, ej⟩
      · omega
      · have s := suited_all.1 (show (suitedL xs L M j).length = xs.length by omega)
        have := allZ_of (by omega) s
        rw [e] at this; cases this
    · exact .inl (decide_eq_false h0)
  · obtain ⟨h0, s⟩ := allZ_suits e
    obtain ⟨i, hi, ei⟩ := mnK_mem (xs := xs) (xs.length - 1)
    have xb := hx i (by omega)
    obtain ⟨k, hk⟩ : ∃ k : Nat, mnK xs (xs.length - 1) + M = k := ⟨(mnK xs (xs.length - 1) + M).toNat, by omega⟩
    rw [hk] at s
    have l := suited_all.2 s
    have a := ge k (by omega)
    have le : n ≤ xs.length := by
      rcases at_ with h | ⟨j, hj, ej⟩
      · omega
      · have := suited_len xs L M j; omega
    rw [decide_eq_true (show n = xs.length by omega), decide_eq_true (show 0 < n by omega)]
    rfl
/-- What the law asks of the zones. -/
theorem zones_law {xs : List Int} {L M : Int} (h : goodZ xs L M = true) :
    goodR L M = true ∧ ((levL xs L M).2.2 = decide ((fewS L M xs).length = 1)) ∧ ((levL xs L M).2.2 = (decide ((bstK xs L M 2001).2 = xs.length) && decide (0 < (bstK xs L M 2001).2))) ∧ (0 ≤ (bstK xs L M 2001).2 ∧ (bstK xs L M 2001).2 ≤ 12) ∧ (fewS L M xs).length ≤ 12 ∧
    (∀ j, j < xs.length → 0 ≤ xs.getD j 0 ∧ xs.getD j 0 ≤ 1000) ∧
    (∀ j, j < xs.length → ∃ k : Nat, k < (fewS L M xs).length ∧ (zoneS L M xs).getD j 0 = k ∧ L ≤ (fewS L M xs).getD k 0 - xs.getD j 0 ∧ (fewS L M xs).getD k 0 - xs.getD j 0 ≤ M) ∧
    (∀ k, k < (fewS L M xs).length → (0 ≤ (fewS L M xs).getD k 0 ∧ (fewS L M xs).getD k 0 ≤ 1200) ∧ suitL xs L M ((fewS L M xs).getD k 0) = (suitedL xs L M ((fewS L M xs).getD k 0), true) ∧ ((suitedL xs L M ((fewS L M xs).getD k 0)).length : Int) ≤ (bstK xs L M 2001).2) ∧
    (∀ k, k + 1 < (fewS L M xs).length → (fewS L M xs).getD k 0 < (fewS L M xs).getD (k + 1) 0) := by
  have hgz : goodL xs = true ∧ goodR L M = true := by unfold goodZ at h; simpa using h
  obtain ⟨gl, gr⟩ := hgz
  obtain ⟨n12, hx⟩ := goodL_out gl
  obtain ⟨f1, f2, f3⟩ := fewS_ok gr hx
  have asc := asc_all gr hx xs.length [] ⟨List.Pairwise.nil, fun l hl => (by cases hl)⟩
  have la := levL_all h
  refine ⟨gr, by rw [la, few_one gr hx], by rw [la, best_all gr hx], ?_, by omega, hx, fun j hj => ?_, fun k hk => ?_, fun k hk => ?_⟩
  · rcases bst_at (xs := xs) (L := L) (M := M) 2001 with e | ⟨j, hj, e⟩
    · omega
    · have := suited_len xs L M j; omega
  · obtain ⟨k, hk, s⟩ := f3 j hj
    have z : (zoneS L M xs).getD j 0 = idxI (fun l => suitP L M l (xs.getD j 0)) (fewS L M xs) := by
      unfold zoneS
      simp [List.getD_eq_getElem?_getD, hj]
    rcases (show idxI (fun l => suitP L M l (xs.getD j 0)) (fewS L M xs) = -1 ∨ ∃ q : Nat, q < (fewS L M xs).length ∧ idxI (fun l => suitP L M l (xs.getD j 0)) (fewS L M xs) = q ∧ suitP L M ((fewS L M xs).getD q 0) (xs.getD j 0) = true by
      unfold idxI
      cases e : (fewS L M xs).findIdx? (fun l => suitP L M l (xs.getD j 0)) with
      | none => exact .inl rfl
      | some q =>
        rw [List.findIdx?_eq_some_iff_getElem] at e
        obtain ⟨hq, h1, _⟩ := e
        exact .inr ⟨q, hq, rfl, by simpa [List.getD_eq_getElem?_getD, hq] using h1⟩) with e | ⟨q, hq, e, sq⟩
    · exfalso
      unfold idxI at e
      cases e2 : (fewS L M xs).findIdx? (fun l => suitP L M l (xs.getD j 0)) with
      | none =>
        rw [List.findIdx?_eq_none_iff] at e2
        have := e2 _ (getD_mem hk)
        rw [s] at this; cases this
      | some q => rw [e2] at e; simp only at e; omega
    · have := inB_out sq
      exact ⟨q, hq, by rw [z, e], this.1, this.2⟩
  · have b := f2 k hk
    refine ⟨b, suitL_yes h (inB_mk (by omega) (by omega)), ?_⟩
    obtain ⟨q, hq⟩ := Int.eq_ofNat_of_zero_le b.1
    rw [hq]
    exact bst_ge 2001 q (by omega)
  · have p := asc.up
    rw [List.pairwise_iff_getElem] at p
    have := p k (k + 1) (by show k < (fewS L M xs).length; omega) hk (by omega)
    have e1 : (fewS L M xs).getD k 0 = (fewS L M xs)[k] := by simp [List.getD_eq_getElem?_getD, show k < (fewS L M xs).length by omega]
    have e2 : (fewS L M xs).getD (k + 1) 0 = (fewS L M xs)[k + 1] := by simp [List.getD_eq_getElem?_getD, hk]
    rw [e1, e2]
    exact this
end Go.Proofs.Ytakpoalcfjedlaa

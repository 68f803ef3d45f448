/- Plain: the fewest levels, and the zones of the places. -/
import Derived.Test.YtakpoalcfjedlaaZPlain
import Derived.Test.YtakpoalcfjedlaaSlices
namespace Go.Proofs.Ytakpoalcfjedlaa
/-- Is a place suited by one of the first k levels? -/
def sK (L M : Int) (out : List Int) (e : Int) : Nat → Bool
  | 0 => false
  | k + 1 => sK L M out e k || suitP L M (out.getD k 0) e
/-- Is a place suited by no level? -/
def unS (L M : Int) (out : List Int) (e : Int) : Bool := !out.any fun l => suitP L M l e
theorem sK_take (L M : Int) (out : List Int) (e : Int) : ∀ k, k ≤ out.length → sK L M out e k = (out.take k).any fun l => suitP L M l e
  | 0, _ => rfl
  | k + 1, h => by
    rw [sK, sK_take L M out e k (by omega), List.take_succ_eq_append_getElem (by omega), List.any_append]
    simp [List.getD_eq_getElem?_getD, show k < out.length by omega]
theorem sK_all (L M : Int) (out : List Int) (e : Int) : (!sK L M out e out.length) = unS L M out e := by
  rw [sK_take _ _ _ _ _ (Nat.le_refl _), List.take_length]; rfl
theorem sK_yes {L M : Int} {out : List Int} {e : Int} {k : Nat} (h : sK L M out e k = true) : sK L M out e (k + 1) = true := by rw [sK, h]; rfl
theorem sK_next {L M : Int} {out : List Int} {e l : Int} {k : Nat} (h : sK L M out e k = false) (hl : l = out.getD k 0) : sK L M out e (k + 1) = suitP L M l e := by rw [sK, h, hl]; rfl
/-- The lowest of the first k places that no level suits; -1 if there is none. -/
def lowU (L M : Int) (out xs : List Int) : Nat → Int
  | 0 => -1
  | k + 1 => if unS L M out (xs.getD k 0) = true ∧ (lowU L M out xs k < 0 ∨ xs.getD k 0 < lowU L M out xs k) then xs.getD k 0 else lowU L M out xs k
theorem lowU_b {L M : Int} {out xs : List Int} (h : ∀ j, j < xs.length → 0 ≤ xs.getD j 0 ∧ xs.getD j 0 ≤ 1000) : ∀ k, k ≤ xs.length → -1 ≤ lowU L M out xs k ∧ lowU L M out xs k ≤ 1000
  | 0, _ => by rw [lowU]; omega
  | k + 1, hk => by
    have i := lowU_b (L := L) (M := M) (out := out) h k (by omega)
    have x := h k (by omega)
    rw [lowU]; split <;> omega
theorem lowU_mem {L M : Int} {out xs : List Int} : ∀ k, k ≤ xs.length → 0 ≤ lowU L M out xs k → ∃ j, j < xs.length ∧ xs.getD j 0 = lowU L M out xs k ∧ unS L M out (xs.getD j 0) = true
  | 0, _, h => by rw [lowU] at h; omega
  | k + 1, hk, h => by
    rw [lowU] at h ⊢
    split at h
    · rename_i c
      rw [if_pos c]
      exact ⟨k, by omega, rfl, c.1⟩
    · rename_i c
      rw [if_neg c]
      exact lowU_mem k (by omega) h
theorem lowU_le {L M : Int} {out xs : List Int} (h : ∀ j, j < xs.length → 0 ≤ xs.getD j 0 ∧ xs.getD j 0 ≤ 1000) : ∀ k, k ≤ xs.length → ∀ j, j < k → unS L M out (xs.getD j 0) = true → 0 ≤ lowU L M out xs k ∧ lowU L M out xs k ≤ xs.getD j 0
  | 0, _, j, hj, _ => by omega
  | k + 1, hk, j, hj, hu => by
    have x := h k (by omega)
    rw [lowU]
    by_cases e : j = k
    · subst e
      split
      · omega
      · rename_i c
        have : ¬ (lowU L M out xs j < 0 ∨ xs.getD j 0 < lowU L M out xs j) := fun q => c ⟨hu, q⟩
        omega
    · have i := lowU_le h k (by omega) j (by omega) hu
      split
      · rename_i c; omega
      · exact i
/-- How many places are left. -/
def cntU (L M : Int) (out xs : List Int) : Nat := (xs.filter (unS L M out)).length
/-- The levels, with fuel. -/
def fewD (L M : Int) (xs : List Int) : Nat → List Int → List Int
  | 0, out => out
  | n + 1, out => if lowU L M out xs xs.length < 0 then out else fewD L M xs n (out ++ [lowU L M out xs xs.length + M])
def fewS (L M : Int) (xs : List Int) : List Int := fewD L M xs xs.length []
def fewL (xs : List Int) (L M : Int) : List Int × Bool := if goodZ xs L M = true then (fewS L M xs, true) else ([], false)
theorem fewL_no {xs : List Int} {L M : Int} (h : goodZ xs L M = false) : fewL xs L M = ([], false) := by unfold fewL; rw [if_neg (by simp [h])]
theorem fewL_yes {xs : List Int} {L M : Int} (h : goodZ xs L M = true) : fewL xs L M = (fewS L M xs, true) := by unfold fewL; rw [if_pos h]
theorem unS_snoc (L M : Int) (out : List Int) (l e : Int) : unS L M (out ++ [l]) e = (unS L M out e && !suitP L M l e) := by
  unfold unS; rw [List.any_append]; simp
theorem filter_snoc (L M : Int) (out zs : List Int) (l : Int) : (zs.filter (unS L M out)).filter (fun e => !suitP L M l e) = zs.filter (unS L M (out ++ [l])) := by
  rw [List.filter_filter]
  congr 1
  funext e
  rw [unS_snoc, Bool.and_comm]
theorem suitP_self {L M y : Int} (h : goodR L M = true) : suitP L M (y + M) y = true := by
  obtain ⟨a, b, c⟩ := goodR_out h
  exact inB_mk (by omega) (by omega)
theorem mem_getD {xs : List Int} {x : Int} (h : x ∈ xs) : ∃ j, j < xs.length ∧ xs.getD j 0 = x := by
  obtain ⟨j, hj, rfl⟩ := List.getElem_of_mem h
  exact ⟨j, hj, by simp [List.getD_eq_getElem?_getD, hj]⟩
theorem getD_mem {xs : List Int} {j : Nat} (h : j < xs.length) : xs.getD j 0 ∈ xs := by
  rw [show xs.getD j 0 = xs[j] by simp [List.getD_eq_getElem?_getD, h]]; exact List.getElem_mem h
theorem lowU_none {L M : Int} {out xs : List Int} (h : ∀ j, j < xs.length → 0 ≤ xs.getD j 0 ∧ xs.getD j 0 ≤ 1000) (hl : lowU L M out xs xs.length < 0) : ∀ j, j < xs.length → unS L M out (xs.getD j 0) = false := fun j hj => by
  cases e : unS L M out (xs.getD j 0)
  · rfl
  · have := lowU_le h xs.length (Nat.le_refl _) j hj e; omega
theorem cnt_zero {L M : Int} {out xs : List Int} (h : cntU L M out xs = 0) : ∀ j, j < xs.length → unS L M out (xs.getD j 0) = false := fun j hj => by
  cases e : unS L M out (xs.getD j 0)
  · rfl
  · have m : xs.getD j 0 ∈ xs.filter (unS L M out) := List.mem_filter.2 ⟨getD_mem hj, e⟩
    rw [List.eq_nil_of_length_eq_zero h] at m
    cases m
theorem cnt_step {L M : Int} {out xs : List Int} (g : goodR L M = true) (hl : 0 ≤ lowU L M out xs xs.length) : cntU L M (out ++ [lowU L M out xs xs.length + M]) xs < cntU L M out xs := by
  obtain ⟨j, hj, e, u⟩ := lowU_mem (L := L) (M := M) (out := out) (xs := xs) xs.length (Nat.le_refl _) hl
  unfold cntU
  rw [← filter_snoc]
  have m : xs.getD j 0 ∈ xs.filter (unS L M out) := List.mem_filter.2 ⟨getD_mem hj, u⟩
  have s := suitP_self (y := lowU L M out xs xs.length) g
  rw [← e] at s ⊢
  generalize xs.filter (unS L M out) = ys at m ⊢
  rcases Nat.lt_or_ge (ys.filter fun e => !suitP L M (xs.getD j 0 + M) e).length ys.length with q | q
  · exact q
  · have := (List.filter_eq_self (p := fun e => !suitP L M (xs.getD j 0 + M) e)).1 (List.Sublist.eq_of_length_le List.filter_sublist q) _ m
    rw [s] at this; cases this
/-- The state between two levels: m of fuel is left. -/
structure FewI (L M : Int) (xs : List Int) (m : Nat) (out : List Int) : Prop where
  len : out.length + m = xs.length
  cnt : cntU L M out xs ≤ m
  res : fewD L M xs m out = fewS L M xs
  bd : ∀ l, l ∈ out → 0 ≤ l ∧ l ≤ 1200
theorem FewI.start (L M : Int) (xs : List Int) : FewI L M xs xs.length [] := ⟨by simp, by unfold cntU; exact List.length_filter_le _ _, rfl, fun l h => by cases h⟩
theorem FewI.stop {L M : Int} {xs : List Int} {m : Nat} {out : List Int} (h : FewI L M xs m out) (hl : lowU L M out xs xs.length < 0) : out = fewS L M xs := by
  have r := h.res
  cases m with
  | zero => exact r
  | succ m => rw [fewD, if_pos hl] at r; exact r
theorem FewI.next {L M : Int} {xs : List Int} {m : Nat} {out : List Int} (h : FewI L M xs m out) (g : goodR L M = true) (hx : ∀ j, j < xs.length → 0 ≤ xs.getD j 0 ∧ xs.getD j 0 ≤ 1000) (hl : 0 ≤ lowU L M out xs xs.length) :
    ∃ k, m = k + 1 ∧ FewI L M xs k (out ++ [lowU L M out xs xs.length + M]) := by
  have c := cnt_step (L := L) (M := M) (out := out) (xs := xs) g hl
  have i := h.cnt
  have b := lowU_b (L := L) (M := M) (out := out) hx xs.length (Nat.le_refl _)
  obtain ⟨g1, g2, g3⟩ := goodR_out g
  cases m with
  | zero => omega
  | succ m =>
    refine ⟨m, rfl, ?_, by omega, ?_, ?_⟩
    · have := h.len; simp; omega
    · have r := h.res
      rw [fewD, if_neg (by omega)] at r
      exact r
    · intro l hm
      rw [List.mem_append] at hm
      rcases hm with hm | hm
      · exact h.bd l hm
      · simp at hm; omega
theorem FewI.at_ {L M : Int} {xs : List Int} {m : Nat} {out : List Int} (h : FewI L M xs m out) {k : Nat} (hk : k < out.length) : 0 ≤ out.getD k 0 ∧ out.getD k 0 ≤ 1200 := h.bd _ (getD_mem hk)
/-- All levels of a state that reaches the end. -/
theorem few_all {L M : Int} {xs : List Int} (g : goodR L M = true) (hx : ∀ j, j < xs.length → 0 ≤ xs.getD j 0 ∧ xs.getD j 0 ≤ 1000) : ∀ m out, FewI L M xs m out → ∃ k, FewI L M xs k (fewS L M xs) ∧ lowU L M (fewS L M xs) xs xs.length < 0
  | 0, out, h => by
    have e : out = fewS L M xs := h.res
    subst e
    refine ⟨0, h, ?_⟩
    rcases Int.lt_or_le (lowU L M (fewS L M xs) xs xs.length) 0 with q | q
    · exact q
    · obtain ⟨k, e, _⟩ := h.next g hx q; omega
  | m + 1, out, h => by
    rcases Int.lt_or_le (lowU L M out xs xs.length) 0 with q | q
    · have e := h.stop q
      subst e
      exact ⟨_, h, q⟩
    · obtain ⟨k, e, i⟩ := h.next g hx q
      obtain rfl : m = k := by omega
      exact few_all g hx m _ i
theorem fewS_ok {L M : Int} {xs : List Int} (g : goodR L M = true) (hx : ∀ j, j < xs.length → 0 ≤ xs.getD j 0 ∧ xs.getD j 0 ≤ 1000) :
    (fewS L M xs).length ≤ xs.length ∧ (∀ k, k < (fewS L M xs).length → 0 ≤ (fewS L M xs).getD k 0 ∧ (fewS L M xs).getD k 0 ≤ 1200) ∧ ∀ j, j < xs.length → ∃ k, k < (fewS L M xs).length ∧ suitP L M ((fewS L M xs).getD k 0) (xs.getD j 0) = true := by
  obtain ⟨k, i, l⟩ := few_all g hx _ _ (FewI.start L M xs)
  refine ⟨by have := i.len; omega, fun q hq => i.at_ hq, fun j hj => ?_⟩
  have u := lowU_none hx l j hj
  unfold unS at u
  rw [Bool.not_eq_false', List.any_eq_true] at u
  obtain ⟨y, hy, s⟩ := u
  obtain ⟨q, hq, rfl⟩ := mem_getD hy
  exact ⟨q, hq, s⟩
/-- A sorted row of the same places: its first one that no level suits is the lowest. -/
theorem low_head {L M : Int} {out xs zs ys : List Int} {y : Int} (hx : ∀ j, j < xs.length → 0 ≤ xs.getD j 0 ∧ xs.getD j 0 ≤ 1000) (p : zs.Perm xs) (so : zs.Pairwise (· ≤ ·)) (e : zs.filter (unS L M out) = y :: ys) : lowU L M out xs xs.length = y := by
  have my : y ∈ zs.filter (unS L M out) := by rw [e]; simp
  obtain ⟨mz, uy⟩ := List.mem_filter.1 my
  obtain ⟨j, hj, ej⟩ := mem_getD (p.mem_iff.1 mz)
  rw [← ej] at uy
  have a := lowU_le hx xs.length (Nat.le_refl _) j hj uy
  obtain ⟨i, hi, ei, ui⟩ := lowU_mem (L := L) (M := M) (out := out) (xs := xs) xs.length (Nat.le_refl _) a.1
  have mi : xs.getD i 0 ∈ zs.filter (unS L M out) := List.mem_filter.2 ⟨p.mem_iff.2 (getD_mem hi), ui⟩
  have sf := so.filter (unS L M out)
  rw [e] at mi sf
  rw [List.pairwise_cons] at sf
  rcases List.mem_cons.1 mi with q | q
  · rw [← ei, q]
  · have := sf.1 _ q; omega
theorem low_nil {L M : Int} {out xs zs : List Int} (p : zs.Perm xs) (e : zs.filter (unS L M out) = []) : lowU L M out xs xs.length < 0 := by
  rcases Int.lt_or_le (lowU L M out xs xs.length) 0 with q | q
  · exact q
  · obtain ⟨i, hi, ei, ui⟩ := lowU_mem (L := L) (M := M) (out := out) (xs := xs) xs.length (Nat.le_refl _) q
    have mi : xs.getD i 0 ∈ zs.filter (unS L M out) := List.mem_filter.2 ⟨p.mem_iff.2 (getD_mem hi), ui⟩
    rw [e] at mi; cases mi
/-- The zones of the places. -/
def zoneS (L M : Int) (xs : List Int) : List Int := xs.map fun e => idxI (fun l => suitP L M l e) (fewS L M xs)
def zoneL (xs : List Int) (L M : Int) : List Int × Bool := if goodZ xs L M = true then (zoneS L M xs, true) else ([], false)
theorem zoneL_no {xs : List Int} {L M : Int} (h : goodZ xs L M = false) : zoneL xs L M = ([], false) := by unfold zoneL; rw [if_neg (by simp [h])]
theorem zoneL_yes {xs : List Int} {L M : Int} (h : goodZ xs L M = true) : zoneL xs L M = (zoneS L M xs, true) := by unfold zoneL; rw [if_pos h]
theorem fewD_len (L M : Int) (xs : List Int) : ∀ n out, (fewD L M xs n out).length ≤ out.length + n
  | 0, out => Nat.le_refl _
  | n + 1, out => by
    rw [fewD]
    split
    · omega
    · have := fewD_len L M xs n (out ++ [lowU L M out xs xs.length + M])
      rw [List.length_append] at this
      simp only [List.length_singleton] at this
      omega
theorem fewL_len (xs : List Int) (L M : Int) {n : Nat} (h : xs.length ≤ n) : (fewL xs L M).1.length ≤ n := by
  unfold fewL; split
  · have := fewD_len L M xs xs.length []
    simp only [List.length_nil] at this
    show (fewD L M xs xs.length []).length ≤ n
    omega
  · simp
theorem zoneL_len (xs : List Int) (L M : Int) {n : Nat} (h : xs.length ≤ n) : (zoneL xs L M).1.length ≤ n := by
  unfold zoneL; split
  · simp [zoneS]; exact h
  · simp
/-- The row between two steps of the sort: in order but for the place j. -/
structure SrtI (xs zs : List Int) (i j : Nat) : Prop where
  perm : zs.Perm xs
  ord : ∀ a b, a < b → b ≤ i → b ≠ j → zs.getD a 0 ≤ zs.getD b 0
theorem SrtI.len {xs zs : List Int} {i j : Nat} (h : SrtI xs zs i j) : zs.length = xs.length := h.perm.length_eq
theorem SrtI.done {xs zs : List Int} {i j : Nat} (h : SrtI xs zs i j) (hj : j = 0 ∨ zs.getD (j - 1) 0 ≤ zs.getD j 0) : SrtI xs zs (i + 1) (i + 1) := by
  refine ⟨h.perm, fun a b ab bi bj => ?_⟩
  by_cases e : b = j
  · subst e
    rcases hj with hj | hj
    · omega
    · by_cases e2 : a = b - 1
      · subst e2; exact hj
      · exact Int.le_trans (h.ord a (b - 1) (by omega) (by omega) (by omega)) hj
  · exact h.ord a b ab (by omega) e
theorem getD_set (zs : List Int) (i j : Nat) (v : Int) (hi : i < zs.length) : (zs.set i v).getD j 0 = if j = i then v else zs.getD j 0 := by
  simp only [List.getD_eq_getElem?_getD, List.getElem?_set]
  by_cases e : i = j
  · subst e; simp [hi]
  · simp [e, Ne.symm e]
theorem SrtI.swap {xs zs : List Int} {i j : Nat} (h : SrtI xs zs i (j + 1)) (hi : i < zs.length) (hj : j + 1 ≤ i) (lt : zs.getD (j + 1) 0 < zs.getD j 0) : SrtI xs ((zs.set (j + 1) (zs.getD j 0)).set j (zs.getD (j + 1) 0)) i j := by
  refine ⟨?_, fun a b ab bi bj => ?_⟩
  · have := @List.set_set_perm _ zs (j + 1) j (by omega) (by omega)
    rw [show zs.getD j 0 = zs[j] by simp [List.getD_eq_getElem?_getD, show j < zs.length by omega], show zs.getD (j + 1) 0 = zs[j + 1] by simp [List.getD_eq_getElem?_getD, show j + 1 < zs.length by omega]]
    exact this.trans h.perm
  · have ge : ∀ q, ((zs.set (j + 1) (zs.getD j 0)).set j (zs.getD (j + 1) 0)).getD q 0 = if q = j then zs.getD (j + 1) 0 else if q = j + 1 then zs.getD j 0 else zs.getD q 0 := fun q => by
      rw [getD_set _ _ _ _ (by rw [List.length_set]; omega), getD_set _ _ _ _ (by omega)]
    rw [ge, ge, if_neg bj]
    by_cases e1 : b = j + 1
    · subst e1
      rw [if_pos rfl]
      by_cases e2 : a = j
      · rw [if_pos e2]; omega
      · rw [if_neg e2, if_neg (by omega)]; exact h.ord a j (by omega) (by omega) (by omega)
    · rw [if_neg e1]
      by_cases e2 : a = j
      · rw [if_pos e2]; exact h.ord (j + 1) b (by omega) bi e1
      · rw [if_neg e2]
        by_cases e3 : a = j + 1
        · rw [if_pos e3]; exact h.ord j b (by omega) bi e1
        · rw [if_neg e3]; exact h.ord a b ab bi e1
theorem SrtI.start (xs : List Int) : SrtI xs xs 1 1 := ⟨List.Perm.refl _, fun a b ab b1 bj => by omega⟩
theorem SrtI.pair {xs zs : List Int} {i j : Nat} (h : SrtI xs zs i j) (hi : xs.length ≤ i) (hj : xs.length ≤ j) : zs.Pairwise (· ≤ ·) := by
  have l := h.len
  rw [List.pairwise_iff_getElem]
  intro a b ha hb ab
  have := h.ord a b ab (by omega) (by omega)
  simpa [List.getD_eq_getElem?_getD, ha, hb] using this
end Go.Proofs.Ytakpoalcfjedlaa

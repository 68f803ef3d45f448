/- Plain: a simpler tariff is good and costs the same; a volume for an amount exists. -/
import Derived.Test.YtbfaejacfhblkaaTChP
import Derived.Test.YtbfaejacfhblkaaTRaiP
namespace Go.Proofs.Ytbfaejacfhblkaa
/-- The price of the cubic meter behind v. -/
def pAt (xs : List (Int × Int)) (v : Int) : Option Int := (xs.find? (fun q => decide (v < q.1))).map Prod.snd
theorem pAt_append (xs ys : List (Int × Int)) (v : Int) : pAt (xs ++ ys) v = (pAt xs v).or (pAt ys v) := by
  unfold pAt
  rw [List.find?_append]
  cases xs.find? (fun q => decide (v < q.1)) <;> simp
theorem pAt_one (u p v : Int) : pAt [(u, p)] v = if v < u then some p else none := by
  unfold pAt
  by_cases h : v < u <;> simp [List.find?, h]
theorem pAt_merge (zs : List (Int × Int)) {u u' p : Int} (v : Int) (h : u ≤ u') : pAt (zs ++ [(u, p)] ++ [(u', p)]) v = pAt (zs ++ [(u', p)]) v := by
  rw [pAt_append, pAt_append, pAt_append, pAt_one, pAt_one]
  cases pAt zs v with
  | some q => simp
  | none =>
    by_cases h1 : v < u
    · have h2 : v < u' := by omega
      simp [h1, h2]
    · simp [h1]
theorem pAt_holds : ∀ (xs : List (Int × Int)) (v : Int) (i : Nat), i < xs.length → holds xs v i → pAt xs v = some (prT xs i)
  | [], _, _, hi, _ => by simp at hi
  | (u, p) :: t, v, 0, _, hh => by
    have h1 : v < u := hh.1
    unfold pAt; simp [List.find?, h1, prT]
  | (u, p) :: t, v, i + 1, hi, hh => by
    have h0 : u ≤ v := hh.2 0 (by omega)
    have hn : ¬ v < u := by omega
    have ih := pAt_holds t v i (by simpa using hi) ⟨hh.1, fun j hj => hh.2 (j + 1) (by omega)⟩
    have e : pAt ((u, p) :: t) v = pAt t v := by unfold pAt; simp [List.find?, hn]
    rw [e, ih]; rfl
theorem simO_pAt {xs : List (Int × Int)} (v : Int) (hm : ∀ k, k + 1 < xs.length → upT xs k ≤ upT xs (k + 1)) : ∀ k, k < xs.length → pAt (simpL xs k ++ [xs.getD k (0, 0)]) v = pAt (xs.take (k + 1)) v
  | 0, hk => by
    cases xs with
    | nil => simp at hk
    | cons a t => rfl
  | k + 1, hk => by
    have ih := simO_pAt v hm k (by omega)
    have et : xs.take (k + 1 + 1) = xs.take (k + 1) ++ [xs.getD (k + 1) (0, 0)] := by
      rw [List.take_add_one (i := k + 1), List.getElem?_eq_getElem hk, List.getD_eq_getElem?_getD, List.getElem?_eq_getElem hk]; rfl
    rw [et, pAt_append (xs.take (k + 1)), ← ih, ← pAt_append]
    obtain ⟨⟨u, p⟩, ha⟩ : ∃ a, a = xs.getD k (0, 0) := ⟨_, rfl⟩
    obtain ⟨⟨u', p'⟩, hb⟩ : ∃ a, a = xs.getD (k + 1) (0, 0) := ⟨_, rfl⟩
    by_cases hp : p' = p
    · rw [simpL_skip hk hb ha hp, ← ha, ← hb, hp]
      have := hm k hk
      rw [up_of ha, up_of hb] at this
      exact (pAt_merge _ _ this).symm
    · rw [simpL_keep hb ha hp, ← hb, ← ha]
theorem simpL_sub (xs : List (Int × Int)) : ∀ k, k ≤ xs.length → (simpL xs k).Sublist (xs.take k)
  | 0, _ => by simp [simpL]
  | k + 1, hk => by
    have ih := simpL_sub xs k (by omega)
    have et : xs.take (k + 1) = xs.take k ++ [xs.getD k (0, 0)] := by
      rw [List.take_add_one (i := k), List.getElem?_eq_getElem hk, List.getD_eq_getElem?_getD, List.getElem?_eq_getElem hk]; rfl
    rw [et, simpL]
    split
    · exact ih.trans (List.sublist_append_left _ _)
    · exact ih.append (List.Sublist.refl _)
theorem good_list {F : Int} {xs : List (Int × Int)} (h : goodT F xs = true) : (∀ q ∈ xs, 1 ≤ q.1 ∧ q.1 ≤ 100000 ∧ 0 ≤ q.2 ∧ q.2 ≤ 1000) ∧ xs.Pairwise (fun a b => a.1 < b.1) := by
  have g := goodT_out h
  constructor
  · intro q hq
    obtain ⟨k, hk, rfl⟩ := List.getElem_of_mem hq
    have ok := goodT_xy h hk (x := xs[k].1) (y := xs[k].2) (by rw [List.getD_eq_getElem?_getD, List.getElem?_eq_getElem hk]; rfl)
    exact ok
  · rw [List.pairwise_iff_getElem]
    intro i j hi hj hij
    have e : ∀ k (hk : k < xs.length), upT xs k = xs[k].1 := fun k hk => by unfold upT; rw [List.getD_eq_getElem?_getD, List.getElem?_eq_getElem hk]; rfl
    rw [← e i hi, ← e j hj]
    have a := up_mono h (j := i) (k := j - 1) (by omega) (by omega)
    have b := (okT_out (allK_out g.2.2.2.2.1 hj)).2.2.2.2
    omega
theorem good_mk {F : Int} {xs : List (Int × Int)} (hF0 : 0 ≤ F) (hF1 : F ≤ 100000) (h0 : 1 ≤ xs.length) (h1 : xs.length ≤ 5) (ha : ∀ q ∈ xs, 1 ≤ q.1 ∧ q.1 ≤ 100000 ∧ 0 ≤ q.2 ∧ q.2 ≤ 1000) (hp : xs.Pairwise (fun a b => a.1 < b.1)) (hl : upT xs (xs.length - 1) = 100000) : goodT F xs = true := by
  have eu : ∀ k (hk : k < xs.length), upT xs k = xs[k].1 := fun k hk => by unfold upT; rw [List.getD_eq_getElem?_getD, List.getElem?_eq_getElem hk]; rfl
  have ep : ∀ k (hk : k < xs.length), prT xs k = xs[k].2 := fun k hk => by unfold prT; rw [List.getD_eq_getElem?_getD, List.getElem?_eq_getElem hk]; rfl
  have hall : allK (okT xs) xs.length = true := allK_yes fun k hk => by
    have a := ha _ (List.getElem_mem hk)
    rw [← eu k hk, ← ep k hk] at a
    simp only [okT, Bool.and_eq_true, Bool.or_eq_true, decide_eq_true_eq]
    refine ⟨inB_mk a.1 a.2.1, inB_mk a.2.2.1 a.2.2.2, ?_⟩
    rcases Nat.eq_zero_or_pos k with e | e
    · exact .inl e
    · right
      rw [eu k hk, eu (k - 1) (by omega)]
      exact (List.pairwise_iff_getElem.1 hp) (k - 1) k (by omega) hk (by omega)
  rw [goodT_end (inB_mk hF0 hF1) (inB_mk (by omega) (by omega)) hall, hl]; rfl
theorem simp_good {F : Int} {xs : List (Int × Int)} (h : goodT F xs = true) : goodT F (simpL xs xs.length) = true := by
  have g := goodT_out h
  obtain ⟨ha, hp⟩ := good_list h
  have hs := simpL_sub xs xs.length (Nat.le_refl _)
  rw [List.take_length] at hs
  have hle := simpL_len xs xs.length
  obtain ⟨m, hm⟩ : ∃ m, xs.length = m + 1 := ⟨xs.length - 1, by omega⟩
  have he : simpL xs xs.length = simpL xs m ++ [xs.getD m (0, 0)] := by
    rw [hm]
    exact simpL_last (x' := (xs.getD m (0, 0)).1) (y' := (xs.getD m (0, 0)).2) (by omega) rfl
  refine good_mk g.1 g.2.1 (by rw [he]; simp) (by omega) (fun q hq => ha q (hs.subset hq)) (hp.sublist hs) ?_
  have gl := g.2.2.2.2.2
  rw [hm, Nat.add_sub_cancel] at gl
  rw [he]
  unfold upT
  simp only [List.length_append, List.length_cons, List.length_nil, Nat.zero_add, Nat.add_sub_cancel]
  rw [List.getD_eq_getElem?_getD, List.getElem?_append_right (Nat.le_refl _), Nat.sub_self]
  exact gl
theorem holds_ex {F : Int} {xs : List (Int × Int)} {v : Int} (h : goodT F xs = true) (hv : v < 100000) : ∃ i, i < xs.length ∧ holds xs v i := by
  have g := goodT_out h
  have key : ∀ n, n ≤ xs.length → (∀ j, j < n → upT xs j ≤ v) ∨ ∃ i, i < n ∧ holds xs v i := by
    intro n
    induction n with
    | zero => intro _; exact .inl fun j hj => absurd hj (by omega)
    | succ n ih =>
      intro hn
      rcases ih (by omega) with a | ⟨i, hi, hh⟩
      · by_cases e : v < upT xs n
        · exact .inr ⟨n, by omega, e, a⟩
        · exact .inl fun j hj => by
            by_cases e2 : j = n
            · subst e2; omega
            · exact a j (by omega)
      · exact .inr ⟨i, by omega, hh⟩
  rcases key xs.length (Nat.le_refl _) with a | a
  · have := a (xs.length - 1) (by omega)
    omega
  · exact a
theorem cost_pAt {F : Int} {xs : List (Int × Int)} {v : Int} (h : goodT F xs = true) (h0 : 0 ≤ v) (hv : v < 100000) : pAt xs v = some (costT F xs (v + 1) - costT F xs v) := by
  obtain ⟨i, hi, hh⟩ := holds_ex h hv
  rw [pAt_holds xs v i hi hh, cost_next h h0 hi hh]
theorem simp_cost {F : Int} {xs : List (Int × Int)} {v : Int} (h : goodT F xs = true) (h0 : 0 ≤ v) (hv : v ≤ 100000) : costT F (simpL xs xs.length) v = costT F xs v := by
  have g := goodT_out h
  have h2 := simp_good h
  obtain ⟨n, rfl⟩ : ∃ n : Nat, v = n := ⟨v.toNat, by omega⟩
  clear h0
  induction n with
  | zero => exact (cost_zero h2).trans (cost_zero h).symm
  | succ n ih =>
    have a := ih (by omega)
    have b := cost_pAt h (v := n) (by omega) (by omega)
    have c := cost_pAt h2 (v := n) (by omega) (by omega)
    have hm : ∀ k, k + 1 < xs.length → upT xs k ≤ upT xs (k + 1) := fun k hk => up_mono h (by omega) hk
    obtain ⟨m, hml⟩ : ∃ m, xs.length = m + 1 := ⟨xs.length - 1, by omega⟩
    have he : simpL xs xs.length = simpL xs m ++ [xs.getD m (0, 0)] := by
      rw [hml]
      exact simpL_last (x' := (xs.getD m (0, 0)).1) (y' := (xs.getD m (0, 0)).2) (by omega) rfl
    have d := simO_pAt (n : Int) hm m (by omega)
    rw [← he, ← hml, List.take_length, b, c] at d
    simp only [Option.some.injEq] at d
    have e : ((n + 1 : Nat) : Int) = (n : Int) + 1 := by omega
    rw [e]; omega
theorem vol_ex {F : Int} {xs : List (Int × Int)} {m : Int} (h : goodT F xs = true) (hm : F ≤ m) : ∃ n, isVol F xs m n := by
  have key : ∀ k : Nat, k ≤ 100000 → (∃ n, isVol F xs m n) ∨ costT F xs (k : Int) ≤ m := by
    intro k
    induction k with
    | zero => intro _; right; show costT F xs 0 ≤ m; rw [cost_zero h]; exact hm
    | succ k ih =>
      intro hk
      rcases ih (by omega) with a | a
      · exact .inl a
      · by_cases e : costT F xs ((k : Int) + 1) ≤ m
        · right
          have e1 : ((k + 1 : Nat) : Int) = (k : Int) + 1 := by omega
          rw [e1]; exact e
        · exact .inl ⟨k, by omega, by omega, a, .inr (by omega)⟩
  rcases key 100000 (Nat.le_refl _) with a | a
  · exact a
  · exact ⟨100000, by omega, by omega, a, .inl rfl⟩
theorem cheap_ok {Fa Fb : Int} {xa xb : List (Int × Int)} {n : Int} (h : cheapF Fa xa Fb xb = (n, true)) : isCheap Fa xa Fb xb n := by
  unfold cheapF at h
  split at h
  · rename_i hx
    simp only [Prod.mk.injEq, and_true] at h
    have := Classical.choose_spec hx
    rwa [h] at this
  · simp at h
end Go.Proofs.Ytbfaejacfhblkaa

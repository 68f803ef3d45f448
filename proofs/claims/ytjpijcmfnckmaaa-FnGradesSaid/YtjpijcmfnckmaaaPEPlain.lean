/- Plain: a pipe unit by unit; what the great laws on parcels ask. -/
import Derived.Test.YtjpijcmfnckmaaaPCutP
import Derived.Test.YtjpijcmfnckmaaaPDPlain
import Derived.Test.YtjpijcmfnckmaaaPPush
namespace Go.Proofs.Ytjpijcmfnckmaaa
/-- The grades, unit by unit. -/
def ext (xs : List (Int × Int)) : List Int := xs.flatMap fun p => List.replicate p.1.toNat p.2
theorem ext_nil : ext [] = [] := rfl
theorem ext_cons (p : Int × Int) (xs : List (Int × Int)) : ext (p :: xs) = List.replicate p.1.toNat p.2 ++ ext xs := by simp [ext]
theorem ext_app (xs ys : List (Int × Int)) : ext (xs ++ ys) = ext xs ++ ext ys := by simp [ext]
theorem ext_one (p : Int × Int) : ext [p] = List.replicate p.1.toNat p.2 := by simp [ext]
/-- Volumes that are not negative. -/
def nonN (xs : List (Int × Int)) : Prop := ∀ q ∈ xs, 0 ≤ q.1
theorem nonN_of {xs : List (Int × Int)} (h : ∀ k, k < xs.length → 0 ≤ (xs.getD k (0, 0)).1) : nonN xs := fun q hq => by
  obtain ⟨j, hj, rfl⟩ := List.getElem_of_mem hq
  have := h j hj
  simpa [List.getD_eq_getElem?_getD, hj] using this
theorem sumV_snoc (xs : List (Int × Int)) (p : Int × Int) : sumV (xs ++ [p]) (xs ++ [p]).length = sumV xs xs.length + p.1 := by rw [← totL_sum, ← totL_sum, totL_app]
theorem sumV_len {xs : List (Int × Int)} (h : nonN xs) : sumV xs xs.length = ((ext xs).length : Int) := by
  rw [← totL_sum]
  induction xs with
  | nil => rfl
  | cons p xs ih =>
    have i := ih (fun q hq => h q (List.mem_cons_of_mem _ hq))
    have p0 := h p List.mem_cons_self
    rw [ext_cons, List.length_append, List.length_replicate]
    have e : totL (p :: xs) = p.1 + totL xs := by simp [totL]
    rw [e, i]
    omega
def totM (xs : List (Int × Int)) : Int := (xs.map fun p => p.1 * p.2).sum
theorem totM_sum (l : List (Int × Int)) : totM l = sumM l l.length := by
  have key : ∀ k, k ≤ l.length → totM (l.take k) = sumM l k := by
    intro k
    induction k with
    | zero => intro _; simp [totM, sumM]
    | succ k ih =>
      intro hk
      rw [List.take_succ_eq_append_getElem (by omega)]
      have := ih (by omega)
      simp only [totM, List.map_append, List.sum_append] at this ⊢
      rw [this]
      simp [sumM, List.getD_eq_getElem?_getD, show k < l.length by omega]
  have := key l.length (Nat.le_refl _)
  rwa [List.take_length] at this
theorem sum_rep (n : Nat) (x : Int) : (List.replicate n x).sum = (n : Int) * x := by
  induction n with
  | zero => simp
  | succ n ih => rw [List.replicate_succ, List.sum_cons, ih]; rw [Int.natCast_succ, Int.add_mul]; omega
theorem sumM_ext {xs : List (Int × Int)} (h : nonN xs) : sumM xs xs.length = (ext xs).sum := by
  rw [← totM_sum]
  induction xs with
  | nil => rfl
  | cons p xs ih =>
    have i := ih (fun q hq => h q (List.mem_cons_of_mem _ hq))
    have p0 := h p List.mem_cons_self
    rw [ext_cons, List.sum_append, sum_rep, ← i]
    have e : totM (p :: xs) = p.1 * p.2 + totM xs := by simp [totM]
    rw [e, Int.toNat_of_nonneg p0]
/-- The grade at a place, by units. -/
theorem gradeF_ext {xs : List (Int × Int)} (h : nonN xs) : ∀ {a : Int}, 0 ≤ a → gradeF xs a = (if a.toNat < (ext xs).length then ((ext xs).getD a.toNat 0, true) else (0, false)) := by
  induction xs with
  | nil => intro a _; simp [gradeF, ext]
  | cons p xs ih =>
    intro a ha
    have p0 := h p List.mem_cons_self
    rw [gradeF, ext_cons]
    by_cases c : a < p.1
    · rw [if_pos c, if_pos (by rw [List.length_append, List.length_replicate]; omega)]
      rw [List.getD_eq_getElem?_getD, List.getElem?_append_left (by rw [List.length_replicate]; omega), List.getElem?_replicate, if_pos (by omega)]
      rfl
    · rw [if_neg c, ih (fun q hq => h q (List.mem_cons_of_mem _ hq)) (by omega)]
      rw [List.getD_eq_getElem?_getD, List.getD_eq_getElem?_getD, List.getElem?_append_right (by rw [List.length_replicate]; omega), List.length_replicate, List.length_append, List.length_replicate]
      have e : (a - p.1).toNat = a.toNat - p.1.toNat := by omega
      rw [e]
      by_cases d : a.toNat - p.1.toNat < (ext xs).length
      · rw [if_pos d, if_pos (by omega)]
      · rw [if_neg d, if_neg (by omega)]
theorem nonN_good {xs : List (Int × Int)} (h : goodPs xs = true) : nonN xs := nonN_of fun k hk => by
  have := okAt_out (allAt_out (goodPs_out h).2.2.1 hk); omega
theorem nonN_app {xs ys : List (Int × Int)} (h : nonN xs) (k : nonN ys) : nonN (xs ++ ys) := fun q hq => (List.mem_append.1 hq).elim (h q) (k q)
theorem split_last {l : List (Int × Int)} (hp : 0 < l.length) : l = l.take (l.length - 1) ++ [lastP l] := by
  conv => lhs; rw [← List.take_append_drop (l.length - 1) l]
  congr 1
  rw [List.drop_eq_getElem_cons (by omega), List.drop_eq_nil_of_le (by omega)]
  unfold lastP
  simp [List.getD_eq_getElem?_getD, show l.length - 1 < l.length by omega]
theorem ext_add {l : List (Int × Int)} {p : Int × Int} (h : nonN l) (hp : 0 ≤ p.1) : ext (addP l p) = ext l ++ List.replicate p.1.toNat p.2 ∧ nonN (addP l p) := by
  unfold addP
  by_cases hz : p.1 = 0
  · rw [if_pos hz, hz]; exact ⟨by simp, h⟩
  rw [if_neg hz]
  by_cases hc : 0 < l.length ∧ (lastP l).2 = p.2
  · rw [if_pos hc]
    have e := split_last hc.1
    have m0 : 0 ≤ (lastP l).1 := h _ (by
      unfold lastP
      rw [show l.getD (l.length - 1) (0, 0) = l[l.length - 1] by simp [List.getD_eq_getElem?_getD, show l.length - 1 < l.length by omega]]
      exact List.getElem_mem _)
    constructor
    · conv => rhs; rw [e]
      rw [ext_app, ext_app, ext_one, ext_one, List.append_assoc, hc.2, List.replicate_append_replicate]
      congr 2
      simp only
      omega
    · refine nonN_app (fun q hq => h q (List.mem_of_mem_take hq)) (fun q hq => ?_)
      simp at hq; subst hq; simp only; omega
  · rw [if_neg hc]
    refine ⟨by rw [ext_app, ext_one], nonN_app h (fun q hq => ?_)⟩
    simp at hq; subst hq; exact hp
theorem ext_join {fs : List (Int × Int)} (h : nonN fs) : ∀ k, k ≤ fs.length → ext (joinT fs k) = ext (fs.take k) ∧ nonN (joinT fs k)
  | 0, _ => ⟨rfl, fun q hq => by cases hq⟩
  | k + 1, hk => by
    have i := ext_join h k (by omega)
    have e : fs.getD k (0, 0) = fs[k] := by simp [List.getD_eq_getElem?_getD, show k < fs.length by omega]
    have a := ext_add i.2 (p := fs.getD k (0, 0)) (by rw [e]; exact h _ (List.getElem_mem _))
    rw [joinT, List.take_succ_eq_append_getElem (by omega), ext_app, ext_one, ← e, ← i.1]
    exact a
theorem ext_joinAll {fs : List (Int × Int)} {n : Nat} (h : nonN fs) (hn : n = fs.length) : ext (joinT fs n) = ext fs ∧ nonN (joinT fs n) := by
  have := ext_join h n (by omega)
  rw [hn, List.take_length] at this
  rw [hn]; exact this
theorem take_rep_app (n m : Nat) (x : Int) (l : List Int) : (List.replicate n x ++ l).take (n + m) = List.replicate n x ++ l.take m := by
  rw [List.take_append, List.length_replicate, List.take_of_length_le (by simp), Nat.add_sub_cancel_left]
/-- What is cut off is the first units; the rest the others. -/
theorem ext_cut {xs : List (Int × Int)} {v : Int} (h : nonN xs) (hv : 0 ≤ v) : ∀ k, k ≤ xs.length → 0 ≤ volK xs v k ∧ nonN (firstT xs v k) ∧ nonN (restT xs v k) ∧ ext (firstT xs v k) = (ext (xs.take k)).take v.toNat ∧ ext (restT xs v k) = (ext (xs.take k)).drop v.toNat ∧ volK xs v k = (v.toNat - (ext (xs.take k)).length : Nat)
  | 0, _ => ⟨hv, fun q hq => (by cases hq), fun q hq => (by cases hq), by simp [ext, firstT], by simp [ext, restT], by simp [volK, ext]; omega⟩
  | k + 1, hk => by
    obtain ⟨i0, i1, i2, i3, i4, i5⟩ := ext_cut h hv k (by omega)
    have e : xs.getD k (0, 0) = xs[k] := by simp [List.getD_eq_getElem?_getD, show k < xs.length by omega]
    have p0 : 0 ≤ (xs.getD k (0, 0)).1 := by rw [e]; exact h _ (List.getElem_mem _)
    rw [firstT, restT, volK, List.take_succ_eq_append_getElem (by omega), ← e]
    obtain ⟨⟨x, y⟩, hp⟩ : ∃ p, p = xs.getD k (0, 0) := ⟨_, rfl⟩
    rw [← hp] at p0 ⊢
    simp only at p0 ⊢
    clear hp e
    obtain ⟨r, hr⟩ : ∃ r, r = volK xs v k := ⟨_, rfl⟩
    rw [← hr] at i0 i5 ⊢
    have m : minI x r = min x r := by unfold minI; split <;> omega
    rw [m]
    have one : ∀ a b : Int, 0 ≤ a → nonN [(a, b)] := fun a b ha q hq => by simp at hq; subst hq; exact ha
    refine ⟨by omega, nonN_app i1 (one _ _ (by omega)), nonN_app i2 (one _ _ (by omega)), ?_, ?_, ?_⟩
    · rw [ext_app, ext_one, i3, ext_app, ext_one, List.take_append, List.take_replicate]
      congr 2
      simp only
      omega
    · rw [ext_app, ext_one, i4, ext_app, ext_one, List.drop_append, List.drop_replicate]
      congr 2
      simp only
      omega
    · rw [ext_app, ext_one, List.length_append, List.length_replicate]
      simp only
      omega
theorem ext_cutAll {xs : List (Int × Int)} {v : Int} (h : nonN xs) (hv : 0 ≤ v) {n : Nat} (hn : n = xs.length) :
    ext (joinT (firstT xs v n) n) = (ext xs).take v.toNat ∧ nonN (joinT (firstT xs v n) n) ∧ ext (joinT (restT xs v n) n) = (ext xs).drop v.toNat ∧ nonN (joinT (restT xs v n) n) := by
  obtain ⟨_, a1, a2, a3, a4, _⟩ := ext_cut h hv n (by omega)
  have b := ext_joinAll (n := n) a1 (by rw [firstT_len])
  have c := ext_joinAll (n := n) a2 (by rw [restT_len])
  rw [b.1, c.1, a3, a4, hn, List.take_length]
  rw [hn] at b c
  exact ⟨rfl, b.2, rfl, c.2⟩
theorem goodPs_ext {xs : List (Int × Int)} (h : goodPs xs = true) : sumV xs xs.length = ((ext xs).length : Int) ∧ sumM xs xs.length = (ext xs).sum ∧ 1 ≤ (ext xs).length ∧ (ext xs).length ≤ 1000 := by
  have n := nonN_good h
  have g := goodPs_out h
  have b := sumV_b g.2.2.1 xs.length (Nat.le_refl _)
  have a := sumV_len n
  exact ⟨a, sumM_ext n, by omega, by omega⟩
theorem gradeR_ext {xs : List (Int × Int)} {a : Int} (h : goodPs xs = true) (ha : 0 ≤ a) (hl : a < (ext xs).length) : gradeR xs a = ((ext xs).getD a.toNat 0, true) := by
  rw [gradeR_yes h ha, gradeF_ext (nonN_good h) ha, if_pos (by omega)]
theorem gradeR_told {xs : List (Int × Int)} {a g : Int} (h : gradeR xs a = (g, true)) : goodPs xs = true ∧ 0 ≤ a ∧ a < (ext xs).length := by
  unfold gradeR at h
  split at h
  · rename_i c
    simp only [Bool.and_eq_true, decide_eq_true_eq] at c
    refine ⟨c.1, c.2, ?_⟩
    rw [gradeF_ext (nonN_good c.1) c.2] at h
    split at h
    · omega
    · cases h
  · cases h
/-- What the law asks of a push. -/
theorem push_law {xs : List (Int × Int)} {V G : Int} {s l : List (Int × Int)} (h : pushR xs V G = ((s, l), true)) :
    okP V G = true ∧ goodPs xs = true ∧ volR xs = (sumV xs xs.length, sumM xs xs.length, true) ∧ volR s = (sumV xs xs.length, sumM s s.length, true) ∧ sumV l l.length = V ∧ sumM xs xs.length + V * G = sumM s s.length + sumM l l.length ∧
      gradeR s 0 = (G, true) ∧ (V < sumV xs xs.length → ∃ g, gradeR xs 0 = (g, true) ∧ gradeR s V = (g, true)) := by
  unfold pushR at h
  split at h
  case isFalse => cases h
  rename_i c
  simp only [Bool.and_eq_true, decide_eq_true_eq] at c
  obtain ⟨g, ok, le⟩ := c
  simp only [Prod.mk.injEq, and_true] at h
  obtain ⟨rfl, rfl⟩ := h
  have gs := stays_ok g ok
  rw [decide_eq_true le] at gs
  obtain ⟨o1, o2, o3, o4⟩ := okP_out ok
  obtain ⟨x1, x2, x3, x4⟩ := goodPs_ext g
  obtain ⟨y1, y2, y3, y4⟩ := goodPs_ext gs
  have nn : nonN ((V, G) :: xs) := fun q hq => by
    rcases List.mem_cons.1 hq with rfl | hq
    · simp only; omega
    · exact nonN_good g q hq
  obtain ⟨e1, n1, e2, n2⟩ := ext_cutAll (v := sumV xs xs.length) (n := xs.length + 1) nn (by omega) rfl
  have es : ext (staysL xs V G) = (ext ((V, G) :: xs)).take (ext xs).length := by show ext (joinT _ _) = _; rw [e1, x1, Int.toNat_natCast]
  have el : ext (leavesL xs V G) = (ext ((V, G) :: xs)).drop (ext xs).length := by show ext (joinT _ _) = _; rw [e2, x1, Int.toNat_natCast]
  have nl : nonN (leavesL xs V G) := n2
  have tot : (ext ((V, G) :: xs)).length = V.toNat + (ext xs).length := by rw [ext_cons, List.length_append, List.length_replicate]
  have ls : (ext (staysL xs V G)).length = (ext xs).length := by rw [es, List.length_take]; omega
  have ll : (ext (leavesL xs V G)).length = V.toNat := by rw [el, List.length_drop]; omega
  have v0 : (ext ((V, G) :: xs)).getD 0 0 = G := by
    rw [ext_cons]
    obtain ⟨k, hk⟩ : ∃ k, V.toNat = k + 1 := ⟨V.toNat - 1, by omega⟩
    simp only [hk, List.replicate_succ]
    rfl
  have gt : ∀ k, k < (ext xs).length → (ext (staysL xs V G)).getD k 0 = (ext ((V, G) :: xs)).getD k 0 := fun k hk => by
    rw [es, List.getD_eq_getElem?_getD, List.getElem?_take_of_lt hk, ← List.getD_eq_getElem?_getD]
  refine ⟨ok, g, volR_yes g, ?_, ?_, ?_, ?_, ?_⟩
  · rw [volR_yes gs, y1, ls, ← x1]
  · rw [sumV_len nl, ll]; omega
  · rw [y2, x2, sumM_ext nl, es, el, ← List.sum_append, List.take_append_drop, ext_cons, List.sum_append, sum_rep]
    simp only
    rw [Int.toNat_of_nonneg (by omega)]
    omega
  · rw [gradeR_ext gs (by omega) (by omega), Int.toNat_zero, gt 0 (by omega), v0]
  · intro hv
    refine ⟨(ext xs).getD 0 0, ?_, ?_⟩
    · rw [gradeR_ext g (by omega) (by omega), Int.toNat_zero]
    · rw [gradeR_ext gs (by omega) (by omega), gt _ (by omega), ext_cons]
      rw [List.getD_eq_getElem?_getD, List.getElem?_append_right (by simp), List.length_replicate, Nat.sub_self, ← List.getD_eq_getElem?_getD]
theorem totL_rev (xs : List (Int × Int)) : totL xs.reverse = totL xs := by
  induction xs with
  | nil => rfl
  | cons p xs ih => rw [List.reverse_cons, totL_app, ih]; simp [totL]; omega
theorem getD_rev {xs : List (Int × Int)} {k : Nat} (hk : k < xs.length) : xs.reverse.getD k (0, 0) = xs.getD (xs.length - 1 - k) (0, 0) := by
  rw [List.getD_eq_getElem?_getD, List.getD_eq_getElem?_getD, List.getElem?_reverse hk]
theorem goodPs_rev {xs : List (Int × Int)} (h : goodPs xs = true) : goodPs xs.reverse = true := by
  obtain ⟨g1, g2, g3, g4⟩ := goodPs_out h
  have al : allAt xs.reverse = true := allAt_yes fun k hk => by
    rw [List.length_reverse] at hk
    have a := allAt_out g3 (k := xs.length - 1 - k) (by omega)
    have b := okAt_out a
    unfold okAt
    rw [getD_rev hk]
    have c : okP (xs.getD (xs.length - 1 - k) (0, 0)).1 (xs.getD (xs.length - 1 - k) (0, 0)).2 = true := by
      unfold okP; rw [inB_mk b.1 b.2.1, inB_mk b.2.2.1 b.2.2.2]; rfl
    rw [c]
    simp only [Bool.true_and, Bool.or_eq_true, decide_eq_true_eq]
    by_cases z : k = 0
    · exact .inl z
    · right
      rw [getD_rev (by omega)]
      have d := allAt_out g3 (k := xs.length - 1 - (k - 1)) (by omega)
      unfold okAt at d
      simp only [Bool.and_eq_true, Bool.or_eq_true, decide_eq_true_eq] at d
      rcases d.2 with q | q
      · omega
      · rw [show xs.length - 1 - (k - 1) - 1 = xs.length - 1 - k by omega] at q
        exact Ne.symm q
  have e : sumV xs.reverse xs.reverse.length = sumV xs xs.length := by rw [← totL_sum, ← totL_sum, totL_rev]
  unfold goodPs
  rw [e, al, List.length_reverse, inB_mk (by omega) (by omega), decide_eq_true g4]
  rfl
theorem ext_rev (xs : List (Int × Int)) : ext xs.reverse = (ext xs).reverse := by
  induction xs with
  | nil => rfl
  | cons p xs ih => rw [List.reverse_cons, ext_app, ext_one, ext_cons, List.reverse_append, ih, List.reverse_replicate]
/-- What the law asks of a pipe turned round. -/
theorem rev_law {xs : List (Int × Int)} {a g : Int} (h : gradeR xs a = (g, true)) : revR xs = (xs.reverse, true) ∧ volR xs = (sumV xs xs.length, sumM xs xs.length, true) ∧ 0 ≤ a ∧ a < sumV xs xs.length ∧ sumV xs xs.length ≤ 1000 ∧ gradeR xs.reverse (sumV xs xs.length - 1 - a) = (g, true) := by
  obtain ⟨gd, a0, al⟩ := gradeR_told h
  obtain ⟨x1, x2, x3, x4⟩ := goodPs_ext gd
  rw [gradeR_ext gd a0 al] at h
  refine ⟨revR_yes gd, volR_yes gd, a0, by omega, by omega, ?_⟩
  rw [gradeR_ext (goodPs_rev gd) (by omega) (by rw [ext_rev, List.length_reverse]; omega), ext_rev]
  rw [List.getD_eq_getElem?_getD, List.getElem?_reverse (by omega), ← List.getD_eq_getElem?_getD]
  rw [← h]
  congr 2
  omega
end Go.Proofs.Ytjpijcmfnckmaaa

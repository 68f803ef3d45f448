/- Plain: what the great law on grades asks. -/
import Derived.Test.YtjpijcmfnckmaaaPEPlain
namespace Go.Proofs.Ytjpijcmfnckmaaa
theorem ext_dec (n d : Int) (xs : List (Int × Int)) : ext (decP n d xs) = (ext xs).map fun e => e * n / d := by
  unfold decP
  induction xs with
  | nil => rfl
  | cons p xs ih => rw [List.map_cons, ext_cons, ext_cons, List.map_append, List.map_replicate, ih]
theorem sum_dec {n d : Int} (hd : d ≠ 0) : ∀ l : List Int, (l.map fun e => e * n / d).sum * d ≤ l.sum * n
  | [] => by simp
  | e :: l => by
    have i := sum_dec (n := n) hd l
    have j := Int.ediv_mul_le (e * n) hd
    rw [List.map_cons, List.sum_cons, List.sum_cons, Int.add_mul, Int.add_mul]
    omega
theorem sum_least {b : Int} : ∀ l : List Int, (∀ e ∈ l, b ≤ e) → b * (l.length : Int) ≤ l.sum
  | [], _ => by simp
  | e :: l, h => by
    have i := sum_least l (fun x hx => h x (List.mem_cons_of_mem _ hx))
    have j := h e List.mem_cons_self
    rw [List.length_cons, List.sum_cons, Int.natCast_succ, Int.mul_add, Int.mul_one]
    omega
theorem sum_most {b : Int} : ∀ l : List Int, (∀ e ∈ l, e ≤ b) → l.sum ≤ b * (l.length : Int)
  | [], _ => by simp
  | e :: l, h => by
    have i := sum_most l (fun x hx => h x (List.mem_cons_of_mem _ hx))
    have j := h e List.mem_cons_self
    rw [List.length_cons, List.sum_cons, Int.natCast_succ, Int.mul_add, Int.mul_one]
    omega
theorem ext_mem {xs : List (Int × Int)} {e : Int} (h : e ∈ ext xs) : ∃ k, k < xs.length ∧ e = (xs.getD k (0, 0)).2 := by
  unfold ext at h
  obtain ⟨p, hp, he⟩ := List.mem_flatMap.1 h
  obtain ⟨j, hj, rfl⟩ := List.getElem_of_mem hp
  exact ⟨j, hj, by rw [(List.mem_replicate.1 he).2]; simp [List.getD_eq_getElem?_getD, hj]⟩
theorem ext_gr {xs : List (Int × Int)} (h : goodPs xs = true) : ∀ e ∈ ext xs, 0 ≤ e ∧ e ≤ 10000 := fun e he => by
  obtain ⟨k, hk, rfl⟩ := ext_mem he
  have := okAt_out (allAt_out (goodPs_out h).2.2.1 hk); omega
/-- The mass of a pipeful. -/
theorem mass_b {xs : List (Int × Int)} (h : goodPs xs = true) : 0 ≤ sumM xs xs.length ∧ sumM xs xs.length ≤ 10000000 := by
  obtain ⟨x1, x2, x3, x4⟩ := goodPs_ext h
  have a := sum_most (b := 10000) (ext xs) (fun e he => (ext_gr h e he).2)
  have b := sum_least (b := 0) (ext xs) (fun e he => (ext_gr h e he).1)
  rw [x2]; omega
theorem joinT_self {xs : List (Int × Int)} (h : allAt xs = true) : ∀ k, k ≤ xs.length → joinT xs k = xs.take k
  | 0, _ => rfl
  | k + 1, hk => by
    have a := allAt_out h (k := k) (by omega)
    have b := okAt_out a
    rw [joinT, joinT_self h k (by omega), List.take_succ_eq_append_getElem (by omega)]
    have e : xs.getD k (0, 0) = xs[k] := by simp [List.getD_eq_getElem?_getD, show k < xs.length by omega]
    rw [← e]
    unfold addP
    rw [if_neg (by omega), if_neg]
    rintro ⟨c1, c2⟩
    rw [List.length_take] at c1
    have l : lastP (xs.take k) = xs.getD (k - 1) (0, 0) := by
      unfold lastP
      rw [List.length_take, Nat.min_eq_left (by omega), List.getD_eq_getElem?_getD, List.getElem?_take_of_lt (by omega), ← List.getD_eq_getElem?_getD]
    rw [l] at c2
    unfold okAt at a
    simp only [Bool.and_eq_true, Bool.or_eq_true, decide_eq_true_eq] at a
    rcases a.2 with q | q
    · omega
    · exact q c2
theorem decP_self {n : Int} (hn : n ≠ 0) (xs : List (Int × Int)) : decP n n xs = xs := by
  unfold decP
  conv => rhs; rw [← List.map_id xs]
  congr 1
  funext p
  rw [Int.mul_ediv_cancel _ hn]
  rfl
/-- What the law asks of decay. -/
theorem dec_law {xs m : List (Int × Int)} {n d : Int} (h : decR xs n d = (m, true)) :
    1 ≤ d ∧ d ≤ 100 ∧ 0 ≤ n ∧ n ≤ d ∧ volR xs = (sumV xs xs.length, sumM xs xs.length, true) ∧ volR m = (sumV xs xs.length, sumM m m.length, true) ∧ (0 ≤ sumM xs xs.length ∧ sumM xs xs.length ≤ 10000000) ∧ (0 ≤ sumM m m.length ∧ sumM m m.length ≤ 10000000) ∧ sumM m m.length * d ≤ sumM xs xs.length * n ∧ (n = d → m = xs) := by
  unfold decR at h
  split at h
  case isFalse => cases h
  rename_i c
  simp only [Bool.and_eq_true] at c
  obtain ⟨g, hd, hn⟩ := c
  obtain ⟨d1, d2⟩ := inB_out hd
  obtain ⟨n1, n2⟩ := inB_out hn
  simp only [Prod.mk.injEq, and_true] at h
  obtain ⟨g1, g2, g3, g4⟩ := goodPs_out g
  obtain ⟨x1, x2, x3, x4⟩ := goodPs_ext g
  have nn : nonN (decP n d xs) := fun q hq => by
    unfold decP at hq
    obtain ⟨p, hp, rfl⟩ := List.mem_map.1 hq
    exact nonN_good g p hp
  have ej := ext_joinAll (n := xs.length) nn (by rw [decP_len])
  rw [h, ext_dec] at ej
  have jo := joinT_ok (fs := decP n d xs) (fun k hk => by
    rw [decP_len] at hk
    have o := okAt_out (allAt_out g3 hk)
    rw [← decP_at (n := n) (d := d) (x := (xs.getD k (0, 0)).1) (y := (xs.getD k (0, 0)).2) hk rfl]
    have b := dec_b (y := (xs.getD k (0, 0)).2) o.2.2.1 o.2.2.2 d1 d2 n1 n2
    refine ⟨by simp only; omega, b.2.2.1, ?_⟩
    have c1 : (xs.getD k (0, 0)).2 * n ≤ (xs.getD k (0, 0)).2 * d := Int.mul_le_mul_of_nonneg_left n2 o.2.2.1
    have c2 := Int.ediv_le_ediv (by omega : 0 < d) c1
    rw [Int.mul_ediv_cancel _ (by omega : d ≠ 0)] at c2
    simp only
    omega) xs.length (by rw [decP_len]; exact Nat.le_refl _)
  have jl := joinT_len (decP n d xs) xs.length
  rw [h] at jo jl
  have sm : totL m = sumV xs xs.length := by rw [totL_sum, sumV_len ej.2, ej.1, List.length_map, x1]
  have gm : goodPs m = true := by rw [goodPs_joined jo.1 (by omega) (by omega), decide_eq_true (by omega)]
  refine ⟨d1, d2, n1, n2, volR_yes g, ?_, mass_b g, mass_b gm, ?_, ?_⟩
  · rw [volR_yes gm, ← totL_sum, sm]
  · rw [sumM_ext ej.2, ej.1, x2]
    exact sum_dec (by omega) _
  · intro e
    rw [← h, e, decP_self (by omega), joinT_self g3 _ (Nat.le_refl _), List.take_length]
theorem getD_pre (pre : List (Int × Int)) (p : Int × Int) (suf : List (Int × Int)) (h : 1 ≤ p.1) : (ext (pre ++ p :: suf)).getD (ext pre).length 0 = p.2 ∧ (ext pre).length < (ext (pre ++ p :: suf)).length := by
  rw [ext_app, ext_cons, List.getD_eq_getElem?_getD, List.getElem?_append_right (Nat.le_refl _), Nat.sub_self, List.length_append, List.length_append, List.length_replicate]
  obtain ⟨k, hk⟩ : ∃ k, p.1.toNat = k + 1 := ⟨p.1.toNat - 1, by omega⟩
  rw [hk, List.replicate_succ]
  exact ⟨rfl, by omega⟩
theorem ext_snoc_mem {pre : List (Int × Int)} {p : Int × Int} {e : Int} (h : e ∈ ext (pre ++ [p])) : e ∈ ext pre ∨ e = p.2 := by
  rw [ext_app, ext_one] at h
  exact (List.mem_append.1 h).imp id fun q => (List.mem_replicate.1 q).2
theorem ext_snoc_len (pre : List (Int × Int)) (p : Int × Int) (h : 1 ≤ p.1) : (((ext (pre ++ [p])).length : Nat) : Int) = (ext pre).length + p.1 := by
  rw [ext_app, ext_one, List.length_append, List.length_replicate]; omega
theorem least_ext : ∀ (suf pre : List (Int × Int)) (b w a : Int), (∀ q ∈ suf, 1 ≤ q.1) → a = ((ext pre).length : Int) → (∀ e ∈ ext pre, b ≤ e) → 0 ≤ w → w < ((ext (pre ++ suf)).length : Int) → (ext (pre ++ suf)).getD w.toNat 0 = b →
    (∀ e ∈ ext (pre ++ suf), (leastF suf b w a).1 ≤ e) ∧ 0 ≤ (leastF suf b w a).2 ∧ (leastF suf b w a).2 < ((ext (pre ++ suf)).length : Int) ∧ (ext (pre ++ suf)).getD (leastF suf b w a).2.toNat 0 = (leastF suf b w a).1
  | [], pre, b, w, a, _, _, h, w0, w1, hw => by
    rw [leastF]; rw [List.append_nil] at w1 hw ⊢
    exact ⟨h, w0, w1, hw⟩
  | p :: suf, pre, b, w, a, h1, ha, h, w0, w1, hw => by
    have p1 := h1 p List.mem_cons_self
    have gp := getD_pre pre p suf p1
    have e : pre ++ p :: suf = (pre ++ [p]) ++ suf := by simp
    have la := ext_snoc_len pre p p1
    rw [leastF]
    split
    · rename_i c
      rw [e] at gp ⊢
      refine least_ext suf (pre ++ [p]) p.2 a (a + p.1) (fun q hq => h1 q (List.mem_cons_of_mem _ hq)) (by omega) (fun x hx => ?_) (by omega) (by omega) (by rw [ha, Int.toNat_natCast]; exact gp.1)
      rcases ext_snoc_mem hx with q | q
      · have := h x q; omega
      · omega
    · rename_i c
      rw [e] at w1 hw ⊢
      refine least_ext suf (pre ++ [p]) b w (a + p.1) (fun q hq => h1 q (List.mem_cons_of_mem _ hq)) (by omega) (fun x hx => ?_) w0 w1 hw
      rcases ext_snoc_mem hx with q | q
      · exact h x q
      · omega
theorem good_one {xs : List (Int × Int)} (h : goodPs xs = true) : ∀ q ∈ xs, 1 ≤ q.1 := fun q hq => by
  obtain ⟨j, hj, rfl⟩ := List.getElem_of_mem hq
  have := okAt_out (allAt_out (goodPs_out h).2.2.1 hj)
  simp only [List.getD_eq_getElem?_getD, List.getElem?_eq_getElem hj, Option.getD_some] at this
  omega
/-- What the law asks of the least grade and of the mean. -/
theorem least_law (xs : List (Int × Int)) : (leastR xs = (0, 0, false) ∧ meanPR xs = (0, 0, false)) ∨
    ∃ b w num den : Int, leastR xs = (b, w, true) ∧ meanPR xs = (num, den, true) ∧ gradeR xs w = (b, true) ∧ 0 ≤ w ∧ w ≤ 1000 ∧ 0 ≤ b ∧ b ≤ 10000 ∧ 0 ≤ den ∧ den ≤ 1000 ∧ b * den ≤ num := by
  cases g : goodPs xs
  · exact .inl ⟨leastR_no g, meanPR_no g⟩
  right
  obtain ⟨x1, x2, x3, x4⟩ := goodPs_ext g
  have o := good_one g
  obtain ⟨p, ps, rfl⟩ : ∃ p ps, xs = p :: ps := by
    cases xs with
    | nil => simp [ext] at x3
    | cons p ps => exact ⟨p, ps, rfl⟩
  have z := getD_pre [] p ps (o p List.mem_cons_self)
  obtain ⟨l1, l2, l3, l4⟩ := least_ext (p :: ps) [] p.2 0 0 o rfl (fun e he => (by cases he)) (by omega) (by rw [List.nil_append]; omega) z.1
  rw [List.nil_append] at l1 l3 l4
  obtain ⟨b, hb⟩ : ∃ b, b = (leastF (p :: ps) p.2 0 0).1 := ⟨_, rfl⟩
  obtain ⟨w, hw⟩ : ∃ w, w = (leastF (p :: ps) p.2 0 0).2 := ⟨_, rfl⟩
  rw [← hb] at l1 l4
  rw [← hw] at l2 l3 l4
  have sl := sum_least _ l1
  rw [← x2, ← x1] at sl
  have bg : 0 ≤ b ∧ b ≤ 10000 := by
    refine ext_gr g b ?_
    rw [← l4, List.getD_eq_getElem?_getD, List.getElem?_eq_getElem (by omega)]
    exact List.getElem_mem _
  have vp : 0 < sumV (p :: ps) (p :: ps).length := by omega
  have gp := gcdI_pos (sumM (p :: ps) (p :: ps).length) _ vp
  have dl := Int.ediv_mul_cancel (gcdI_dvd_l (sumM (p :: ps) (p :: ps).length) (sumV (p :: ps) (p :: ps).length))
  have dr := Int.ediv_mul_cancel (gcdI_dvd_r (sumM (p :: ps) (p :: ps).length) (sumV (p :: ps) (p :: ps).length))
  have rd := rD_pos (a := sumM (p :: ps) (p :: ps).length) vp
  have rl := rD_le (a := sumM (p :: ps) (p :: ps).length) vp
  refine ⟨b, w, _, _, ?_, meanPR_yes g, ?_, l2, by omega, bg.1, bg.2, by omega, by omega, ?_⟩
  · refine leastR_yes (x := p.1) (y := p.2) g rfl ?_
    rw [hb, hw]
  · rw [gradeR_ext g l2 l3, l4]
  · refine Int.le_of_mul_le_mul_right (a := gcdI (sumM (p :: ps) (p :: ps).length) (sumV (p :: ps) (p :: ps).length)) ?_ gp
    rw [Int.mul_assoc]
    unfold rD rN
    rw [dl, dr]
    exact sl
theorem flush_ext (l : Int) : ∀ (suf pre : List (Int × Int)) (v : Int), (∀ q ∈ suf, 1 ≤ q.1) → v = ((ext (pre ++ suf)).length : Int) - ((ext pre).length : Int) → (∀ e ∈ ext pre, e ≤ l) →
    0 ≤ flushF l suf v ∧ flushF l suf v ≤ ((ext (pre ++ suf)).length : Int) ∧ (∀ i : Nat, (i : Int) < ((ext (pre ++ suf)).length : Int) - flushF l suf v → (ext (pre ++ suf)).getD i 0 ≤ l) ∧ (0 < flushF l suf v → l < (ext (pre ++ suf)).getD (((ext (pre ++ suf)).length : Int) - flushF l suf v).toNat 0)
  | [], pre, v, _, hv, h => by
    rw [flushF]
    rw [List.append_nil] at hv ⊢
    refine ⟨by omega, by omega, fun i hi => ?_, fun q => by omega⟩
    rw [List.getD_eq_getElem?_getD, List.getElem?_eq_getElem (by omega)]
    exact h _ (List.getElem_mem _)
  | p :: suf, pre, v, h1, hv, h => by
    have p1 := h1 p List.mem_cons_self
    have gp := getD_pre pre p suf p1
    rw [flushF]
    split
    · rename_i c
      refine ⟨by omega, by omega, fun i hi => ?_, fun _ => ?_⟩
      · rw [ext_app, List.getD_eq_getElem?_getD, List.getElem?_append_left (by omega), List.getElem?_eq_getElem (by omega)]
        exact h _ (List.getElem_mem _)
      · rw [show (((ext (pre ++ p :: suf)).length : Int) - v).toNat = (ext pre).length by omega, gp.1]
        exact c
    · rename_i c
      have e : pre ++ p :: suf = (pre ++ [p]) ++ suf := by simp
      have la := ext_snoc_len pre p p1
      rw [e] at hv ⊢
      refine flush_ext l suf (pre ++ [p]) (v - p.1) (fun q hq => h1 q (List.mem_cons_of_mem _ hq)) (by omega) (fun x hx => ?_)
      rcases ext_snoc_mem hx with q | q
      · exact h x q
      · omega
/-- What the law asks of flushing. -/
theorem flush_law {xs : List (Int × Int)} {l f : Int} (h : flushR xs l = (f, true)) : volR xs = (sumV xs xs.length, sumM xs xs.length, true) ∧ 0 ≤ f ∧ f ≤ sumV xs xs.length ∧ sumV xs xs.length ≤ 1000 ∧ (∀ i : Nat, (i : Int) < sumV xs xs.length - f → ∃ g, gradeR xs i = (g, true) ∧ g ≤ l) ∧ (0 < f → ∃ g, gradeR xs (sumV xs xs.length - f) = (g, true) ∧ l < g) := by
  unfold flushR at h
  split at h
  case isFalse => cases h
  rename_i c
  simp only [Bool.and_eq_true] at c
  obtain ⟨g, _⟩ := c
  simp only [Prod.mk.injEq, and_true] at h
  obtain ⟨x1, x2, x3, x4⟩ := goodPs_ext g
  obtain ⟨f1, f2, f3, f4⟩ := flush_ext l xs [] (sumV xs xs.length) (good_one g) (by rw [List.nil_append, x1]; simp [ext]) (fun e he => (by cases he))
  rw [List.nil_append, h, ← x1] at f2 f3 f4
  rw [h] at f1
  refine ⟨volR_yes g, f1, f2, by omega, fun i hi => ⟨_, gradeR_ext g (by omega) (by omega), ?_⟩, fun q => ⟨_, gradeR_ext g (by omega) (by omega), f4 q⟩⟩
  rw [Int.toNat_natCast]
  exact f3 i hi
theorem pushR_len2 (xs : List (Int × Int)) (V G : Int) (h : xs.length ≤ 16) : (pushR xs V G).1.1.length ≤ 17 ∧ (pushR xs V G).1.2.length ≤ 17 := by
  have a := joinT_len (firstT ((V, G) :: xs) (sumV xs xs.length) (xs.length + 1)) (xs.length + 1)
  have b := joinT_len (restT ((V, G) :: xs) (sumV xs xs.length) (xs.length + 1)) (xs.length + 1)
  unfold pushR; split
  · unfold staysL leavesL; simp only; omega
  · simp
theorem decR_len2 (xs : List (Int × Int)) (n d : Int) (h : xs.length ≤ 16) : (decR xs n d).1.length ≤ 16 := by
  unfold decR; split
  · have := joinT_len (decP n d xs) xs.length; simp only; omega
  · simp
theorem okJ_b {l : List (Int × Int)} (h : okJ l) : ∀ k, k ≤ l.length → (k : Int) ≤ sumV l k ∧ sumV l k ≤ sumV l l.length ∧ 0 ≤ sumM l k ∧ sumM l k ≤ 10000 * sumV l k := by
  have up : ∀ k, k ≤ l.length → (k : Int) ≤ sumV l k ∧ 0 ≤ sumM l k ∧ sumM l k ≤ 10000 * sumV l k := by
    intro k
    induction k with
    | zero => intro _; simp [sumV, sumM]
    | succ k ih =>
      intro hk
      have i := ih (by omega)
      have o := h k (by omega)
      have m := Int.mul_nonneg (show 0 ≤ (l.getD k (0, 0)).1 by omega) o.2.1
      have m2 : (l.getD k (0, 0)).1 * (l.getD k (0, 0)).2 ≤ (l.getD k (0, 0)).1 * 10000 := Int.mul_le_mul_of_nonneg_left o.2.2.1 (by omega)
      rw [sumV, sumM]
      omega
  have mono : ∀ n k, k + n = l.length → sumV l k ≤ sumV l l.length := by
    intro n
    induction n with
    | zero => intro k hk; obtain rfl : k = l.length := by omega
              exact Int.le_refl _
    | succ n ih =>
      intro k hk
      have i := ih (k + 1) (by omega)
      have o := h k (by omega)
      rw [sumV] at i
      omega
  intro k hk
  have u := up k hk
  exact ⟨u.1, mono (l.length - k) k (by omega), u.2.1, u.2.2⟩
/-- What leaves a pipe is joined. -/
theorem leaves_ok {xs s l : List (Int × Int)} {V G : Int} (h : pushR xs V G = ((s, l), true)) : okJ l := by
  unfold pushR at h
  split at h
  case isFalse => cases h
  rename_i c
  simp only [Bool.and_eq_true, decide_eq_true_eq] at c
  obtain ⟨g, ok, le⟩ := c
  simp only [Prod.mk.injEq, and_true] at h
  obtain ⟨_, rfl⟩ := h
  have oa := push_ok g ok
  have gp := goodPs_out g
  have v0 : 0 ≤ sumV xs xs.length := by have := (sumV_b gp.2.2.1 xs.length (Nat.le_refl _)).1; omega
  refine (joinT_ok (fs := restT ((V, G) :: xs) (sumV xs xs.length) (xs.length + 1)) (fun k hk => ?_) (xs.length + 1) (by rw [restT_len]; exact Nat.le_refl _)).1
  rw [restT_len] at hk
  have o := oa k (((V, G) :: xs).getD k (0, 0)).1 (((V, G) :: xs).getD k (0, 0)).2 (by rw [List.length_cons]; exact hk) rfl
  rw [← restT_get (v := sumV xs xs.length) (x := (((V, G) :: xs).getD k (0, 0)).1) (y := (((V, G) :: xs).getD k (0, 0)).2) rfl hk]
  have m : minI (((V, G) :: xs).getD k (0, 0)).1 (volK ((V, G) :: xs) (sumV xs xs.length) k) ≤ (((V, G) :: xs).getD k (0, 0)).1 := by unfold minI; split <;> omega
  exact ⟨by simp only; omega, o.2.2.1, o.2.2.2⟩
end Go.Proofs.Ytjpijcmfnckmaaa

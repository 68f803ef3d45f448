/- The great laws on tariffs: plain facts, and contracts in the form that they need. -/
import Derived.Test.YtbfaejacfhblkaaTGPl
import Derived.Test.YtbfaejacfhblkaaTVol
import Derived.Test.YtbfaejacfhblkaaTCh
import Derived.Test.YtbfaejacfhblkaaTRaiI
import Derived.Test.YtbfaejacfhblkaaTRaiS
import Derived.Test.YtbfaejacfhblkaaTSim
import Derived.Test.YtbfaejacfhblkaaTSimS
import Derived.Test.YtbfaejacfhblkaaTProg
import Derived.Test.YtbfaejacfhblkaaInts
import Derived.Test.YtbfaejacfhblkaaDDraw
namespace Go.Proofs.Ytbfaejacfhblkaa
open Go.RowKit

theorem cost_ex {F : Int} {xs : List (Int × Int)} {v : Int} (h : goodT F xs = true) (h0 : 0 ≤ v) (h1 : v ≤ 100000) : costR F xs v = (costT F xs v, true) := costR_yes h (inB_mk h0 h1)
theorem cost_ok {F : Int} {xs : List (Int × Int)} {v k : Int} (h : costR F xs v = (k, true)) : goodT F xs = true ∧ (0 ≤ v ∧ v ≤ 100000) ∧ k = costT F xs v := by
  unfold costR at h
  split at h
  case isFalse => cases h
  rename_i c
  simp only [Bool.and_eq_true] at c
  simp only [Prod.mk.injEq, and_true] at h
  exact ⟨c.1, inB_out c.2, h.symm⟩
theorem vol_ok {F : Int} {xs : List (Int × Int)} {m n : Int} (h : volR F xs m = (n, true)) : goodT F xs = true ∧ isVol F xs m n := by
  unfold volR at h
  split at h
  case isFalse => cases h
  rename_i c
  simp only [Bool.and_eq_true, decide_eq_true_eq] at c
  obtain ⟨c1, c2, c3⟩ := c
  simp only [Prod.mk.injEq, and_true] at h
  obtain ⟨k, hk⟩ := vol_ex c1 c3
  have := volT_is c1 hk
  rw [h] at this
  subst this
  exact ⟨c1, hk⟩
/-- The law on the volume for an amount. -/
theorem vol_law {F : Int} {xs : List (Int × Int)} {m n : Int} (h : volR F xs m = (n, true)) : ∃ (k u : Int) (two : Bool), costR F xs n = (k, true) ∧ k ≤ m ∧ costR F xs (n + 1) = (u, two) ∧ (two = true → m < u) ∧ 0 ≤ n ∧ n ≤ 100000 := by
  obtain ⟨g, n0, n1, a, b⟩ := vol_ok h
  obtain ⟨u, two, e⟩ : ∃ (u : Int) (two : Bool), costR F xs (n + 1) = (u, two) := ⟨(costR F xs (n + 1)).1, (costR F xs (n + 1)).2, rfl⟩
  refine ⟨_, u, two, cost_ex g n0 n1, a, e, fun ht => ?_, n0, n1⟩
  subst ht
  obtain ⟨_, q, e2⟩ := cost_ok e
  rw [e2]
  omega
theorem cheap_law {Fa Fb : Int} {xa xb : List (Int × Int)} {n : Int} (h : cheapR Fa xa Fb xb = (n, true)) : ∃ (x y : Int), costR Fa xa n = (x, true) ∧ costR Fb xb n = (y, true) ∧ y < x ∧ 0 ≤ n ∧ n ≤ 100000 ∧ (0 < n → ∃ u v : Int, costR Fa xa (n - 1) = (u, true) ∧ costR Fb xb (n - 1) = (v, true) ∧ u ≤ v) := by
  unfold cheapR at h
  split at h
  case isFalse => cases h
  rename_i c
  simp only [Bool.and_eq_true] at c
  obtain ⟨g1, g2⟩ := c
  obtain ⟨n0, n1, a, b⟩ := cheap_ok h
  exact ⟨_, _, cost_ex g1 n0 n1, cost_ex g2 n0 n1, a, n0, n1, fun hp => ⟨_, _, cost_ex g1 (by omega) (by omega), cost_ex g2 (by omega) (by omega), b (n - 1) (by omega) (by omega)⟩⟩
theorem rai_law {F p G : Int} {xs ys : List (Int × Int)} (h : raiT F xs p = ((G, ys), true)) : goodT G ys = true := by
  unfold raiT at h
  split at h
  case isFalse => cases h
  rename_i c
  simp only [Prod.mk.injEq, and_true] at h
  rw [← h.1, ← h.2]
  exact c.2.2
theorem sim_ok (F : Int) (xs : List (Int × Int)) : (simT F xs).2 = goodT F xs := by
  unfold simT; split <;> simp_all
theorem next_ok {F : Int} {xs : List (Int × Int)} {v p : Int} (h : nextR F xs v = (p, true)) : goodT F xs = true ∧ 0 ≤ v ∧ v < 100000 ∧ p = costT F xs (v + 1) - costT F xs v := by
  unfold nextR at h
  split at h
  case isFalse => cases h
  rename_i c
  simp only [Bool.and_eq_true, decide_eq_true_eq] at c
  simp only [Prod.mk.injEq, and_true] at h
  have := inB_out c.2.1
  exact ⟨c.1, this.1, by omega, h.symm⟩
theorem mean_law {F : Int} {xs : List (Int × Int)} {v a b : Int} (h : meanTR F xs v = (a, b, true)) : ∃ k, costR F xs v = (k, true) ∧ a * v = k * b ∧ 0 ≤ a * v ∧ a * v ≤ 1000000000000000 := by
  unfold meanTR at h
  split at h
  case isFalse => cases h
  rename_i c
  simp only [Bool.and_eq_true, decide_eq_true_eq] at c
  obtain ⟨c1, c2, c3⟩ := c
  have hv := inB_out c2
  have cb := costT_b c1 hv.1 (by omega)
  simp only [Prod.mk.injEq, and_true] at h
  obtain ⟨rfl, rfl⟩ := h
  have r0 := rN_nonneg (b := v) cb.1
  have r1 := rN_le (b := v) cb.1
  refine ⟨_, cost_ex c1 hv.1 hv.2, ?_, Int.mul_nonneg r0 hv.1, ?_⟩
  · have e1 := rN_mul (costT F xs v) v
    have e2 := rD_mul (costT F xs v) v
    generalize rN (costT F xs v) v = x at *
    generalize rD (costT F xs v) v = y at *
    generalize gcdI (costT F xs v) v = g at *
    rw [← e1, ← e2, ← Int.mul_assoc, Int.mul_comm x g]
  · have := Int.mul_le_mul (by omega : rN (costT F xs v) v ≤ 10000000000) (by omega : v ≤ 100000) hv.1 (by omega)
    omega
/-- The law on the parts of a cost, the next cubic meter and the simpler tariff. -/
theorem tariffs_law {F G v k p : Int} {xs ys : List (Int × Int)} {zs : List Int} {fine told known : Bool} (e1 : costR F xs v = (k, true)) (e2 : nextR F xs v = (p, fine)) (e3 : splitR F xs v = (zs, told)) (e4 : simT F xs = ((G, ys), known)) :
    told = true ∧ 1 ≤ zs.length ∧ zs.length ≤ 6 ∧ sumI zs zs.length = k ∧ zs.getD 0 0 = F ∧ costR G ys v = (k, true) ∧ (∀ j, j ≤ zs.length → 0 ≤ sumI zs j ∧ sumI zs j ≤ 1000000000) ∧ (0 ≤ v ∧ v ≤ 100000) ∧ ∃ (u : Int) (two : Bool), costR F xs (v + 1) = (u, two) ∧ (-1000000000 ≤ u - k ∧ u - k ≤ 1000000000) ∧ (fine = true → two = true ∧ u - k = p) := by
  obtain ⟨g, ⟨v0, v1⟩, rfl⟩ := cost_ok e1
  have gl := goodT_out g
  rw [splitR_yes g (inB_mk v0 v1)] at e3
  rw [simT_yes g] at e4
  simp only [Prod.mk.injEq] at e3 e4
  obtain ⟨rfl, rfl⟩ := e3
  obtain ⟨⟨rfl, rfl⟩, rfl⟩ := e4
  have cb := costT_b g v0 (by omega)
  refine ⟨rfl, by rw [splitT_len]; omega, by rw [splitT_len]; omega, sumI_cost F xs v, by rw [splitT_get (Nat.zero_le _)]; simp, ?_, fun j hj => sumI_b g v0 (by omega) (by rw [splitT_len] at hj; exact hj), ⟨v0, v1⟩, (costR F xs (v + 1)).1, (costR F xs (v + 1)).2, rfl, ?_, fun hf => ?_⟩
  · rw [cost_ex (simp_good g) v0 v1, simp_cost g v0 v1]
  · unfold costR
    split
    · rename_i c
      simp only [Bool.and_eq_true] at c
      have := inB_out c.2
      have := costT_b g (v := v + 1) (by omega) (by omega)
      simp only; omega
    · simp only; omega
  · rw [hf] at e2
    obtain ⟨_, _, n2, n3⟩ := next_ok e2
    rw [cost_ex g (by omega) (by omega)]
    exact ⟨rfl, n3.symm⟩
/-- What a call gives back, by letters. -/
structure RL (W : World) (B : Option Addr) (zs : List (Int × Int)) : Prop where
  rd : RdP W W.heap.size B zs
  len : zs.length ≤ 1000000
theorem RL.below {W W' : World} {B : Option Addr} {zs : List (Int × Int)} (h : RL W B zs) (hb : Below W.heap.size W W') : RL W' B zs := ⟨(h.rd.below hb).more hb.size, h.len⟩
theorem RL.own {w' : World} {base : Nat} {B : Option Addr} {d : Nat} {zs : List (Int × Int)} (h : OwnP w' base (.slice B zs.length d) zs) (hl : zs.length ≤ 1000000) : RL w' B zs := ⟨h.rd, hl⟩
structure IL (W : World) (B : Option Addr) (zs : List Int) : Prop where
  rd : RdI W W.heap.size B zs
theorem IL.below {W W' : World} {B : Option Addr} {zs : List Int} (h : IL W B zs) (hb : Below W.heap.size W W') : IL W' B zs := ⟨(h.rd.below hb).more hb.size⟩
/-- A tariff's box. -/
structure PX (W : World) (p : Nat) (F : Int) (A : Option Addr) (n c : Nat) : Prop where
  c0 : W.cell? ⟨p, 0, none⟩ = some (.int .i64 F)
  c1 : W.cell? ⟨p, 1, none⟩ = some (.slice A n c)
theorem PX.below {W W' : World} {p : Nat} {F : Int} {A : Option Addr} {n c : Nat} (h : PX W p F A n c) (hb : Below W.heap.size W W') : PX W' p F A n c :=
  ⟨(hb.cell (lt_of_cell (by rw [h.c0]; rfl))).trans h.c0, (hb.cell (lt_of_cell (by rw [h.c1]; rfl))).trans h.c1⟩
section
variable {W : World} {A A' : Option Addr} {xs xb : List (Int × Int)} {F Fb : Int}
theorem RL.cost (h : RL W A xs) (c : Nat) (v k : Int) (t : Bool) (e : costR F xs v = (k, t)) : Calls Try.prog 31 #[.agg #[.int .i64 F, .slice A xs.length c], .int .i64 v] W fun e w' => e = .returned (.tuple #[.int .i64 k, .bool t]) ∧ Below W.heap.size W w' := by
  have := implCostOf_c F v A c xs W h.rd (Nat.le_refl _) (by have := h.len; omega)
  rw [e] at this; exact this
theorem RL.scost (h : RL W A xs) (c : Nat) (v k : Int) (t : Bool) (e : costR F xs v = (k, t)) : Calls Try.prog 30 #[.agg #[.int .i64 F, .slice A xs.length c], .int .i64 v] W fun e w' => e = .returned (.tuple #[.int .i64 k, .bool t]) ∧ Below W.heap.size W w' := by
  have := specCostOf_c F v A c xs W h.rd (Nat.le_refl _) (by have := h.len; omega)
  rw [e] at this; exact this
theorem RL.next (h : RL W A xs) (c : Nat) (v k : Int) (t : Bool) (e : nextR F xs v = (k, t)) : Calls Try.prog 23 #[.agg #[.int .i64 F, .slice A xs.length c], .int .i64 v] W fun e w' => e = .returned (.tuple #[.int .i64 k, .bool t]) ∧ Below W.heap.size W w' := by
  have := implNext_c F v A c xs W h.rd (Nat.le_refl _) (by have := h.len; omega)
  rw [e] at this; exact this
theorem RL.snext (h : RL W A xs) (c : Nat) (v k : Int) (t : Bool) (e : nextR F xs v = (k, t)) : Calls Try.prog 22 #[.agg #[.int .i64 F, .slice A xs.length c], .int .i64 v] W fun e w' => e = .returned (.tuple #[.int .i64 k, .bool t]) ∧ Below W.heap.size W w' := by
  have := specNext_c F v A c xs W h.rd (Nat.le_refl _) (by have := h.len; omega)
  rw [e] at this; exact this
theorem RL.vol (h : RL W A xs) (c : Nat) (m n : Int) (t : Bool) (e : volR F xs m = (n, t)) : Calls Try.prog 35 #[.agg #[.int .i64 F, .slice A xs.length c], .int .i64 m] W fun e w' => e = .returned (.tuple #[.int .i64 n, .bool t]) ∧ Below W.heap.size W w' := by
  have := implVolF_c F m A c xs W h.rd (Nat.le_refl _) (by have := h.len; omega)
  rw [e] at this; exact this
theorem RL.svol (h : RL W A xs) (c : Nat) (m n : Int) (t : Bool) (e : volR F xs m = (n, t)) : Calls Try.prog 34 #[.agg #[.int .i64 F, .slice A xs.length c], .int .i64 m] W fun e w' => e = .returned (.tuple #[.int .i64 n, .bool t]) ∧ Below W.heap.size W w' := by
  have := specVolF_c F m A c xs W h.rd (Nat.le_refl _) (by have := h.len; omega)
  rw [e] at this; exact this
theorem RL.mean (h : RL W A xs) (c : Nat) (v a b : Int) (t : Bool) (e : meanTR F xs v = (a, b, t)) : Calls Try.prog 42 #[.agg #[.int .i64 F, .slice A xs.length c], .int .i64 v] W fun e w' => e = .returned (.tuple #[.int .i64 a, .int .i64 b, .bool t]) ∧ Below W.heap.size W w' := by
  have := implMeanP_c F v A c xs W h.rd (Nat.le_refl _) (by have := h.len; omega)
  rw [e] at this; exact this
theorem RL.smean (h : RL W A xs) (c : Nat) (v a b : Int) (t : Bool) (e : meanTR F xs v = (a, b, t)) : Calls Try.prog 41 #[.agg #[.int .i64 F, .slice A xs.length c], .int .i64 v] W fun e w' => e = .returned (.tuple #[.int .i64 a, .int .i64 b, .bool t]) ∧ Below W.heap.size W w' := by
  have := specMeanP_c F v A c xs W h.rd (Nat.le_refl _) (by have := h.len; omega)
  rw [e] at this; exact this
theorem RL.prog (h : RL W A xs) (c : Nat) (a t : Bool) (e : progR F xs = (a, t)) : Calls Try.prog 21 #[.agg #[.int .i64 F, .slice A xs.length c]] W fun e w' => e = .returned (.tuple #[.bool a, .bool t]) ∧ Below W.heap.size W w' := by
  have := implProg_c F A c xs W h.rd (Nat.le_refl _) (by have := h.len; omega)
  rw [e] at this; exact this
theorem RL.sprog (h : RL W A xs) (c : Nat) (a t : Bool) (e : progR F xs = (a, t)) : Calls Try.prog 20 #[.agg #[.int .i64 F, .slice A xs.length c]] W fun e w' => e = .returned (.tuple #[.bool a, .bool t]) ∧ Below W.heap.size W w' := by
  have := specProg_c F A c xs W h.rd (Nat.le_refl _) (by have := h.len; omega)
  rw [e] at this; exact this
theorem RL.good (h : RL W A xs) (c : Nat) (t : Bool) (e : goodT F xs = t) : Calls Try.prog 18 #[.agg #[.int .i64 F, .slice A xs.length c]] W fun e w' => e = .returned (.bool t) ∧ Below W.heap.size W w' := by
  have := implTar_c F A c xs W h.rd (Nat.le_refl _) (by have := h.len; omega)
  rw [e] at this; exact this
theorem RL.cheap (h : RL W A xs) (h' : RL W A' xb) (c c' : Nat) (n : Int) (t : Bool) (e : cheapR F xs Fb xb = (n, t)) : Calls Try.prog 25 #[.agg #[.int .i64 F, .slice A xs.length c], .agg #[.int .i64 Fb, .slice A' xb.length c']] W fun e w' => e = .returned (.tuple #[.int .i64 n, .bool t]) ∧ Below W.heap.size W w' := by
  have := implCheap_c F Fb A A' c c' xs xb W h.rd h'.rd (Nat.le_refl _) (Nat.le_refl _) (by have := h.len; omega) (by have := h'.len; omega)
  rw [e] at this; exact this
theorem RL.scheap (h : RL W A xs) (h' : RL W A' xb) (c c' : Nat) (n : Int) (t : Bool) (e : cheapR F xs Fb xb = (n, t)) : Calls Try.prog 24 #[.agg #[.int .i64 F, .slice A xs.length c], .agg #[.int .i64 Fb, .slice A' xb.length c']] W fun e w' => e = .returned (.tuple #[.int .i64 n, .bool t]) ∧ Below W.heap.size W w' := by
  have := specCheap_c F Fb A A' c c' xs xb W h.rd h'.rd (Nat.le_refl _) (Nat.le_refl _) (by have := h.len; omega) (by have := h'.len; omega)
  rw [e] at this; exact this
theorem RL.split (h : RL W A xs) (c : Nat) (v : Int) (zs : List Int) (t : Bool) (e : splitR F xs v = (zs, t)) : Calls Try.prog 37 #[.agg #[.int .i64 F, .slice A xs.length c], .int .i64 v] W fun e w' => ∃ A3 c3, e = .returned (.tuple #[.slice A3 zs.length c3, .bool t]) ∧ IL w' A3 zs ∧ Below W.heap.size W w' := by
  have := implSplitC_c F v A c xs W h.rd (Nat.le_refl _) (by have := h.len; omega)
  rw [e] at this
  exact this.mono fun e w' ⟨A3, c3, he, o, hb⟩ => ⟨A3, c3, he, ⟨o.rd⟩, hb⟩
theorem RL.ssplit (h : RL W A xs) (c : Nat) (v : Int) (zs : List Int) (t : Bool) (e : splitR F xs v = (zs, t)) : Calls Try.prog 36 #[.agg #[.int .i64 F, .slice A xs.length c], .int .i64 v] W fun e w' => ∃ A3 c3, e = .returned (.tuple #[.slice A3 zs.length c3, .bool t]) ∧ IL w' A3 zs ∧ Below W.heap.size W w' := by
  have := specSplitC_c F v A c xs W h.rd (Nat.le_refl _) (by have := h.len; omega)
  rw [e] at this
  exact this.mono fun e w' ⟨A3, c3, he, o, hb⟩ => ⟨A3, c3, he, ⟨o.rd⟩, hb⟩
theorem simT_len6 (h : xs.length ≤ 6) : (simT F xs).1.2.length ≤ 6 := by
  unfold simT; split
  · have := simpL_len xs xs.length; simp only; omega
  · simp
theorem raiT_len6 {p : Int} (h : xs.length ≤ 6) : (raiT F xs p).1.2.length ≤ 6 := by
  unfold raiT; split
  · simp only [raK_len]; exact h
  · simp
theorem RL.sim (h : RL W A xs) (c : Nat) (G : Int) (ys : List (Int × Int)) (t : Bool) (e : simT F xs = ((G, ys), t)) (hl : ys.length ≤ 6) : Calls Try.prog 27 #[.agg #[.int .i64 F, .slice A xs.length c]] W (fun e w' => ∃ A3 c3, e = .returned (.tuple #[.agg #[.int .i64 G, .slice A3 ys.length c3], .bool t]) ∧ RL w' A3 ys ∧ Below W.heap.size W w') := by
  have := implSim_c F A c xs W h.rd (Nat.le_refl _) (by have := h.len; omega)
  rw [e] at this
  exact this.mono fun e w' ⟨A3, c3, he, o, hb⟩ => ⟨A3, c3, he, RL.own o (by omega), hb⟩
theorem RL.ssim (h : RL W A xs) (c : Nat) (G : Int) (ys : List (Int × Int)) (t : Bool) (e : simT F xs = ((G, ys), t)) (hl : ys.length ≤ 6) : Calls Try.prog 26 #[.agg #[.int .i64 F, .slice A xs.length c]] W (fun e w' => ∃ A3 c3, e = .returned (.tuple #[.agg #[.int .i64 G, .slice A3 ys.length c3], .bool t]) ∧ RL w' A3 ys ∧ Below W.heap.size W w') := by
  have := specSim_c F A c xs W h.rd (Nat.le_refl _) (by have := h.len; omega)
  rw [e] at this
  exact this.mono fun e w' ⟨A3, c3, he, o, hb⟩ => ⟨A3, c3, he, RL.own o (by omega), hb⟩
theorem RL.rai (h : RL W A xs) (c : Nat) (p G : Int) (ys : List (Int × Int)) (t : Bool) (e : raiT F xs p = ((G, ys), t)) (hl : ys.length ≤ 6) : Calls Try.prog 33 #[.agg #[.int .i64 F, .slice A xs.length c], .int .i64 p] W (fun e w' => ∃ A3 c3, e = .returned (.tuple #[.agg #[.int .i64 G, .slice A3 ys.length c3], .bool t]) ∧ RL w' A3 ys ∧ Below W.heap.size W w') := by
  have := implRai_c F p A c xs W h.rd (Nat.le_refl _) (by have := h.len; omega)
  rw [e] at this
  exact this.mono fun e w' ⟨A3, c3, he, o, hb⟩ => ⟨A3, c3, he, RL.own o (by omega), hb⟩
theorem RL.srai (h : RL W A xs) (c : Nat) (p G : Int) (ys : List (Int × Int)) (t : Bool) (e : raiT F xs p = ((G, ys), t)) (hl : ys.length ≤ 6) : Calls Try.prog 32 #[.agg #[.int .i64 F, .slice A xs.length c], .int .i64 p] W (fun e w' => ∃ A3 c3, e = .returned (.tuple #[.agg #[.int .i64 G, .slice A3 ys.length c3], .bool t]) ∧ RL w' A3 ys ∧ Below W.heap.size W w') := by
  have := specRai_c F p A c xs W h.rd (Nat.le_refl _) (by have := h.len; omega)
  rw [e] at this
  exact this.mono fun e w' ⟨A3, c3, he, o, hb⟩ => ⟨A3, c3, he, RL.own o (by omega), hb⟩
end
end Go.Proofs.Ytbfaejacfhblkaa

/- Contracts: IsProgressive. -/
import Derived.Test.YtbfaejacfhblkaaTWalk
namespace Go.Proofs.Ytbfaejacfhblkaa
open Go.RowKit

/-- The price of block k is not less than the one before. -/
def upK (xs : List (Int × Int)) (k : Nat) : Bool := decide (k = 0) || decide (prT xs (k - 1) ≤ prT xs k)
theorem upK_zero (xs : List (Int × Int)) : upK xs 0 = true := rfl
theorem upK_no {xs : List (Int × Int)} {k : Nat} {x y x' y' : Int} (hx : (x, y) = xs.getD (k + 1) (0, 0)) (hx' : (x', y') = xs.getD k (0, 0)) (h : y < y') : upK xs (k + 1) = false := by
  have : ¬ y' ≤ y := by omega
  unfold upK; rw [Nat.add_sub_cancel, pr_of hx, pr_of hx']; simp [this]
theorem upK_yes {xs : List (Int × Int)} {k : Nat} {x y x' y' : Int} (hx : (x, y) = xs.getD (k + 1) (0, 0)) (hx' : (x', y') = xs.getD k (0, 0)) (h : ¬ y < y') : upK xs (k + 1) = true := by
  have : y' ≤ y := by omega
  unfold upK; rw [Nat.add_sub_cancel, pr_of hx, pr_of hx']; simp [this]
def progR (F : Int) (xs : List (Int × Int)) : Bool × Bool := if goodT F xs then (allK (upK xs) xs.length, true) else (false, false)
theorem progR_no {F : Int} {xs : List (Int × Int)} (h : goodT F xs = false) : progR F xs = (false, false) := by simp [progR, h]
theorem progR_yes {F : Int} {xs : List (Int × Int)} (h : goodT F xs = true) : progR F xs = (allK (upK xs) xs.length, true) := by simp [progR, h]
theorem prog1_c (V G V' G' : Int) (w : World) (h0 : 0 ≤ G) (h1 : G ≤ 1000) (h2 : 0 ≤ G') (h3 : G' ≤ 1000) : Calls Try.prog 58 #[.agg #[.int .i64 V, .int .i64 G], .agg #[.int .i64 V', .int .i64 G']] w fun e w' => e = .returned (.int .i64 (G - G')) ∧ Below w.heap.size w w' := by
  have wr1 : IntKind.i64.wrap (G - G') = G - G' := IntWalk.i64_in _ (by omega)
  go_enter Try.func58, Try.ntmps58
  go_wp2
  (go_returns; exact ⟨by first | rfl | (simp; done) | (simp; omega), by (repeat' (first | (with_reducible exact Below.refl _ _) | (with_reducible assumption) | (with_reducible refine below_drewN ?_ _) | (with_reducible refine Below.alloc ?_ ?_ _) | (with_reducible refine Below.drew ?_) | (with_reducible refine Below.setCell ?_ ?_ _) | go_size))⟩)
set_option maxHeartbeats 1000000 in
theorem isSorted_c {B : Nat} (F : Int) (A : Option Addr) (c : Nat) (xs : List (Int × Int)) (w : World) (h : RdP w B A xs) (hBs : B ≤ w.heap.size) (hg : goodT F xs = true) :
    Calls Try.prog 57 #[.slice A xs.length c, .func (.func 58) #[] #[]] w fun e w' => e = .returned (.bool (allK (upK xs) xs.length)) ∧ Below w.heap.size w w' := by
  have g := goodT_out hg
  have wr0 : IntKind.i64.wrap ((xs.length : Int) - 1) = (xs.length : Int) - 1 := IntWalk.i64_in _ (by omega)
  go_enter Try.func57, Try.ntmps57
  go_wp2
  go_loopw [5] (fun i wr => ∃ k : Nat, k < xs.length ∧ i = .int .i64 k ∧ (∀ j, k < j → j < xs.length → upK xs j = true) ∧ Below w.heap.size w wr) (fun i _ => (intOf i).toNat)
  case atStart => exact ⟨xs.length - 1, by omega, by congr 1; omega, fun j hj hj2 => by omega, by (repeat' (first | (with_reducible exact Below.refl _ _) | (with_reducible assumption) | (with_reducible refine below_drewN ?_ _) | (with_reducible refine Below.alloc ?_ ?_ _) | (with_reducible refine Below.drew ?_) | (with_reducible refine Below.setCell ?_ ?_ _) | go_size))⟩
  case round =>
    obtain ⟨k, hlt, rfl, hno, hB⟩ := hrel
    have hsz := hB.size
    cases k with
    | zero =>
      have hr : allK (upK xs) xs.length = true := allK_yes fun j hj => by
        cases j with
        | zero => rfl
        | succ m => exact hno (m + 1) (by omega) hj
      have HR := Lib.hid hr
      clear h hno hr
      go_wp2
      go_returns
      exact ⟨by rw [HR.out]; rfl, by (repeat' (first | (with_reducible exact Below.refl _ _) | (with_reducible assumption) | (with_reducible refine below_drewN ?_ _) | (with_reducible refine Below.alloc ?_ ?_ _) | (with_reducible refine Below.drew ?_) | (with_reducible refine Below.setCell ?_ ?_ _) | go_size))⟩
    | succ m =>
      have h' := h.below (hB.mono hBs)
      obtain ⟨b, off, x, y, rfl, hx, hbB, hc0, hc1⟩ := h'.at_ hlt
      obtain ⟨b2, off2, x', y', hA', hy, hb2, hd0, hd1⟩ := h'.at_ (k := m) (by omega)
      simp only [Option.some.injEq, Addr.mk.injEq, and_true] at hA'
      obtain ⟨rfl, rfl⟩ := hA'
      have o1 := goodT_xy hg hlt hx
      have o2 := goodT_xy hg (by omega) hy
      have wr1 : IntKind.i64.wrap ((m : Int) + 1 - 1) = m := by rw [IntWalk.i64_in _ (by omega)]; omega
      have hi2 : (m : Int) < (xs.length : Int) := by omega
      have hi1 : (m : Int) + 1 < (xs.length : Int) := by omega
      have hmp : (0 : Int) < (m : Int) + 1 := by omega
      have hmn : (0 : Int) ≤ (m : Int) + 1 := by omega
      have hcc := fun w => prog1_c x y x' y' w o1.2.2.1 o1.2.2.2 o2.2.2.1 o2.2.2.2
      have HC := Lib.hid hcc
      by_cases hq : y < y'
      · have hr : allK (upK xs) xs.length = false := allK_no hlt (upK_no hx hy hq)
        have HR := Lib.hid hr
        have hqd : decide (y - y' < 0) = true := by simp; omega
        have hq2 : y - y' < 0 := by omega
        clear hx hy h h' hno hr hcc
        go_wp2
        (refine wp_region_after (by kernel_rfl) (by kernel_rfl) (fun hAf => ?_); (repeat (go_big_quiet_step (first | (go_at_call 58; exact callsAfter (HC.out _))))); refine wpQuiet_nil ?_; intro w1 hw'; have hb1 := after_out hw'; clear hw' hAf; have hz1 := hb1.size; (repeat (first | rw [World.size_alloc] at hz1 | rw [World.size_drew] at hz1 | rw [World.heap_drewN] at hz1 | rw [World.size_setCell] at hz1)); have hB : Below w.heap.size w w1 := Below.trans (by (repeat' (first | (with_reducible exact Below.refl _ _) | (with_reducible assumption) | (with_reducible refine below_drewN ?_ _) | (with_reducible refine Below.alloc ?_ ?_ _) | (with_reducible refine Below.drew ?_) | (with_reducible refine Below.setCell ?_ ?_ _) | go_size))) (hb1.mono (by go_size)); have hL1 := hb1; clear hb1; obtain ⟨hc1, hf1⟩ := bcell hL1)
        go_wp2
        go_returns
        exact ⟨by rw [HR.out]; rfl, by (repeat' (first | (with_reducible exact Below.refl _ _) | (with_reducible assumption) | (with_reducible refine below_drewN ?_ _) | (with_reducible refine Below.alloc ?_ ?_ _) | (with_reducible refine Below.drew ?_) | (with_reducible refine Below.setCell ?_ ?_ _) | go_size))⟩
      · have HU := Lib.hid (upK_yes hx hy hq)
        have HNO := Lib.hid hno
        have hqd : decide (y - y' < 0) = false := by simp; omega
        have hq2 : ¬ y - y' < 0 := by omega
        clear hx hy h h' hno hcc
        go_wp2
        (refine wp_region_after (by kernel_rfl) (by kernel_rfl) (fun hAf => ?_); (repeat (go_big_quiet_step (first | (go_at_call 58; exact callsAfter (HC.out _))))); refine wpQuiet_nil ?_; intro w1 hw'; have hb1 := after_out hw'; clear hw' hAf; have hz1 := hb1.size; (repeat (first | rw [World.size_alloc] at hz1 | rw [World.size_drew] at hz1 | rw [World.heap_drewN] at hz1 | rw [World.size_setCell] at hz1)); have hB : Below w.heap.size w w1 := Below.trans (by (repeat' (first | (with_reducible exact Below.refl _ _) | (with_reducible assumption) | (with_reducible refine below_drewN ?_ _) | (with_reducible refine Below.alloc ?_ ?_ _) | (with_reducible refine Below.drew ?_) | (with_reducible refine Below.setCell ?_ ?_ _) | go_size))) (hb1.mono (by go_size)); have hL1 := hb1; clear hb1; obtain ⟨hc1, hf1⟩ := bcell hL1)
        go_wp2
        go_roundw
        case rel => exact ⟨m, by omega, by go_num, fun j hj hj2 => by
          by_cases e : j = m + 1
          · subst e; exact HU.out
          · exact HNO.out j (by omega) hj2, by (repeat' (first | (with_reducible exact Below.refl _ _) | (with_reducible assumption) | (with_reducible refine below_drewN ?_ _) | (with_reducible refine Below.alloc ?_ ?_ _) | (with_reducible refine Below.drew ?_) | (with_reducible refine Below.setCell ?_ ?_ _) | go_size))⟩
        case measure => first | (simp [intOf]; done) | (simp [intOf]; omega)
theorem implProg_c {B : Nat} (F : Int) (A : Option Addr) (c : Nat) (xs : List (Int × Int)) (w : World) (h : RdP w B A xs) (hBs : B ≤ w.heap.size) (hm : xs.length ≤ 4611686018427387904) : Calls Try.prog 21 #[.agg #[.int .i64 F, .slice A xs.length c]] w fun e w' => e = .returned (.tuple #[.bool (progR F xs).1, .bool (progR F xs).2]) ∧ Below w.heap.size w w' := by
  cases h1 : goodT F xs
  · rw [progR_no h1]
    go_enter Try.func21, Try.ntmps21
    go_wp2_with (go_at_call 18; refine (implTar_c _ _ _ _ _ (h.alloc hBs _) (by simp; omega) hm).mono ?_; rintro e w1 ⟨rfl, hb1⟩; have hz1 := hb1.size; (repeat (first | rw [World.size_alloc] at hz1 | rw [World.size_drew] at hz1 | rw [World.heap_drewN] at hz1 | rw [World.size_setCell] at hz1)); have hB : Below w.heap.size w w1 := Below.trans (by (repeat' (first | (with_reducible exact Below.refl _ _) | (with_reducible assumption) | (with_reducible refine below_drewN ?_ _) | (with_reducible refine Below.alloc ?_ ?_ _) | (with_reducible refine Below.drew ?_) | (with_reducible refine Below.setCell ?_ ?_ _) | go_size))) (hb1.mono (by go_size)); have hL1 := hb1; clear hb1; obtain ⟨hc1, hf1⟩ := bcell hL1)
    (go_returns; exact ⟨by first | rfl | (simp; done) | (simp; omega), by (repeat' (first | (with_reducible exact Below.refl _ _) | (with_reducible assumption) | (with_reducible refine below_drewN ?_ _) | (with_reducible refine Below.alloc ?_ ?_ _) | (with_reducible refine Below.drew ?_) | (with_reducible refine Below.setCell ?_ ?_ _) | go_size))⟩)
  rw [progR_yes h1]
  go_enter Try.func21, Try.ntmps21
  go_wp2_with (first | (go_at_call 18; refine (implTar_c _ _ _ _ _ (h.alloc hBs _) (by simp; omega) hm).mono ?_; rintro e w1 ⟨rfl, hb1⟩; have hz1 := hb1.size; (repeat (first | rw [World.size_alloc] at hz1 | rw [World.size_drew] at hz1 | rw [World.heap_drewN] at hz1 | rw [World.size_setCell] at hz1)); have hB : Below w.heap.size w w1 := Below.trans (by (repeat' (first | (with_reducible exact Below.refl _ _) | (with_reducible assumption) | (with_reducible refine below_drewN ?_ _) | (with_reducible refine Below.alloc ?_ ?_ _) | (with_reducible refine Below.drew ?_) | (with_reducible refine Below.setCell ?_ ?_ _) | go_size))) (hb1.mono (by go_size)); have hL1 := hb1; clear hb1; obtain ⟨hc1, hf1⟩ := bcell hL1) | (go_at_call 57; refine (isSorted_c F _ _ _ _ ((h.alloc hBs _).below (hL1.mono (by simp; omega))) (by go_size) h1).mono ?_; rintro e w2 ⟨rfl, hb2⟩; have hz2 := hb2.size; (repeat (first | rw [World.size_alloc] at hz2 | rw [World.size_drew] at hz2 | rw [World.heap_drewN] at hz2 | rw [World.size_setCell] at hz2)); replace hB : Below w.heap.size w w2 := Below.trans (by (repeat' (first | (with_reducible exact Below.refl _ _) | (with_reducible assumption) | (with_reducible refine below_drewN ?_ _) | (with_reducible refine Below.alloc ?_ ?_ _) | (with_reducible refine Below.drew ?_) | (with_reducible refine Below.setCell ?_ ?_ _) | go_size))) (hb2.mono (by go_size)); (first | (refine extend_then hL1 hb2 ?_ ?_ (fun hq => ?_); (focus ((repeat' (first | (with_reducible exact Below.refl _ _) | (with_reducible assumption) | (with_reducible refine below_drewN ?_ _) | (with_reducible refine Below.alloc ?_ ?_ _) | (with_reducible refine Below.drew ?_) | (with_reducible refine Below.setCell ?_ ?_ _) | go_size)); done)); (focus (go_size; done)); replace hL1 := hq; clear hq hc1 hf1; obtain ⟨hc1, hf1⟩ := bcell hL1) | (clear hL1 hc1 hf1) | skip); have hL2 := hb2; clear hb2; obtain ⟨hc2, hf2⟩ := bcell hL2))
  (go_returns; exact ⟨by first | rfl | (simp; done) | (simp; omega), by (repeat' (first | (with_reducible exact Below.refl _ _) | (with_reducible assumption) | (with_reducible refine below_drewN ?_ _) | (with_reducible refine Below.alloc ?_ ?_ _) | (with_reducible refine Below.drew ?_) | (with_reducible refine Below.setCell ?_ ?_ _) | go_size))⟩)
theorem specProg_c {B : Nat} (F : Int) (A : Option Addr) (c : Nat) (xs : List (Int × Int)) (w : World) (h : RdP w B A xs) (hBs : B ≤ w.heap.size) (hm : xs.length ≤ 4611686018427387904) : Calls Try.prog 20 #[.agg #[.int .i64 F, .slice A xs.length c]] w fun e w' => e = .returned (.tuple #[.bool (progR F xs).1, .bool (progR F xs).2]) ∧ Below w.heap.size w w' := by
  cases h1 : goodT F xs
  · rw [progR_no h1]
    go_enter Try.func20, Try.ntmps20
    go_wp2_with (go_at_call 53; refine (specTar0_c _ _ _ _ _ (h.alloc hBs _) (by simp; omega) hm).mono ?_; rintro e w1 ⟨rfl, hb1⟩; have hz1 := hb1.size; (repeat (first | rw [World.size_alloc] at hz1 | rw [World.size_drew] at hz1 | rw [World.heap_drewN] at hz1 | rw [World.size_setCell] at hz1)); have hB : Below w.heap.size w w1 := Below.trans (by (repeat' (first | (with_reducible exact Below.refl _ _) | (with_reducible assumption) | (with_reducible refine below_drewN ?_ _) | (with_reducible refine Below.alloc ?_ ?_ _) | (with_reducible refine Below.drew ?_) | (with_reducible refine Below.setCell ?_ ?_ _) | go_size))) (hb1.mono (by go_size)); have hL1 := hb1; clear hb1; obtain ⟨hc1, hf1⟩ := bcell hL1)
    (go_returns; exact ⟨by first | rfl | (simp; done) | (simp; omega), by (repeat' (first | (with_reducible exact Below.refl _ _) | (with_reducible assumption) | (with_reducible refine below_drewN ?_ _) | (with_reducible refine Below.alloc ?_ ?_ _) | (with_reducible refine Below.drew ?_) | (with_reducible refine Below.setCell ?_ ?_ _) | go_size))⟩)
  have g := goodT_out h1
  have hr := progR_yes h1
  have HR := Lib.hid hr
  clear hr
  go_enter Try.func20, Try.ntmps20
  go_wp2_with (go_at_call 53; refine (specTar0_c _ _ _ _ _ (h.alloc hBs _) (by simp; omega) hm).mono ?_; rintro e w1 ⟨rfl, hb1⟩; have hz1 := hb1.size; (repeat (first | rw [World.size_alloc] at hz1 | rw [World.size_drew] at hz1 | rw [World.heap_drewN] at hz1 | rw [World.size_setCell] at hz1)); have hB : Below w.heap.size w w1 := Below.trans (by (repeat' (first | (with_reducible exact Below.refl _ _) | (with_reducible assumption) | (with_reducible refine below_drewN ?_ _) | (with_reducible refine Below.alloc ?_ ?_ _) | (with_reducible refine Below.drew ?_) | (with_reducible refine Below.setCell ?_ ?_ _) | go_size))) (hb1.mono (by go_size)); have hL1 := hb1; clear hb1; obtain ⟨hc1, hf1⟩ := bcell hL1)
  have h' := (h.alloc hBs (.cells #[.int .i64 F, .slice A xs.length c] 29)).below (hL1.mono (by simp; omega))
  go_loopw [4] (fun i wr => ∃ k : Nat, k + 1 ≤ xs.length ∧ i = .int .i64 ((k : Int) + 1) ∧ (∀ j, j < k + 1 → upK xs j = true) ∧ ∃ n, wr = w1.drewN n) (fun i _ => xs.length - (intOf i).toNat)
  case atStart => exact ⟨0, by omega, rfl, fun j hj => by obtain rfl : j = 0 := by omega
                                                          rfl, 0, rfl⟩
  case round =>
    obtain ⟨m, hk, rfl, hno, n, rfl⟩ := hrel
    by_cases hlt : m + 1 < xs.length
    · obtain ⟨b, off, x, y, rfl, hx, hbB, hd0, hd1⟩ := h'.at_ hlt
      obtain ⟨b2, off2, x', y', hA', hy, hb2, he0, he1⟩ := h'.at_ (k := m) (by omega)
      simp only [Option.some.injEq, Addr.mk.injEq, and_true] at hA'
      obtain ⟨rfl, rfl⟩ := hA'
      have wr1 : IntKind.i64.wrap ((m : Int) + 1 - 1) = m := by rw [IntWalk.i64_in _ (by omega)]; omega
      have hi2 : (m : Int) < (xs.length : Int) := by omega
      have hi1 : (m : Int) + 1 < (xs.length : Int) := by omega
      have hmn : (0 : Int) ≤ (m : Int) + 1 := by omega
      have hd0' : w1.cell? ⟨b, off + (m + 1) * 2, none⟩ = some (.int .i64 x) := hd0
      by_cases hq : y < y'
      · have hr2 : allK (upK xs) xs.length = false := allK_no hlt (upK_no hx hy hq)
        have HR2 := Lib.hid hr2
        clear hx hy h h' hno hr2
        go_wp2
        go_quiet (fail)
        go_wp2
        go_returns
        exact ⟨by rw [HR.out, HR2.out]; rfl, by (repeat' (first | (with_reducible exact Below.refl _ _) | (with_reducible assumption) | (with_reducible refine below_drewN ?_ _) | (with_reducible refine Below.alloc ?_ ?_ _) | (with_reducible refine Below.drew ?_) | (with_reducible refine Below.setCell ?_ ?_ _) | go_size))⟩
      · have HU := Lib.hid (upK_yes hx hy hq)
        have HNO := Lib.hid hno
        clear hx hy h h' hno
        go_wp2
        go_quiet (fail)
        go_wp2
        go_roundw
        case rel => exact ⟨m + 1, by omega, by go_num, fun j hj => by
          by_cases e : j = m + 1
          · subst e; exact HU.out
          · exact HNO.out j (by omega), _, by first | rfl | exact World.drewN_drewN _ _ _⟩
        case measure => simp [intOf]; omega
    · have hr2 : allK (upK xs) xs.length = true := allK_yes fun j hj => hno j (by omega)
      have HR2 := Lib.hid hr2
      have hll : (xs.length : Int) = (m : Int) + 1 := by omega
      have hl2 : ¬ (m : Int) + 1 < (xs.length : Int) := by omega
      clear h h' hno hr2
      go_wp2
      go_returns
      exact ⟨by rw [HR.out, HR2.out]; rfl, by (repeat' (first | (with_reducible exact Below.refl _ _) | (with_reducible assumption) | (with_reducible refine below_drewN ?_ _) | (with_reducible refine Below.alloc ?_ ?_ _) | (with_reducible refine Below.drew ?_) | (with_reducible refine Below.setCell ?_ ?_ _) | go_size))⟩
end Go.Proofs.Ytbfaejacfhblkaa

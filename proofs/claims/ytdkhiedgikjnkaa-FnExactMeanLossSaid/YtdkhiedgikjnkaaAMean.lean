/- The mean loss: contracts. -/
import Derived.Test.YtdkhiedgikjnkaaALoss
namespace Go.Proofs.Ytdkhiedgikjnkaa
open Go.RowKit

def sumL (H : Int) (xs : List Int) : Nat → Int
  | 0 => 0
  | k + 1 => sumL H xs k + lossV H (xs.getD k 0)
theorem sumL_b {H : Int} {xs : List Int} (hH : 1 ≤ H) (h : goodF xs = true) : ∀ k, k ≤ xs.length → 0 ≤ sumL H xs k ∧ sumL H xs k ≤ 1000000 * k
  | 0, _ => by simp [sumL]
  | k + 1, hk => by
    have a := sumL_b hH h k (by omega)
    have g := goodF_out h k (by omega)
    have b := lossV_b hH g.1 g.2
    unfold sumL
    omega
def meanR (I H : Int) (xs : List Int) : Int × Int × Bool := if goodA I H xs then (rN (sumL H xs xs.length) xs.length, rD (sumL H xs xs.length) xs.length, true) else (0, 0, false)
theorem meanR_no {I H : Int} {xs : List Int} (h : goodA I H xs = false) : meanR I H xs = (0, 0, false) := by simp [meanR, h]
theorem meanR_yes {I H : Int} {xs : List Int} (h : goodA I H xs = true) : meanR I H xs = (rN (sumL H xs xs.length) xs.length, rD (sumL H xs xs.length) xs.length, true) := by simp [meanR, h]

theorem implMean_c {B : Nat} (I H : Int) (A : Option Addr) (c : Nat) (xs : List Int) (w : World) (h : RdI w B A xs) (hBs : B ≤ w.heap.size) (hm : xs.length ≤ 4611686018427387904) :
    Calls Try.prog 30 #[.agg #[.int .i64 I, .int .i64 H, .slice A xs.length c]] w fun e w' => e = .returned (.tuple #[.int .i64 (meanR I H xs).1, .int .i64 (meanR I H xs).2.1, .bool (meanR I H xs).2.2]) ∧ Below w.heap.size w w' := by
  cases h1 : goodA I H xs
  · rw [meanR_no h1]
    go_enter Try.func30, Try.ntmps30
    go_wp2_with (go_at_call 19; refine (implArea_c _ _ _ _ _ _ (h.alloc hBs _) (by simp; omega) hm).mono ?_; rintro e w1 ⟨rfl, hb1⟩; have hz1 := hb1.size; (repeat (first | rw [World.size_alloc] at hz1 | rw [World.size_drew] at hz1 | rw [World.heap_drewN] at hz1 | rw [World.size_setCell] at hz1)); have hB : Below w.heap.size w w1 := Below.trans (by (repeat' (first | (with_reducible exact Below.refl _ _) | (with_reducible assumption) | (with_reducible refine below_drewN ?_ _) | (with_reducible refine Below.alloc ?_ ?_ _) | (with_reducible refine Below.drew ?_) | (with_reducible refine Below.setCell ?_ ?_ _) | go_size))) (hb1.mono (by go_size)); have hL1 := hb1; clear hb1; obtain ⟨hc1, hf1⟩ := bcell hL1)
    (go_returns; exact ⟨by first | rfl | (simp; done) | (simp; omega), by (repeat' (first | (with_reducible exact Below.refl _ _) | (with_reducible assumption) | (with_reducible refine below_drewN ?_ _) | (with_reducible refine Below.alloc ?_ ?_ _) | (with_reducible refine Below.drew ?_) | (with_reducible refine Below.setCell ?_ ?_ _) | go_size))⟩)
  have g := goodA_out h1
  rw [meanR_yes h1]
  go_enter Try.func30, Try.ntmps30
  go_wp2_with (go_at_call 19; refine (implArea_c _ _ _ _ _ _ (h.alloc hBs _) (by simp; omega) hm).mono ?_; rintro e w1 ⟨rfl, hb1⟩; have hz1 := hb1.size; (repeat (first | rw [World.size_alloc] at hz1 | rw [World.size_drew] at hz1 | rw [World.heap_drewN] at hz1 | rw [World.size_setCell] at hz1)); have hB : Below w.heap.size w w1 := Below.trans (by (repeat' (first | (with_reducible exact Below.refl _ _) | (with_reducible assumption) | (with_reducible refine below_drewN ?_ _) | (with_reducible refine Below.alloc ?_ ?_ _) | (with_reducible refine Below.drew ?_) | (with_reducible refine Below.setCell ?_ ?_ _) | go_size))) (hb1.mono (by go_size)); have hL1 := hb1; clear hb1; obtain ⟨hc1, hf1⟩ := bcell hL1)
  go_loopw [5, 6, 15] (fun s _ i wr => ∃ k : Nat, k ≤ xs.length ∧ i = .int .i64 k ∧ s = .int .i64 (sumL H xs k) ∧ Below w.heap.size w wr ∧ w.heap.size < wr.heap.size ∧ wr.cell? ⟨w.heap.size, 0, none⟩ = some (.int .i64 I) ∧ wr.cell? ⟨w.heap.size, 1, none⟩ = some (.int .i64 H) ∧ wr.cell? ⟨w.heap.size, 2, none⟩ = some (.slice A xs.length c)) (fun _ _ i _ => xs.length - (intOf i).toNat)
  case atStart => exact ⟨0, by omega, rfl, rfl, by (repeat' (first | (with_reducible exact Below.refl _ _) | (with_reducible assumption) | (with_reducible refine below_drewN ?_ _) | (with_reducible refine Below.alloc ?_ ?_ _) | (with_reducible refine Below.drew ?_) | (with_reducible refine Below.setCell ?_ ?_ _) | go_size)), by first | omega | (simp; omega), by simp [*, go_sem], by simp [*, go_sem], by simp [*, go_sem]⟩
  case round =>
    clear hB hL1 hc1 hf1 hz1
    obtain ⟨k, hk, rfl, rfl, hBr, hsz, c0, c1, c2⟩ := hrel
    have sb := sumL_b g.2.2.1 g.2.2.2.2.2.2 k hk
    by_cases hlt : k < xs.length
    · have h3 := h.below (hBr.mono hBs)
      have hx := goodF_out g.2.2.2.2.2.2 k hlt
      have lb := lossV_b g.2.2.1 hx.1 hx.2
      obtain ⟨y, hy⟩ : ∃ y, y = lossV H (xs.getD k 0) := ⟨_, rfl⟩
      rw [← hy] at lb
      have wr1 : IntKind.i64.wrap (sumL H xs k + y) = sumL H xs k + y := IntWalk.i64_in _ (by omega)
      have HY := Lib.hid hy
      clear h hy
      go_wp2_with (go_at_call 54; refine (lossOn_c I H k _ _ xs _ h3 (by omega) hlt (by omega) (by omega) hx).mono ?_; rintro e w2 ⟨rfl, hb2⟩; rw [← HY.out]; have z2 := hb2.size; obtain ⟨hc2, hf2⟩ := bcell hb2)
      go_roundw
      case rel => exact ⟨k + 1, by omega, by go_num, by rw [HY.out]; rfl, hBr.trans (hb2.mono hBr.size), by omega, by simp [*, go_sem], by simp [*, go_sem], by simp [*, go_sem]⟩
      case measure => simp [intOf]; omega
    · have hk' : k = xs.length := by omega
      subst hk'
      clear h
      go_wp2_with (go_at_call 58; refine (lowestTerms_c _ _ _ (by omega) (by omega) (by omega) (by omega)).mono ?_; rintro e w' ⟨rfl, nd, rfl⟩)
      go_returns
      exact ⟨rfl, by (repeat' (first | (with_reducible exact Below.refl _ _) | (with_reducible assumption) | (with_reducible refine below_drewN ?_ _) | (with_reducible refine Below.alloc ?_ ?_ _) | (with_reducible refine Below.drew ?_) | (with_reducible refine Below.setCell ?_ ?_ _) | go_size))⟩
theorem specMean_c {B : Nat} (I H : Int) (A : Option Addr) (c : Nat) (xs : List Int) (w : World) (h : RdI w B A xs) (hBs : B ≤ w.heap.size) (hm : xs.length ≤ 4611686018427387904) :
    Calls Try.prog 29 #[.agg #[.int .i64 I, .int .i64 H, .slice A xs.length c]] w fun e w' => e = .returned (.tuple #[.int .i64 (meanR I H xs).1, .int .i64 (meanR I H xs).2.1, .bool (meanR I H xs).2.2]) ∧ Below w.heap.size w w' := by
  cases h1 : goodA I H xs
  · rw [meanR_no h1]
    go_enter Try.func29, Try.ntmps29
    go_wp2_with (go_at_call 47; refine (l17Good_c _ _ _ _ _ _ (h.alloc hBs _) (by simp; omega) hm).mono ?_; rintro e w1 ⟨rfl, hb1⟩; have hz1 := hb1.size; (repeat (first | rw [World.size_alloc] at hz1 | rw [World.size_drew] at hz1 | rw [World.heap_drewN] at hz1 | rw [World.size_setCell] at hz1)); have hB : Below w.heap.size w w1 := Below.trans (by (repeat' (first | (with_reducible exact Below.refl _ _) | (with_reducible assumption) | (with_reducible refine below_drewN ?_ _) | (with_reducible refine Below.alloc ?_ ?_ _) | (with_reducible refine Below.drew ?_) | (with_reducible refine Below.setCell ?_ ?_ _) | go_size))) (hb1.mono (by go_size)); have hL1 := hb1; clear hb1; obtain ⟨hc1, hf1⟩ := bcell hL1)
    (go_returns; exact ⟨by first | rfl | (simp; done) | (simp; omega), by (repeat' (first | (with_reducible exact Below.refl _ _) | (with_reducible assumption) | (with_reducible refine below_drewN ?_ _) | (with_reducible refine Below.alloc ?_ ?_ _) | (with_reducible refine Below.drew ?_) | (with_reducible refine Below.setCell ?_ ?_ _) | go_size))⟩)
  have g := goodA_out h1
  rw [meanR_yes h1]
  go_enter Try.func29, Try.ntmps29
  go_wp2_with (go_at_call 47; refine (l17Good_c _ _ _ _ _ _ (h.alloc hBs _) (by simp; omega) hm).mono ?_; rintro e w1 ⟨rfl, hb1⟩; have hz1 := hb1.size; (repeat (first | rw [World.size_alloc] at hz1 | rw [World.size_drew] at hz1 | rw [World.heap_drewN] at hz1 | rw [World.size_setCell] at hz1)); have hB : Below w.heap.size w w1 := Below.trans (by (repeat' (first | (with_reducible exact Below.refl _ _) | (with_reducible assumption) | (with_reducible refine below_drewN ?_ _) | (with_reducible refine Below.alloc ?_ ?_ _) | (with_reducible refine Below.drew ?_) | (with_reducible refine Below.setCell ?_ ?_ _) | go_size))) (hb1.mono (by go_size)); have hL1 := hb1; clear hb1; obtain ⟨hc1, hf1⟩ := bcell hL1)
  go_loopw [5, 6] (fun s i wr => ∃ k : Nat, k ≤ xs.length ∧ i = .int .i64 k ∧ s = .int .i64 (sumL H xs k) ∧ Below w.heap.size w wr ∧ w.heap.size < wr.heap.size ∧ wr.cell? ⟨w.heap.size, 0, none⟩ = some (.int .i64 I) ∧ wr.cell? ⟨w.heap.size, 1, none⟩ = some (.int .i64 H) ∧ wr.cell? ⟨w.heap.size, 2, none⟩ = some (.slice A xs.length c)) (fun _ i _ => xs.length - (intOf i).toNat)
  case atStart => exact ⟨0, by omega, rfl, rfl, by (repeat' (first | (with_reducible exact Below.refl _ _) | (with_reducible assumption) | (with_reducible refine below_drewN ?_ _) | (with_reducible refine Below.alloc ?_ ?_ _) | (with_reducible refine Below.drew ?_) | (with_reducible refine Below.setCell ?_ ?_ _) | go_size)), by first | omega | (simp; omega), by simp [*, go_sem], by simp [*, go_sem], by simp [*, go_sem]⟩
  case round =>
    clear hB hL1 hc1 hf1 hz1
    obtain ⟨k, hk, rfl, rfl, hBr, hsz, c0, c1, c2⟩ := hrel
    have sb := sumL_b g.2.2.1 g.2.2.2.2.2.2 k hk
    by_cases hlt : k < xs.length
    · have h3 := h.below (hBr.mono hBs)
      have hx := goodF_out g.2.2.2.2.2.2 k hlt
      have lb := lossV_b g.2.2.1 hx.1 hx.2
      obtain ⟨y, hy⟩ : ∃ y, y = lossV H (xs.getD k 0) := ⟨_, rfl⟩
      rw [← hy] at lb
      have wr1 : IntKind.i64.wrap (sumL H xs k + y) = sumL H xs k + y := IntWalk.i64_in _ (by omega)
      have HY := Lib.hid hy
      clear h hy
      go_wp2_with (go_at_call 53; refine (l17Lost_c I H k _ _ xs _ h3 (by omega) hlt (by omega) (by omega) hx).mono ?_; rintro e w2 ⟨rfl, hb2⟩; rw [← HY.out]; have z2 := hb2.size; obtain ⟨hc2, hf2⟩ := bcell hb2)
      go_roundw
      case rel => exact ⟨k + 1, by omega, by go_num, by rw [HY.out]; rfl, hBr.trans (hb2.mono hBr.size), by omega, by simp [*, go_sem], by simp [*, go_sem], by simp [*, go_sem]⟩
      case measure => simp [intOf]; omega
    · have hk' : k = xs.length := by omega
      subst hk'
      clear h
      go_wp2_with (go_at_call 57; refine (l3Reduce_c _ _ _ (by omega) (by omega) (by omega) (by omega)).mono ?_; rintro e w' ⟨rfl, nd, rfl⟩)
      go_returns
      exact ⟨rfl, by (repeat' (first | (with_reducible exact Below.refl _ _) | (with_reducible assumption) | (with_reducible refine below_drewN ?_ _) | (with_reducible refine Below.alloc ?_ ?_ _) | (with_reducible refine Below.drew ?_) | (with_reducible refine Below.setCell ?_ ?_ _) | go_size))⟩
end Go.Proofs.Ytdkhiedgikjnkaa

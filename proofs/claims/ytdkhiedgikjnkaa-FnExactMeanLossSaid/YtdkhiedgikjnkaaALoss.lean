/- What is lost in a night: contracts. -/
import Derived.Test.YtdkhiedgikjnkaaAWalk
namespace Go.Proofs.Ytdkhiedgikjnkaa
open Go.RowKit

def lossV (H x : Int) : Int := maxI 0 (x - 2 * H)
theorem lossV_b {H x : Int} (h : 1 ≤ H) (hx0 : 0 ≤ x) (hx : x ≤ 1000000) : 0 ≤ lossV H x ∧ lossV H x ≤ 1000000 := by
  unfold lossV maxI; split <;> omega
def lossR (I H : Int) (xs : List Int) (n : Int) : Int × Bool := if goodA I H xs && inB n 0 (xs.length - 1) then (lossV H (xs.getD n.toNat 0), true) else (0, false)
theorem lossR_no {I H : Int} {xs : List Int} {n : Int} (h : goodA I H xs = false) : lossR I H xs n = (0, false) := by simp [lossR, h]
theorem lossR_no2 {I H : Int} {xs : List Int} {n : Int} (h : inB n 0 (xs.length - 1) = false) : lossR I H xs n = (0, false) := by simp [lossR, h]
theorem lossR_yes {I H : Int} {xs : List Int} {k : Nat} (h1 : goodA I H xs = true) (h : inB k 0 (xs.length - 1) = true) : lossR I H xs k = (lossV H (xs.getD k 0), true) := by simp [lossR, h, h1]

theorem lossOn_c {B : Nat} (I H : Int) (k : Nat) (A : Option Addr) (c : Nat) (xs : List Int) (w : World) (h : RdI w B A xs) (hBs : B ≤ w.heap.size) (hk : k < xs.length) (hH1 : 1 ≤ H) (hH2 : H ≤ 10000) (hx : 0 ≤ xs.getD k 0 ∧ xs.getD k 0 ≤ 1000000) :
    Calls Try.prog 54 #[.agg #[.int .i64 I, .int .i64 H, .slice A xs.length c], .int .i64 k] w fun e w' => e = .returned (.int .i64 (lossV H (xs.getD k 0))) ∧ Below w.heap.size w w' := by
  obtain ⟨b, off, x, rfl, hxx, hb, hc0⟩ := h.at_ hk
  rw [← hxx] at hx ⊢
  have hc : (w.alloc (.cells #[.int .i64 I, .int .i64 H, .slice (some ⟨b, off, none⟩) xs.length c] 32)).cell? ⟨b, off + k, none⟩ = some (.int .i64 x) := by
    rw [World.cell?_alloc_lt _ _ _ (show b < w.heap.size by omega)]; exact hc0
  have w1 : IntKind.i64.wrap (2 * H) = 2 * H := IntWalk.i64_in _ (by omega)
  have w2 : IntKind.i64.wrap (x - 2 * H) = x - 2 * H := IntWalk.i64_in _ (by omega)
  clear hxx h
  by_cases h1 : x - 2 * H < 0
  · rw [show lossV H x = 0 from (by unfold lossV maxI; split <;> omega)]
    go_enter Try.func54, Try.ntmps54
    go_wp2
    go_quiet (fail)
    go_wp2
    (go_returns; exact ⟨by first | rfl | (simp; done) | (simp; omega), by (repeat' (first | (with_reducible exact Below.refl _ _) | (with_reducible assumption) | (with_reducible refine below_drewN ?_ _) | (with_reducible refine Below.alloc ?_ ?_ _) | (with_reducible refine Below.drew ?_) | (with_reducible refine Below.setCell ?_ ?_ _) | go_size))⟩)
  · rw [show lossV H x = x - 2 * H from (by unfold lossV maxI; split <;> omega)]
    go_enter Try.func54, Try.ntmps54
    go_wp2
    go_quiet (fail)
    go_wp2
    (go_returns; exact ⟨by first | rfl | (simp; done) | (simp; omega), by (repeat' (first | (with_reducible exact Below.refl _ _) | (with_reducible assumption) | (with_reducible refine below_drewN ?_ _) | (with_reducible refine Below.alloc ?_ ?_ _) | (with_reducible refine Below.drew ?_) | (with_reducible refine Below.setCell ?_ ?_ _) | go_size))⟩)
theorem l17Lost_c {B : Nat} (I H : Int) (k : Nat) (A : Option Addr) (c : Nat) (xs : List Int) (w : World) (h : RdI w B A xs) (hBs : B ≤ w.heap.size) (hk : k < xs.length) (hH1 : 1 ≤ H) (hH2 : H ≤ 10000) (hx : 0 ≤ xs.getD k 0 ∧ xs.getD k 0 ≤ 1000000) :
    Calls Try.prog 53 #[.agg #[.int .i64 I, .int .i64 H, .slice A xs.length c], .int .i64 k] w fun e w' => e = .returned (.int .i64 (lossV H (xs.getD k 0))) ∧ Below w.heap.size w w' := by
  obtain ⟨b, off, x, rfl, hxx, hb, hc0⟩ := h.at_ hk
  rw [← hxx] at hx ⊢
  have hc : (w.alloc (.cells #[.int .i64 I, .int .i64 H, .slice (some ⟨b, off, none⟩) xs.length c] 32)).cell? ⟨b, off + k, none⟩ = some (.int .i64 x) := by
    rw [World.cell?_alloc_lt _ _ _ (show b < w.heap.size by omega)]; exact hc0
  have w1 : IntKind.i64.wrap (2 * H) = 2 * H := IntWalk.i64_in _ (by omega)
  have w2 : IntKind.i64.wrap (x - 2 * H) = x - 2 * H := IntWalk.i64_in _ (by omega)
  clear hxx h
  go_enter Try.func53, Try.ntmps53
  go_wp2
  go_quiet ((go_at_call 55; exact Calls.quiet_of_same ((l1Most_c _ _ _).mono fun _ _ hh => ⟨hh.1, hh.2.symm⟩)))
  go_wp2
  (go_returns; exact ⟨by first | rfl | (simp; done) | (simp; omega), by (repeat' (first | (with_reducible exact Below.refl _ _) | (with_reducible assumption) | (with_reducible refine below_drewN ?_ _) | (with_reducible refine Below.alloc ?_ ?_ _) | (with_reducible refine Below.drew ?_) | (with_reducible refine Below.setCell ?_ ?_ _) | go_size))⟩)

theorem implLoss_c {B : Nat} (I H n : Int) (A : Option Addr) (c : Nat) (xs : List Int) (w : World) (h : RdI w B A xs) (hBs : B ≤ w.heap.size) (hm : xs.length ≤ 4611686018427387904) :
    Calls Try.prog 24 #[.agg #[.int .i64 I, .int .i64 H, .slice A xs.length c], .int .i64 n] w fun e w' => e = .returned (.tuple #[.int .i64 (lossR I H xs n).1, .bool (lossR I H xs n).2]) ∧ Below w.heap.size w w' := by
  cases h1 : goodA I H xs
  · rw [lossR_no h1]
    go_enter Try.func24, Try.ntmps24
    go_wp2_with (go_at_call 19; refine (implArea_c _ _ _ _ _ _ (h.alloc hBs _) (by simp; omega) hm).mono ?_; rintro e w1 ⟨rfl, hb1⟩; have hz1 := hb1.size; (repeat (first | rw [World.size_alloc] at hz1 | rw [World.size_drew] at hz1 | rw [World.heap_drewN] at hz1 | rw [World.size_setCell] at hz1)); have hB : Below w.heap.size w w1 := Below.trans (by (repeat' (first | (with_reducible exact Below.refl _ _) | (with_reducible assumption) | (with_reducible refine below_drewN ?_ _) | (with_reducible refine Below.alloc ?_ ?_ _) | (with_reducible refine Below.drew ?_) | (with_reducible refine Below.setCell ?_ ?_ _) | go_size))) (hb1.mono (by go_size)); have hL1 := hb1; clear hb1; obtain ⟨hc1, hf1⟩ := bcell hL1)
    (go_returns; exact ⟨by first | rfl | (simp; done) | (simp; omega), by (repeat' (first | (with_reducible exact Below.refl _ _) | (with_reducible assumption) | (with_reducible refine below_drewN ?_ _) | (with_reducible refine Below.alloc ?_ ?_ _) | (with_reducible refine Below.drew ?_) | (with_reducible refine Below.setCell ?_ ?_ _) | go_size))⟩)
  have g := goodA_out h1
  cases h2 : inB n 0 (xs.length - 1)
  · rw [lossR_no2 h2]
    go_enter Try.func24, Try.ntmps24
    go_wp2_with (first | (go_at_call 19; refine (implArea_c _ _ _ _ _ _ (h.alloc hBs _) (by simp; omega) hm).mono ?_; rintro e w1 ⟨rfl, hb1⟩; have hz1 := hb1.size; (repeat (first | rw [World.size_alloc] at hz1 | rw [World.size_drew] at hz1 | rw [World.heap_drewN] at hz1 | rw [World.size_setCell] at hz1)); have hB : Below w.heap.size w w1 := Below.trans (by (repeat' (first | (with_reducible exact Below.refl _ _) | (with_reducible assumption) | (with_reducible refine below_drewN ?_ _) | (with_reducible refine Below.alloc ?_ ?_ _) | (with_reducible refine Below.drew ?_) | (with_reducible refine Below.setCell ?_ ?_ _) | go_size))) (hb1.mono (by go_size)); have hL1 := hb1; clear hb1; obtain ⟨hc1, hf1⟩ := bcell hL1) | (go_at_call 42; refine (inside_c _ _ _ _).mono ?_; rintro e w' ⟨rfl, rfl⟩))
    (go_returns; exact ⟨by first | rfl | (simp; done) | (simp; omega), by (repeat' (first | (with_reducible exact Below.refl _ _) | (with_reducible assumption) | (with_reducible refine below_drewN ?_ _) | (with_reducible refine Below.alloc ?_ ?_ _) | (with_reducible refine Below.drew ?_) | (with_reducible refine Below.setCell ?_ ?_ _) | go_size))⟩)
  · have b := inB_out h2
    obtain ⟨k, rfl⟩ : ∃ k : Nat, n = k := ⟨n.toNat, by omega⟩
    rw [lossR_yes h1 h2]
    have hx := goodF_out g.2.2.2.2.2.2 k (by omega)
    go_enter Try.func24, Try.ntmps24
    go_wp2_with (first | (go_at_call 19; refine (implArea_c _ _ _ _ _ _ (h.alloc hBs _) (by simp; omega) hm).mono ?_; rintro e w1 ⟨rfl, hb1⟩; have hz1 := hb1.size; (repeat (first | rw [World.size_alloc] at hz1 | rw [World.size_drew] at hz1 | rw [World.heap_drewN] at hz1 | rw [World.size_setCell] at hz1)); have hB : Below w.heap.size w w1 := Below.trans (by (repeat' (first | (with_reducible exact Below.refl _ _) | (with_reducible assumption) | (with_reducible refine below_drewN ?_ _) | (with_reducible refine Below.alloc ?_ ?_ _) | (with_reducible refine Below.drew ?_) | (with_reducible refine Below.setCell ?_ ?_ _) | go_size))) (hb1.mono (by go_size)); have hL1 := hb1; clear hb1; obtain ⟨hc1, hf1⟩ := bcell hL1) | (go_at_call 42; refine (inside_c _ _ _ _).mono ?_; rintro e w' ⟨rfl, rfl⟩) | (go_at_call 54; refine (lossOn_c I H k _ _ xs _ (h.below (hB.mono hBs)) (by omega) (by omega) (by omega) (by omega) hx).mono ?_; rintro e w2 ⟨rfl, hb2⟩; have hz2 := hb2.size; (repeat (first | rw [World.size_alloc] at hz2 | rw [World.size_drew] at hz2 | rw [World.heap_drewN] at hz2 | rw [World.size_setCell] at hz2)); replace hB : Below w.heap.size w w2 := Below.trans (by (repeat' (first | (with_reducible exact Below.refl _ _) | (with_reducible assumption) | (with_reducible refine below_drewN ?_ _) | (with_reducible refine Below.alloc ?_ ?_ _) | (with_reducible refine Below.drew ?_) | (with_reducible refine Below.setCell ?_ ?_ _) | go_size))) (hb2.mono (by go_size)); (first | (refine extend_then hL1 hb2 ?_ ?_ (fun hq => ?_); (focus ((repeat' (first | (with_reducible exact Below.refl _ _) | (with_reducible assumption) | (with_reducible refine below_drewN ?_ _) | (with_reducible refine Below.alloc ?_ ?_ _) | (with_reducible refine Below.drew ?_) | (with_reducible refine Below.setCell ?_ ?_ _) | go_size)); done)); (focus (go_size; done)); replace hL1 := hq; clear hq hc1 hf1; obtain ⟨hc1, hf1⟩ := bcell hL1) | (clear hL1 hc1 hf1) | skip); have hL2 := hb2; clear hb2; obtain ⟨hc2, hf2⟩ := bcell hL2))
    (go_returns; exact ⟨by first | rfl | (simp; done) | (simp; omega), by (repeat' (first | (with_reducible exact Below.refl _ _) | (with_reducible assumption) | (with_reducible refine below_drewN ?_ _) | (with_reducible refine Below.alloc ?_ ?_ _) | (with_reducible refine Below.drew ?_) | (with_reducible refine Below.setCell ?_ ?_ _) | go_size))⟩)
theorem specLoss_c {B : Nat} (I H n : Int) (A : Option Addr) (c : Nat) (xs : List Int) (w : World) (h : RdI w B A xs) (hBs : B ≤ w.heap.size) (hm : xs.length ≤ 4611686018427387904) :
    Calls Try.prog 23 #[.agg #[.int .i64 I, .int .i64 H, .slice A xs.length c], .int .i64 n] w fun e w' => e = .returned (.tuple #[.int .i64 (lossR I H xs n).1, .bool (lossR I H xs n).2]) ∧ Below w.heap.size w w' := by
  cases h1 : goodA I H xs
  · rw [lossR_no h1]
    go_enter Try.func23, Try.ntmps23
    go_wp2_with (go_at_call 47; refine (l17Good_c _ _ _ _ _ _ (h.alloc hBs _) (by simp; omega) hm).mono ?_; rintro e w1 ⟨rfl, hb1⟩; have hz1 := hb1.size; (repeat (first | rw [World.size_alloc] at hz1 | rw [World.size_drew] at hz1 | rw [World.heap_drewN] at hz1 | rw [World.size_setCell] at hz1)); have hB : Below w.heap.size w w1 := Below.trans (by (repeat' (first | (with_reducible exact Below.refl _ _) | (with_reducible assumption) | (with_reducible refine below_drewN ?_ _) | (with_reducible refine Below.alloc ?_ ?_ _) | (with_reducible refine Below.drew ?_) | (with_reducible refine Below.setCell ?_ ?_ _) | go_size))) (hb1.mono (by go_size)); have hL1 := hb1; clear hb1; obtain ⟨hc1, hf1⟩ := bcell hL1)
    (go_returns; exact ⟨by first | rfl | (simp; done) | (simp; omega), by (repeat' (first | (with_reducible exact Below.refl _ _) | (with_reducible assumption) | (with_reducible refine below_drewN ?_ _) | (with_reducible refine Below.alloc ?_ ?_ _) | (with_reducible refine Below.drew ?_) | (with_reducible refine Below.setCell ?_ ?_ _) | go_size))⟩)
  have g := goodA_out h1
  cases h2 : inB n 0 (xs.length - 1)
  · rw [lossR_no2 h2]
    go_enter Try.func23, Try.ntmps23
    go_wp2_with (first | (go_at_call 47; refine (l17Good_c _ _ _ _ _ _ (h.alloc hBs _) (by simp; omega) hm).mono ?_; rintro e w1 ⟨rfl, hb1⟩; have hz1 := hb1.size; (repeat (first | rw [World.size_alloc] at hz1 | rw [World.size_drew] at hz1 | rw [World.heap_drewN] at hz1 | rw [World.size_setCell] at hz1)); have hB : Below w.heap.size w w1 := Below.trans (by (repeat' (first | (with_reducible exact Below.refl _ _) | (with_reducible assumption) | (with_reducible refine below_drewN ?_ _) | (with_reducible refine Below.alloc ?_ ?_ _) | (with_reducible refine Below.drew ?_) | (with_reducible refine Below.setCell ?_ ?_ _) | go_size))) (hb1.mono (by go_size)); have hL1 := hb1; clear hb1; obtain ⟨hc1, hf1⟩ := bcell hL1) | (go_at_call 41; refine (l1In_c _ _ _ _).mono ?_; rintro e w' ⟨rfl, rfl⟩))
    (go_returns; exact ⟨by first | rfl | (simp; done) | (simp; omega), by (repeat' (first | (with_reducible exact Below.refl _ _) | (with_reducible assumption) | (with_reducible refine below_drewN ?_ _) | (with_reducible refine Below.alloc ?_ ?_ _) | (with_reducible refine Below.drew ?_) | (with_reducible refine Below.setCell ?_ ?_ _) | go_size))⟩)
  · have b := inB_out h2
    obtain ⟨k, rfl⟩ : ∃ k : Nat, n = k := ⟨n.toNat, by omega⟩
    rw [lossR_yes h1 h2]
    have hx := goodF_out g.2.2.2.2.2.2 k (by omega)
    go_enter Try.func23, Try.ntmps23
    go_wp2_with (first | (go_at_call 47; refine (l17Good_c _ _ _ _ _ _ (h.alloc hBs _) (by simp; omega) hm).mono ?_; rintro e w1 ⟨rfl, hb1⟩; have hz1 := hb1.size; (repeat (first | rw [World.size_alloc] at hz1 | rw [World.size_drew] at hz1 | rw [World.heap_drewN] at hz1 | rw [World.size_setCell] at hz1)); have hB : Below w.heap.size w w1 := Below.trans (by (repeat' (first | (with_reducible exact Below.refl _ _) | (with_reducible assumption) | (with_reducible refine below_drewN ?_ _) | (with_reducible refine Below.alloc ?_ ?_ _) | (with_reducible refine Below.drew ?_) | (with_reducible refine Below.setCell ?_ ?_ _) | go_size))) (hb1.mono (by go_size)); have hL1 := hb1; clear hb1; obtain ⟨hc1, hf1⟩ := bcell hL1) | (go_at_call 41; refine (l1In_c _ _ _ _).mono ?_; rintro e w' ⟨rfl, rfl⟩) | (go_at_call 53; refine (l17Lost_c I H k _ _ xs _ (h.below (hB.mono hBs)) (by omega) (by omega) (by omega) (by omega) hx).mono ?_; rintro e w2 ⟨rfl, hb2⟩; have hz2 := hb2.size; (repeat (first | rw [World.size_alloc] at hz2 | rw [World.size_drew] at hz2 | rw [World.heap_drewN] at hz2 | rw [World.size_setCell] at hz2)); replace hB : Below w.heap.size w w2 := Below.trans (by (repeat' (first | (with_reducible exact Below.refl _ _) | (with_reducible assumption) | (with_reducible refine below_drewN ?_ _) | (with_reducible refine Below.alloc ?_ ?_ _) | (with_reducible refine Below.drew ?_) | (with_reducible refine Below.setCell ?_ ?_ _) | go_size))) (hb2.mono (by go_size)); (first | (refine extend_then hL1 hb2 ?_ ?_ (fun hq => ?_); (focus ((repeat' (first | (with_reducible exact Below.refl _ _) | (with_reducible assumption) | (with_reducible refine below_drewN ?_ _) | (with_reducible refine Below.alloc ?_ ?_ _) | (with_reducible refine Below.drew ?_) | (with_reducible refine Below.setCell ?_ ?_ _) | go_size)); done)); (focus (go_size; done)); replace hL1 := hq; clear hq hc1 hf1; obtain ⟨hc1, hf1⟩ := bcell hL1) | (clear hL1 hc1 hf1) | skip); have hL2 := hb2; clear hb2; obtain ⟨hc2, hf2⟩ := bcell hL2))
    (go_returns; exact ⟨by first | rfl | (simp; done) | (simp; omega), by (repeat' (first | (with_reducible exact Below.refl _ _) | (with_reducible assumption) | (with_reducible refine below_drewN ?_ _) | (with_reducible refine Below.alloc ?_ ?_ _) | (with_reducible refine Below.drew ?_) | (with_reducible refine Below.setCell ?_ ?_ _) | go_size))⟩)
end Go.Proofs.Ytdkhiedgikjnkaa

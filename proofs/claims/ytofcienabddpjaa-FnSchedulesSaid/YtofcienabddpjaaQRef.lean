/- Contracts: the cheapest and the lazy schedule, the reference's answers. -/
import Derived.Test.YtofcienabddpjaaQBest
import Derived.Test.YtofcienabddpjaaSCost
namespace Go.Proofs.Ytofcienabddpjaa
open Go.RowKit

set_option maxHeartbeats 1000000 in
theorem specLazy_c {B B' : Nat} (L E M P : Int) (A A' : Option Addr) (c c' : Nat) (xs ys : List Int) (w : World) (h : RdI w B A xs) (h' : RdI w B' A' ys) (hS1 : B ≤ w.heap.size) (hS2 : B' ≤ w.heap.size) (hm : xs.length ≤ 1048576) (hm' : ys.length ≤ 1048576) :
    Calls Try.prog 38 #[.agg #[.int .i64 L, .int .i64 E, .int .i64 M, .int .i64 P, .slice A xs.length c, .slice A' ys.length c']] w (RetI w (lazyT E M P L xs ys).1 (fun v => .tuple #[v, .bool (lazyT E M P L xs ys).2])) := by
  have good := l13Good_c L E M P A A' c c' xs ys _ (h.alloc hS1 (.cells #[.int .i64 L, .int .i64 E, .int .i64 M, .int .i64 P, .slice A xs.length c, .slice A' ys.length c'] 28)) (h'.alloc hS2 _) (by simp; omega) (by simp; omega) hm hm'
  cases g : goodPm L E M P xs ys
  · have ec : lazyT E M P L xs ys = ([], false) := by unfold lazyT; rw [if_neg (by rw [g]; decide)]
    rw [g] at good
    rw [ec]
    have GOOD := Lib.hid good
    clear good g ec h h'
    go_enter Try.func38, Try.ntmps38
    go_wp2_with (first | (go_at_call 57; refine (GOOD.out).mono ?_; rintro e w1 ⟨rfl, hb1⟩; have hz1 := hb1.size; (repeat (first | rw [World.size_alloc] at hz1 | rw [World.size_drew] at hz1 | rw [World.heap_drewN] at hz1 | rw [World.size_setCell] at hz1)); have hB : Below w.heap.size w w1 := Below.trans (by (repeat' (first | (with_reducible exact Below.refl _ _) | (with_reducible assumption) | (with_reducible refine below_drewN ?_ _) | (with_reducible refine Below.alloc ?_ ?_ _) | (with_reducible refine Below.drew ?_) | (with_reducible refine Below.setCell ?_ ?_ _) | go_size))) (hb1.mono (by go_size)); have hL1 := hb1; clear hb1; obtain ⟨hc1, hf1⟩ := bcell hL1))
    go_returns
    exact ⟨_, _, rfl, own_empty w1 w.heap.size hB.size, by (repeat' (first | (with_reducible exact Below.refl _ _) | (with_reducible assumption) | (with_reducible refine below_drewN ?_ _) | (with_reducible refine Below.alloc ?_ ?_ _) | (with_reducible refine Below.drew ?_) | (with_reducible refine Below.setCell ?_ ?_ _) | go_size))⟩
  · have ec : lazyT E M P L xs ys = bestT false E M P L xs ys := by unfold lazyT; rw [if_pos g]
    have bst := fun (W : World) (q1 : RdI W W.heap.size A xs) (q2 : RdI W W.heap.size A' ys) => best_c false L E M P A A' c c' xs ys W q1 q2 (Nat.le_refl _) (Nat.le_refl _) g
    rw [g] at good
    rw [ec]
    have GOOD := Lib.hid good
    have BST := Lib.hid bst
    have H1 := Lib.hid h
    have H2 := Lib.hid h'
    generalize bestT false E M P L xs ys = r at *
    clear good g ec h h' bst
    go_enter Try.func38, Try.ntmps38
    go_wp2_with (first | (go_at_call 57; refine (GOOD.out).mono ?_; rintro e w1 ⟨rfl, hb1⟩; have hz1 := hb1.size; (repeat (first | rw [World.size_alloc] at hz1 | rw [World.size_drew] at hz1 | rw [World.heap_drewN] at hz1 | rw [World.size_setCell] at hz1)); have hB : Below w.heap.size w w1 := Below.trans (by (repeat' (first | (with_reducible exact Below.refl _ _) | (with_reducible assumption) | (with_reducible refine below_drewN ?_ _) | (with_reducible refine Below.alloc ?_ ?_ _) | (with_reducible refine Below.drew ?_) | (with_reducible refine Below.setCell ?_ ?_ _) | go_size))) (hb1.mono (by go_size)); have hL1 := hb1; clear hb1; obtain ⟨hc1, hf1⟩ := bcell hL1))
    go_at_call 67
    with_reducible refine (BST.out _ ((H1.out.below (hB.mono hS1)).more (Nat.le_trans hS1 hB.size)) ((H2.out.below (hB.mono hS2)).more (Nat.le_trans hS2 hB.size))).mono ?_
    rintro e' w2 ⟨A1, c1, rfl, o1, hb2⟩
    have BX := hB.trans (hb2.mono hB.size)
    have O1 := Lib.hid (o1.weak hB.size)
    clear o1 hb2 GOOD BST H1 H2
    go_wp2
    go_returns
    exact ⟨A1, c1, rfl, O1.out, BX⟩
set_option maxHeartbeats 1000000 in
theorem specCheap_c {B B' : Nat} (L E M P : Int) (A A' : Option Addr) (c c' : Nat) (xs ys : List Int) (w : World) (h : RdI w B A xs) (h' : RdI w B' A' ys) (hS1 : B ≤ w.heap.size) (hS2 : B' ≤ w.heap.size) (hm : xs.length ≤ 1048576) (hm' : ys.length ≤ 1048576) :
    Calls Try.prog 40 #[.agg #[.int .i64 L, .int .i64 E, .int .i64 M, .int .i64 P, .slice A xs.length c, .slice A' ys.length c']] w (RetI w (cheapT E M P L xs ys).1 (fun v => .tuple #[v, .int .i64 (cheapT E M P L xs ys).2.1, .bool (cheapT E M P L xs ys).2.2])) := by
  have good := l13Good_c L E M P A A' c c' xs ys _ (h.alloc hS1 (.cells #[.int .i64 L, .int .i64 E, .int .i64 M, .int .i64 P, .slice A xs.length c, .slice A' ys.length c'] 28)) (h'.alloc hS2 _) (by simp; omega) (by simp; omega) hm hm'
  cases g : goodPm L E M P xs ys
  · have ec : cheapT E M P L xs ys = ([], 0, false) := by unfold cheapT; rw [if_neg (by rw [g]; decide)]
    rw [g] at good
    rw [ec]
    have GOOD := Lib.hid good
    clear good g ec h h'
    go_enter Try.func40, Try.ntmps40
    go_wp2_with (first | (go_at_call 57; refine (GOOD.out).mono ?_; rintro e w1 ⟨rfl, hb1⟩; have hz1 := hb1.size; (repeat (first | rw [World.size_alloc] at hz1 | rw [World.size_drew] at hz1 | rw [World.heap_drewN] at hz1 | rw [World.size_setCell] at hz1)); have hB : Below w.heap.size w w1 := Below.trans (by (repeat' (first | (with_reducible exact Below.refl _ _) | (with_reducible assumption) | (with_reducible refine below_drewN ?_ _) | (with_reducible refine Below.alloc ?_ ?_ _) | (with_reducible refine Below.drew ?_) | (with_reducible refine Below.setCell ?_ ?_ _) | go_size))) (hb1.mono (by go_size)); have hL1 := hb1; clear hb1; obtain ⟨hc1, hf1⟩ := bcell hL1))
    go_returns
    exact ⟨_, _, rfl, own_empty w1 w.heap.size hB.size, by (repeat' (first | (with_reducible exact Below.refl _ _) | (with_reducible assumption) | (with_reducible refine below_drewN ?_ _) | (with_reducible refine Below.alloc ?_ ?_ _) | (with_reducible refine Below.drew ?_) | (with_reducible refine Below.setCell ?_ ?_ _) | go_size))⟩
  · have ec : cheapT E M P L xs ys = firstT E M P L xs ys := by unfold cheapT; rw [if_pos g]
    have nb := NumB.of g
    have bst := fun (W : World) (q1 : RdI W W.heap.size A xs) (q2 : RdI W W.heap.size A' ys) => best_c true L E M P A A' c c' xs ys W q1 q2 (Nat.le_refl _) (Nat.le_refl _) g
    rw [g] at good
    rw [ec]
    have GOOD := Lib.hid good
    have H1 := Lib.hid h
    have H2 := Lib.hid h'
    by_cases hv : tabV E M P L xs ys ys.length ys.length L < 0
    · have eb : bestT true E M P L xs ys = ([], false) := by unfold bestT; rw [if_pos hv]
      have ef : firstT E M P L xs ys = ([], 0, false) := by unfold firstT; rw [if_pos hv]
      simp only [eb] at bst
      rw [ef]
      have BST := Lib.hid bst
      clear good g ec h h' bst hv eb ef nb
      go_enter Try.func40, Try.ntmps40
      go_wp2_with (first | (go_at_call 57; refine (GOOD.out).mono ?_; rintro e w1 ⟨rfl, hb1⟩; have hz1 := hb1.size; (repeat (first | rw [World.size_alloc] at hz1 | rw [World.size_drew] at hz1 | rw [World.heap_drewN] at hz1 | rw [World.size_setCell] at hz1)); have hB : Below w.heap.size w w1 := Below.trans (by (repeat' (first | (with_reducible exact Below.refl _ _) | (with_reducible assumption) | (with_reducible refine below_drewN ?_ _) | (with_reducible refine Below.alloc ?_ ?_ _) | (with_reducible refine Below.drew ?_) | (with_reducible refine Below.setCell ?_ ?_ _) | go_size))) (hb1.mono (by go_size)); have hL1 := hb1; clear hb1; obtain ⟨hc1, hf1⟩ := bcell hL1))
      go_at_call 67
      with_reducible refine (BST.out _ ((H1.out.below (hB.mono hS1)).more (Nat.le_trans hS1 hB.size)) ((H2.out.below (hB.mono hS2)).more (Nat.le_trans hS2 hB.size))).mono ?_
      rintro e' w2 ⟨A1, c1, rfl, o1, hb2⟩
      have BX := hB.trans (hb2.mono hB.size)
      clear o1 hb2 GOOD BST H1 H2
      go_wp2
      go_returns
      exact ⟨_, _, rfl, own_empty w2 w.heap.size BX.size, BX.alloc BX.size _⟩
    · have hy' : ∀ j, j < ys.length → 0 ≤ ys.getD j 0 := fun j hj => (nb.hy j hj).1
      have hv0 : 0 ≤ tabV E M P L xs ys ys.length ys.length L := by omega
      obtain ⟨zs, hzs⟩ : ∃ zs, zs = schV true E M P L xs ys ys.length := ⟨_, rfl⟩
      have gs : goodS L E M P xs ys zs = true := by rw [hzs]; exact sch_good g hv0
      have hc : costS xs zs zs.length = tabV E M P L xs ys ys.length ys.length L := by rw [hzs, sch_len]; exact cost_all hy' hv0 nb.lm nb.el
      have eb : bestT true E M P L xs ys = (zs, true) := by unfold bestT; rw [if_neg hv, hzs]
      have ef : firstT E M P L xs ys = (zs, tabV E M P L xs ys ys.length ys.length L, true) := by unfold firstT; rw [if_neg hv, hzs]
      simp only [eb] at bst
      have cst := fun (W : World) (C : Option Addr) (d : Nat) (q1 : RdI W W.heap.size A xs) (q2 : RdI W W.heap.size C zs) => l13Cost_c L E M P A A' C c c' d xs ys zs W q1 q2 (Nat.le_refl _) (Nat.le_refl _) gs
      rw [hc] at cst
      rw [ef]
      generalize tabV E M P L xs ys ys.length ys.length L = v at *
      have BST := Lib.hid bst
      have CST := Lib.hid cst
      clear good g ec h h' bst hv eb ef nb hzs gs hc hy' hv0 cst
      go_enter Try.func40, Try.ntmps40
      go_wp2_with (first | (go_at_call 57; refine (GOOD.out).mono ?_; rintro e w1 ⟨rfl, hb1⟩; have hz1 := hb1.size; (repeat (first | rw [World.size_alloc] at hz1 | rw [World.size_drew] at hz1 | rw [World.heap_drewN] at hz1 | rw [World.size_setCell] at hz1)); have hB : Below w.heap.size w w1 := Below.trans (by (repeat' (first | (with_reducible exact Below.refl _ _) | (with_reducible assumption) | (with_reducible refine below_drewN ?_ _) | (with_reducible refine Below.alloc ?_ ?_ _) | (with_reducible refine Below.drew ?_) | (with_reducible refine Below.setCell ?_ ?_ _) | go_size))) (hb1.mono (by go_size)); have hL1 := hb1; clear hb1; obtain ⟨hc1, hf1⟩ := bcell hL1))
      go_at_call 67
      with_reducible refine (BST.out _ ((H1.out.below (hB.mono hS1)).more (Nat.le_trans hS1 hB.size)) ((H2.out.below (hB.mono hS2)).more (Nat.le_trans hS2 hB.size))).mono ?_
      rintro e' w2 ⟨A1, c1, rfl, o1, hb2⟩
      have BX := hB.trans (hb2.mono hB.size)
      have P0 : PB w2 w.heap.size L E M P (.slice A xs.length c) (.slice A' ys.length c') := ((PB.new w L E M P _ _).below hL1).below hb2
      obtain ⟨p0, p1, p2, p3, p4, p5⟩ := id P0
      have cp := CST.out w2 A1 c1 ((H1.out.below (BX.mono hS1)).more (Nat.le_trans hS1 BX.size)) o1.rd
      have CP := Lib.hid cp
      have O1 := Lib.hid (o1.weak (Nat.le_refl _))
      have HBS := hB.size
      clear o1 hb2 GOOD BST H1 H2 CST hL1 hc1 hf1 cp
      go_wp2_with fail
      go_at_call 64
      with_reducible refine CP.out.mono ?_
      rintro e' w3 ⟨rfl, hb3⟩
      have BX3 := BX.trans (hb3.mono BX.size)
      have O3 := Lib.hid ((O1.out.below hb3).weak HBS)
      clear hb3 CP O1 p0 p1 p2 p3 p4 p5 P0
      go_wp2
      go_returns
      exact ⟨A1, c1, rfl, O3.out, BX3⟩
end Go.Proofs.Ytofcienabddpjaa

/- Contracts: the cheapest and the lazy schedule, the program. -/
import Derived.Test.YtofcienabddpjaaQFirst
namespace Go.Proofs.Ytofcienabddpjaa
open Go.RowKit

set_option maxHeartbeats 1000000 in
theorem implCheap_c {B B' : Nat} (L E M P : Int) (A A' : Option Addr) (c c' : Nat) (xs ys : List Int) (w : World) (h : RdI w B A xs) (h' : RdI w B' A' ys) (hS1 : B ≤ w.heap.size) (hS2 : B' ≤ w.heap.size) (hnil : A = none → c = 0) (hnil' : A' = none → c' = 0) (hm : xs.length ≤ 1048576) (hm' : ys.length ≤ 1048576) :
    Calls Try.prog 19 #[.agg #[.int .i64 L, .int .i64 E, .int .i64 M, .int .i64 P, .slice A xs.length c, .slice A' ys.length c']] w (RetI w (cheapT E M P L xs ys).1 (fun v => .tuple #[v, .int .i64 (cheapT E M P L xs ys).2.1, .bool (cheapT E M P L xs ys).2.2])) := by
  have good := implPump_c L E M P A A' c c' xs ys _ (h.alloc hS1 (.cells #[.int .i64 L, .int .i64 E, .int .i64 M, .int .i64 P, .slice A xs.length c, .slice A' ys.length c'] 28)) (h'.alloc hS2 _) (by simp; omega) (by simp; omega) hnil hnil' hm hm'
  cases g : goodPm L E M P xs ys
  · have ec : cheapT E M P L xs ys = ([], 0, false) := by unfold cheapT; rw [if_neg (by rw [g]; decide)]
    rw [g] at good
    rw [ec]
    have GOOD := Lib.hid good
    clear good g ec h h'
    go_enter Try.func19, Try.ntmps19
    go_wp2_with (first | (go_at_call 17; refine (GOOD.out).mono ?_; rintro e w1 ⟨rfl, hb1⟩; have hz1 := hb1.size; (repeat (first | rw [World.size_alloc] at hz1 | rw [World.size_drew] at hz1 | rw [World.heap_drewN] at hz1 | rw [World.size_setCell] at hz1)); have hB : Below w.heap.size w w1 := Below.trans (by (repeat' (first | (with_reducible exact Below.refl _ _) | (with_reducible assumption) | (with_reducible refine below_drewN ?_ _) | (with_reducible refine Below.alloc ?_ ?_ _) | (with_reducible refine Below.drew ?_) | (with_reducible refine Below.setCell ?_ ?_ _) | go_size))) (hb1.mono (by go_size)); have hL1 := hb1; clear hb1; obtain ⟨hc1, hf1⟩ := bcell hL1))
    go_returns
    exact ⟨_, _, rfl, OwnI.nil _ _, by (repeat' (first | (with_reducible exact Below.refl _ _) | (with_reducible assumption) | (with_reducible refine below_drewN ?_ _) | (with_reducible refine Below.alloc ?_ ?_ _) | (with_reducible refine Below.drew ?_) | (with_reducible refine Below.setCell ?_ ?_ _) | go_size))⟩
  · have ec : cheapT E M P L xs ys = firstT E M P L xs ys := by unfold cheapT; rw [if_pos g]
    have nb := NumB.of g
    have fst := fun (W : World) (q1 : RdI W W.heap.size A xs) (q2 : RdI W W.heap.size A' ys) => first_c L E M P A A' A c c' c xs ys xs W q1 q2 (Nat.le_refl _) (Nat.le_refl _) nb
    rw [g] at good
    rw [ec]
    have GOOD := Lib.hid good
    have FST := Lib.hid fst
    have H1 := Lib.hid h
    have H2 := Lib.hid h'
    generalize firstT E M P L xs ys = r at *
    clear good g ec h h' nb fst
    go_enter Try.func19, Try.ntmps19
    go_wp2_with (first | (go_at_call 17; refine (GOOD.out).mono ?_; rintro e w1 ⟨rfl, hb1⟩; have hz1 := hb1.size; (repeat (first | rw [World.size_alloc] at hz1 | rw [World.size_drew] at hz1 | rw [World.heap_drewN] at hz1 | rw [World.size_setCell] at hz1)); have hB : Below w.heap.size w w1 := Below.trans (by (repeat' (first | (with_reducible exact Below.refl _ _) | (with_reducible assumption) | (with_reducible refine below_drewN ?_ _) | (with_reducible refine Below.alloc ?_ ?_ _) | (with_reducible refine Below.drew ?_) | (with_reducible refine Below.setCell ?_ ?_ _) | go_size))) (hb1.mono (by go_size)); have hL1 := hb1; clear hb1; obtain ⟨hc1, hf1⟩ := bcell hL1))
    go_at_call 55
    with_reducible refine (FST.out _ ((H1.out.below (hB.mono hS1)).more (Nat.le_trans hS1 hB.size)) ((H2.out.below (hB.mono hS2)).more (Nat.le_trans hS2 hB.size))).mono ?_
    rintro e' w2 ⟨A1, c1, rfl, o1, hb2⟩
    have BX := hB.trans (hb2.mono hB.size)
    have O1 := Lib.hid (o1.weak hB.size)
    clear o1 hb2 GOOD FST H1 H2
    go_wp2
    go_returns
    exact ⟨A1, c1, rfl, O1.out, BX⟩
theorem RdI.zeros (w : World) (n : Nat) : RdI (w.alloc (.cells (madeCells #[.int .i64 0] n) 3)) (w.heap.size + 1) (some ⟨w.heap.size, 0, none⟩) (List.replicate n 0) := fun _ => by
  refine ⟨w.heap.size, 0, rfl, by omega, fun j hj => ?_⟩
  rw [List.length_replicate] at hj
  have := (World.rowIs_made w (.int .i64 0) n 3).cell hj
  rw [Nat.zero_add, this]
  simp [List.getD_eq_getElem?_getD, hj]
theorem zeros_get (n j : Nat) : (List.replicate n (0 : Int)).getD j 0 = 0 := by
  by_cases h : j < n
  · simp [List.getD_eq_getElem?_getD, h]
  · simp [List.getD_eq_getElem?_getD, h]
theorem NumB.zeros {L E M P : Int} {xs ys : List Int} (h : NumB L E M P xs ys) : NumB L E M P (List.replicate ys.length 0) ys :=
  ⟨h.e0, h.el, h.lm, h.m1, h.p0, h.p1, h.n1, h.n2, List.length_replicate, fun j _ => by rw [zeros_get]; omega, h.hy⟩
set_option maxHeartbeats 1000000 in
theorem implLazy_c {B B' : Nat} (L E M P : Int) (A A' : Option Addr) (c c' : Nat) (xs ys : List Int) (w : World) (h : RdI w B A xs) (h' : RdI w B' A' ys) (hS1 : B ≤ w.heap.size) (hS2 : B' ≤ w.heap.size) (hnil : A = none → c = 0) (hnil' : A' = none → c' = 0) (hm : xs.length ≤ 1048576) (hm' : ys.length ≤ 1048576) :
    Calls Try.prog 39 #[.agg #[.int .i64 L, .int .i64 E, .int .i64 M, .int .i64 P, .slice A xs.length c, .slice A' ys.length c']] w (RetI w (lazyT E M P L xs ys).1 (fun v => .tuple #[v, .bool (lazyT E M P L xs ys).2])) := by
  have good := implPump_c L E M P A A' c c' xs ys _ (h.alloc hS1 (.cells #[.int .i64 L, .int .i64 E, .int .i64 M, .int .i64 P, .slice A xs.length c, .slice A' ys.length c'] 28)) (h'.alloc hS2 _) (by simp; omega) (by simp; omega) hnil hnil' hm hm'
  cases g : goodPm L E M P xs ys
  · have ec : lazyT E M P L xs ys = ([], false) := by unfold lazyT; rw [if_neg (by rw [g]; decide)]
    rw [g] at good
    rw [ec]
    have GOOD := Lib.hid good
    clear good g ec h h'
    go_enter Try.func39, Try.ntmps39
    go_wp2_with (first | (go_at_call 17; refine (GOOD.out).mono ?_; rintro e w1 ⟨rfl, hb1⟩; have hz1 := hb1.size; (repeat (first | rw [World.size_alloc] at hz1 | rw [World.size_drew] at hz1 | rw [World.heap_drewN] at hz1 | rw [World.size_setCell] at hz1)); have hB : Below w.heap.size w w1 := Below.trans (by (repeat' (first | (with_reducible exact Below.refl _ _) | (with_reducible assumption) | (with_reducible refine below_drewN ?_ _) | (with_reducible refine Below.alloc ?_ ?_ _) | (with_reducible refine Below.drew ?_) | (with_reducible refine Below.setCell ?_ ?_ _) | go_size))) (hb1.mono (by go_size)); have hL1 := hb1; clear hb1; obtain ⟨hc1, hf1⟩ := bcell hL1))
    go_returns
    exact ⟨_, _, rfl, OwnI.nil _ _, by (repeat' (first | (with_reducible exact Below.refl _ _) | (with_reducible assumption) | (with_reducible refine below_drewN ?_ _) | (with_reducible refine Below.alloc ?_ ?_ _) | (with_reducible refine Below.drew ?_) | (with_reducible refine Below.setCell ?_ ?_ _) | go_size))⟩
  · have ec : lazyT E M P L xs ys = ((firstT E M P L (List.replicate ys.length 0) ys).1, (firstT E M P L (List.replicate ys.length 0) ys).2.2) := by unfold lazyT; rw [if_pos g, firstT_lazy g (zeros_get _)]
    have nb := (NumB.of g).zeros
    have n12 := nb.n2
    have fst := fun (T : Nat) (W : World) (q1 : RdI W W.heap.size (some ⟨T, 0, none⟩) (List.replicate ys.length 0)) (q2 : RdI W W.heap.size A' ys) => first_c L E M P A A' (some ⟨T, 0, none⟩) c c' ys.length xs ys (List.replicate ys.length 0) W q1 q2 (Nat.le_refl _) (Nat.le_refl _) nb
    rw [List.length_replicate] at fst
    rw [g] at good
    rw [ec]
    have GOOD := Lib.hid good
    have FST := Lib.hid fst
    have R1 := h.more hS1
    have R2 := h'.more hS2
    generalize firstT E M P L (List.replicate ys.length 0) ys = r at *
    have hmk := run_make_row' (P := Try.prog) 26 3 (.int .i64 0) 8 Try.underlying26 Try.infoInt rfl .i64 .i64 ys.length (by omega) (by omega)
    clear good g ec h h' nb fst
    go_enter Try.func39, Try.ntmps39
    go_wp2_with (first | (go_at_call 17; refine (GOOD.out).mono ?_; rintro e w1 ⟨rfl, hb1⟩; have hz1 := hb1.size; (repeat (first | rw [World.size_alloc] at hz1 | rw [World.size_drew] at hz1 | rw [World.heap_drewN] at hz1 | rw [World.size_setCell] at hz1)); have hB : Below w.heap.size w w1 := Below.trans (by (repeat' (first | (with_reducible exact Below.refl _ _) | (with_reducible assumption) | (with_reducible refine below_drewN ?_ _) | (with_reducible refine Below.alloc ?_ ?_ _) | (with_reducible refine Below.drew ?_) | (with_reducible refine Below.setCell ?_ ?_ _) | go_size))) (hb1.mono (by go_size)); have hL1 := hb1; clear hb1; obtain ⟨hc1, hf1⟩ := bcell hL1))
    have P0 : PB w1 w.heap.size L E M P (.slice A xs.length c) (.slice A' ys.length c') := (PB.new w L E M P _ _).below hL1
    have V2 : RdI w1 w1.heap.size A' ys := (R2.below hB).more hB.size
    have ZR : RdI (w1.alloc (.cells (madeCells #[.int .i64 0] ys.length) 3)).drew (w1.alloc (.cells (madeCells #[.int .i64 0] ys.length) 3)).drew.heap.size (some ⟨w1.heap.size, 0, none⟩) (List.replicate ys.length 0) := by
      have := (RdI.zeros w1 ys.length).more (B' := (w1.alloc (.cells (madeCells #[.int .i64 0] ys.length) 3)).heap.size) (by simp)
      exact this
    have V3 : RdI (w1.alloc (.cells (madeCells #[.int .i64 0] ys.length) 3)).drew (w1.alloc (.cells (madeCells #[.int .i64 0] ys.length) 3)).drew.heap.size A' ys := by
      have := (V2.alloc (Nat.le_refl _) (.cells (madeCells #[.int .i64 0] ys.length) 3)).more (B' := (w1.alloc (.cells (madeCells #[.int .i64 0] ys.length) 3)).heap.size) (by simp)
      exact this
    have ap := FST.out _ _ ZR V3
    have AP := Lib.hid ap
    have BX0 := Lib.hid hB
    clear ZR V3 ap V2
    have hn : (ys.length : Int).toNat = ys.length := by omega
    clear GOOD hL1 hc1 hf1 R1 R2 hB hz1
    go_region_held3 (fun w' => w'.cell? ⟨w.heap.size, 0, none⟩ = some (.int .i64 L) ∧ w'.cell? ⟨w.heap.size, 1, none⟩ = some (.int .i64 E) ∧ w'.cell? ⟨w.heap.size, 2, none⟩ = some (.int .i64 M) ∧ w'.cell? ⟨w.heap.size, 3, none⟩ = some (.int .i64 P) ∧ w'.cell? ⟨w.heap.size, 4, none⟩ = some (.slice A xs.length c) ∧ w'.cell? ⟨w.heap.size, 5, none⟩ = some (.slice A' ys.length c') ∧ Below w1.heap.size w1 w')
      (first
        | exact pbh_start P0
        | exact pbh_far (by assumption) hb2
        | exact pbh_alloc (by assumption) _)
      (first
        | (go_at_call 55; refine AP.out.mono ?_; rintro e' w2 ⟨A1, c1, rfl, o1, hb2⟩))
    have b2 : Below (w1.alloc (.cells (madeCells #[.int .i64 0] ys.length) 3)).heap.size (w1.alloc (.cells (madeCells #[.int .i64 0] ys.length) 3)) w2 := below_undrew hb2
    have b1 : Below w1.heap.size w1 w2 := (below_alloc' (Nat.le_refl _) _).trans (b2.mono (by simp))
    have o2 : OwnI w2 (w1.alloc (.cells (madeCells #[.int .i64 0] ys.length) 3)).heap.size (.slice A1 r.1.length c1) r.1 := o1
    have O2 := Lib.hid (o2.weak (base' := w.heap.size) (by have := BX0.out.size; simp; omega))
    have BX := BX0.out.trans (b1.mono BX0.out.size)
    clear hb2 b2 b1 o1 o2 P0 AP
    go_wp2
    go_returns
    exact ⟨A1, c1, rfl, O2.out, BX⟩
end Go.Proofs.Ytofcienabddpjaa

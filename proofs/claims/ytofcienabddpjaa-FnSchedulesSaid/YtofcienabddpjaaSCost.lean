/- Contracts: the cost of a schedule. -/
import Derived.Test.YtofcienabddpjaaSGood
namespace Go.Proofs.Ytofcienabddpjaa
open Go.RowKit

theorem specSched_c {B B' B3 : Nat} (L E M P : Int) (A A' C : Option Addr) (c c' d : Nat) (xs ys zs : List Int) (w : World) (h : RdI w B A xs) (h' : RdI w B' A' ys) (h3 : RdI w B3 C zs) (hB : B ≤ w.heap.size) (hB' : B' ≤ w.heap.size) (hB3 : B3 ≤ w.heap.size) (hm : xs.length ≤ 1048576) (hm' : ys.length ≤ 1048576) :
    Calls Try.prog 27 #[.agg #[.int .i64 L, .int .i64 E, .int .i64 M, .int .i64 P, .slice A xs.length c, .slice A' ys.length c'], .slice C zs.length d] w fun e w' => e = .returned (.bool (goodS L E M P xs ys zs)) ∧ Below w.heap.size w w' := by
  go_enter Try.func27, Try.ntmps27
  go_wp2_with fail; (go_at_call 60; refine (l13Schedule_c _ _ _ _ _ _ _ _ _ _ _ _ _ _ (h.alloc hB _) (h'.alloc hB' _) (h3.alloc hB3 _) (by simp; omega) (by simp; omega) (by simp; omega) hm hm').mono ?_; rintro e w1 ⟨rfl, hb1⟩; have hz1 := hb1.size; (repeat (first | rw [World.size_alloc] at hz1 | rw [World.size_drew] at hz1 | rw [World.heap_drewN] at hz1 | rw [World.size_setCell] at hz1)); have hB : Below w.heap.size w w1 := Below.trans (by (repeat' (first | (with_reducible exact Below.refl _ _) | (with_reducible assumption) | (with_reducible refine below_drewN ?_ _) | (with_reducible refine Below.alloc ?_ ?_ _) | (with_reducible refine Below.drew ?_) | (with_reducible refine Below.setCell ?_ ?_ _) | go_size))) (hb1.mono (by go_size)); have hL1 := hb1; clear hb1; obtain ⟨hc1, hf1⟩ := bcell hL1)
  go_wp2
  (go_returns; exact ⟨by first | rfl | (simp; done) | (simp; omega), by (repeat' (first | (with_reducible exact Below.refl _ _) | (with_reducible assumption) | (with_reducible refine below_drewN ?_ _) | (with_reducible refine Below.alloc ?_ ?_ _) | (with_reducible refine Below.drew ?_) | (with_reducible refine Below.setCell ?_ ?_ _) | go_size))⟩)
theorem goodS_out {L E M P : Int} {xs ys zs : List Int} (h : goodS L E M P xs ys zs = true) : goodPm L E M P xs ys = true ∧ zs.length = ys.length ∧ volsB P zs = true := by
  simp only [goodS, Bool.and_eq_true, decide_eq_true_eq] at h
  exact ⟨h.1, h.2.1, h.2.2.1⟩
theorem goodS_cost {L E M P : Int} {xs ys zs : List Int} (h : goodS L E M P xs ys zs = true) : xs.length = zs.length ∧ zs.length ≤ 12 ∧ (∀ j, j < zs.length → (0 ≤ xs.getD j 0 ∧ xs.getD j 0 ≤ 100) ∧ (0 ≤ zs.getD j 0 ∧ zs.getD j 0 ≤ 10)) ∧ ∀ k, k ≤ zs.length → 0 ≤ costS xs zs k ∧ costS xs zs k ≤ 1000 * k := by
  obtain ⟨g, hl, hv⟩ := goodS_out h
  have q := goodPm_out g
  have hx := allH_out q.2.2.2.2.2.2.2.2.2.1
  have hz := volsB_out hv
  have e : xs.length = zs.length := by omega
  refine ⟨e, by omega, fun j hj => ⟨hx j (by omega), by have := hz j hj; omega⟩, fun k hk => costS_b hx (fun j hj => by have := hz j hj; omega) k (by omega) hk⟩
/-- The cost of a schedule, if it is good. -/
def scost (L E M P : Int) (xs ys zs : List Int) : Int × Bool := if goodS L E M P xs ys zs = true then (costS xs zs zs.length, true) else (0, false)
theorem costS_succ {xs zs : List Int} {k : Nat} {x z : Int} (hx : x = xs.getD k 0) (hz : z = zs.getD k 0) : costS xs zs (k + 1) = costS xs zs k + x * z := by rw [costS, hx, hz]
set_option maxHeartbeats 1000000 in
theorem implScost_c {B B' B3 : Nat} (L E M P : Int) (A A' C : Option Addr) (c c' d : Nat) (xs ys zs : List Int) (w : World) (h : RdI w B A xs) (h' : RdI w B' A' ys) (h3 : RdI w B3 C zs) (hS1 : B ≤ w.heap.size) (hS2 : B' ≤ w.heap.size) (hS3 : B3 ≤ w.heap.size) (hnil : A = none → c = 0) (hnil' : A' = none → c' = 0) (hm : xs.length ≤ 1048576) (hm' : ys.length ≤ 1048576) :
    Calls Try.prog 32 #[.agg #[.int .i64 L, .int .i64 E, .int .i64 M, .int .i64 P, .slice A xs.length c, .slice A' ys.length c'], .slice C zs.length d] w fun e w' => e = .returned (.tuple #[.int .i64 (scost L E M P xs ys zs).1, .bool (scost L E M P xs ys zs).2]) ∧ Below w.heap.size w w' := by
  have good := implSched_c L E M P A A' C c c' d xs ys zs _ (h.alloc hS1 (.cells #[.int .i64 L, .int .i64 E, .int .i64 M, .int .i64 P, .slice A xs.length c, .slice A' ys.length c'] 28)) (h'.alloc hS2 _) (h3.alloc hS3 _) (by simp; omega) (by simp; omega) (by simp; omega) hnil hnil' hm hm'
  cases g : goodS L E M P xs ys zs
  · have e : scost L E M P xs ys zs = (0, false) := by unfold scost; rw [g]; rfl
    rw [g] at good
    rw [e]
    have GOOD := Lib.hid good
    clear e good g
    go_enter Try.func32, Try.ntmps32
    go_wp2_with (first | (go_at_call 29; refine (GOOD.out).mono ?_; rintro e w1 ⟨rfl, hb1⟩; have hz1 := hb1.size; (repeat (first | rw [World.size_alloc] at hz1 | rw [World.size_drew] at hz1 | rw [World.heap_drewN] at hz1 | rw [World.size_setCell] at hz1)); have hB : Below w.heap.size w w1 := Below.trans (by (repeat' (first | (with_reducible exact Below.refl _ _) | (with_reducible assumption) | (with_reducible refine below_drewN ?_ _) | (with_reducible refine Below.alloc ?_ ?_ _) | (with_reducible refine Below.drew ?_) | (with_reducible refine Below.setCell ?_ ?_ _) | go_size))) (hb1.mono (by go_size)); have hL1 := hb1; clear hb1; obtain ⟨hc1, hf1⟩ := bcell hL1))
    (go_returns; exact ⟨by first | rfl | (simp; done) | (simp; omega), by (repeat' (first | (with_reducible exact Below.refl _ _) | (with_reducible assumption) | (with_reducible refine below_drewN ?_ _) | (with_reducible refine Below.alloc ?_ ?_ _) | (with_reducible refine Below.drew ?_) | (with_reducible refine Below.setCell ?_ ?_ _) | go_size))⟩)
  · have e : scost L E M P xs ys zs = (costS xs zs zs.length, true) := by unfold scost; rw [g]; rfl
    obtain ⟨hl, h12, hxz, hcb⟩ := goodS_cost g
    rw [g, hl] at good
    rw [e, hl]
    have GOOD := Lib.hid good
    have H1 := Lib.hid h
    have H3 := Lib.hid h3
    have HL := Lib.hid hl
    have HXZ := Lib.hid hxz
    have HCB := Lib.hid hcb
    clear e good g h h3 hl hxz hcb h' hm hm'
    go_enter Try.func32, Try.ntmps32
    go_wp2_with (first | (go_at_call 29; refine (GOOD.out).mono ?_; rintro e w1 ⟨rfl, hb1⟩; have hz1 := hb1.size; (repeat (first | rw [World.size_alloc] at hz1 | rw [World.size_drew] at hz1 | rw [World.heap_drewN] at hz1 | rw [World.size_setCell] at hz1)); have hB : Below w.heap.size w w1 := Below.trans (by (repeat' (first | (with_reducible exact Below.refl _ _) | (with_reducible assumption) | (with_reducible refine below_drewN ?_ _) | (with_reducible refine Below.alloc ?_ ?_ _) | (with_reducible refine Below.drew ?_) | (with_reducible refine Below.setCell ?_ ?_ _) | go_size))) (hb1.mono (by go_size)); have hL1 := hb1; clear hb1; obtain ⟨hc1, hf1⟩ := bcell hL1))
    have Q1 := Lib.hid ((H1.out.below (hB.mono hS1)).more (Nat.le_trans hS1 hB.size))
    have Q3 := Lib.hid ((H3.out.below (hB.mono hS3)).more (Nat.le_trans hS3 hB.size))
    clear GOOD H1 H3
    go_loop [6, 7, 8, 15] (fun s _ _ i => ∃ k : Nat, k ≤ zs.length ∧ i = .int .i64 k ∧ s = .int .i64 (costS xs zs k)) (fun _ _ _ i => zs.length - (intOf i).toNat)
    case atStart => exact ⟨0, by omega, rfl, rfl⟩
    case round =>
      obtain ⟨k, hk, rfl, rfl⟩ := hrel
      by_cases hlt : k < zs.length
      · obtain ⟨b3, o3, z, rfl, hz, hb3, hcz⟩ := Q3.out.at_ hlt
        obtain ⟨b1, o1, x, rfl, hx, hb1, hcx⟩ := Q1.out.at_ (k := k) (by have := HL.out; omega)
        have hi : (k : Int) < (zs.length : Int) := by omega
        have W1 : IntKind.i64.wrap ((k : Int) + 1) = (k : Int) + 1 := IntWalk.i64_in _ (by omega)
        have q := HXZ.out k hlt
        rw [← hx, ← hz] at q
        have m := mulB q.1.1 q.1.2 q.2.1 q.2.2
        have hs := costS_succ hx hz
        have cb := HCB.out k hk
        have W2 : IntKind.i64.wrap (x * z) = x * z := IntWalk.i64_in _ (by omega)
        have W3 : IntKind.i64.wrap (costS xs zs k + x * z) = costS xs zs k + x * z := IntWalk.i64_in _ (by omega)
        have HS := Lib.hid hs
        clear hs q m cb hx hz
        go_wp2
        go_round
        case rel => exact ⟨k + 1, by omega, by go_num, by rw [HS.out]⟩
        case measure => simp [intOf]; omega
      · obtain rfl : k = zs.length := by omega
        go_wp2
        (go_returns; exact ⟨by first | rfl | (simp; done) | (simp; omega), by (repeat' (first | (with_reducible exact Below.refl _ _) | (with_reducible assumption) | (with_reducible refine below_drewN ?_ _) | (with_reducible refine Below.alloc ?_ ?_ _) | (with_reducible refine Below.drew ?_) | (with_reducible refine Below.setCell ?_ ?_ _) | go_size))⟩)
theorem l13Cost_c {B B3 : Nat} (L E M P : Int) (A A' C : Option Addr) (c c' d : Nat) (xs ys zs : List Int) (w : World) (h : RdI w B A xs) (h3 : RdI w B3 C zs) (hS1 : B ≤ w.heap.size) (hS3 : B3 ≤ w.heap.size) (g : goodS L E M P xs ys zs = true) :
    Calls Try.prog 64 #[.agg #[.int .i64 L, .int .i64 E, .int .i64 M, .int .i64 P, .slice A xs.length c, .slice A' ys.length c'], .slice C zs.length d] w fun e w' => e = .returned (.int .i64 (costS xs zs zs.length)) ∧ Below w.heap.size w w' := by
  obtain ⟨hl, h12, hxz, hcb⟩ := goodS_cost g
  rw [hl]
  have H1 := Lib.hid h
  have H3 := Lib.hid h3
  have HL := Lib.hid hl
  have HXZ := Lib.hid hxz
  have HCB := Lib.hid hcb
  clear g h h3 hl hxz hcb
  go_enter Try.func64, Try.ntmps64
  go_wp2
  go_loopw [5, 6] (fun s i wr => ∃ k : Nat, k ≤ zs.length ∧ i = .int .i64 k ∧ s = .int .i64 (costS xs zs k) ∧ ∃ n, wr = (w.alloc (.cells #[.int .i64 L, .int .i64 E, .int .i64 M, .int .i64 P, .slice A zs.length c, .slice A' ys.length c'] 28)).drewN n) (fun _ i _ => zs.length - (intOf i).toNat)
  case atStart => exact ⟨0, by omega, rfl, rfl, 0, rfl⟩
  case round =>
    obtain ⟨k, hk, rfl, rfl, n, rfl⟩ := hrel
    by_cases hlt : k < zs.length
    · obtain ⟨b3, o3, z, rfl, hz, hb3, hcz⟩ := H3.out.at_ hlt
      obtain ⟨b1, o1, x, rfl, hx, hb1, hcx⟩ := H1.out.at_ (k := k) (by have := HL.out; omega)
      have n1 : b1 < w.heap.size := by omega
      have n3 : b3 < w.heap.size := by omega
      have n4 : ¬ b1 = w.heap.size := by omega
      have n5 : ¬ b3 = w.heap.size := by omega
      have hi : (k : Int) < (zs.length : Int) := by omega
      have W1 : IntKind.i64.wrap ((k : Int) + 1) = (k : Int) + 1 := IntWalk.i64_in _ (by omega)
      have q := HXZ.out k hlt
      rw [← hx, ← hz] at q
      have m := mulB q.1.1 q.1.2 q.2.1 q.2.2
      have hs := costS_succ hx hz
      have cb := HCB.out k hk
      have W2 : IntKind.i64.wrap (x * z) = x * z := IntWalk.i64_in _ (by omega)
      have W3 : IntKind.i64.wrap (costS xs zs k + x * z) = costS xs zs k + x * z := IntWalk.i64_in _ (by omega)
      have HS := Lib.hid hs
      clear hs q m cb hx hz
      go_wp2
      go_quiet (fail)
      go_wp2
      go_roundw
      case rel => exact ⟨k + 1, by omega, by go_num, by rw [HS.out], _, by first | rfl | exact World.drewN_drewN _ _ _⟩
      case measure => simp [intOf]; omega
    · obtain rfl : k = zs.length := by omega
      go_wp2
      (go_returns; exact ⟨by first | rfl | (simp; done) | (simp; omega), by (repeat' (first | (with_reducible exact Below.refl _ _) | (with_reducible assumption) | (with_reducible refine below_drewN ?_ _) | (with_reducible refine Below.alloc ?_ ?_ _) | (with_reducible refine Below.drew ?_) | (with_reducible refine Below.setCell ?_ ?_ _) | go_size))⟩)
theorem specScost_c {B B' B3 : Nat} (L E M P : Int) (A A' C : Option Addr) (c c' d : Nat) (xs ys zs : List Int) (w : World) (h : RdI w B A xs) (h' : RdI w B' A' ys) (h3 : RdI w B3 C zs) (hS1 : B ≤ w.heap.size) (hS2 : B' ≤ w.heap.size) (hS3 : B3 ≤ w.heap.size) (hm : xs.length ≤ 1048576) (hm' : ys.length ≤ 1048576) :
    Calls Try.prog 31 #[.agg #[.int .i64 L, .int .i64 E, .int .i64 M, .int .i64 P, .slice A xs.length c, .slice A' ys.length c'], .slice C zs.length d] w fun e w' => e = .returned (.tuple #[.int .i64 (scost L E M P xs ys zs).1, .bool (scost L E M P xs ys zs).2]) ∧ Below w.heap.size w w' := by
  have good := l13Schedule_c L E M P A A' C c c' d xs ys zs _ (h.alloc hS1 (.cells #[.int .i64 L, .int .i64 E, .int .i64 M, .int .i64 P, .slice A xs.length c, .slice A' ys.length c'] 28)) (h'.alloc hS2 _) (h3.alloc hS3 _) (by simp; omega) (by simp; omega) (by simp; omega) hm hm'
  cases g : goodS L E M P xs ys zs
  · have e : scost L E M P xs ys zs = (0, false) := by unfold scost; rw [g]; rfl
    rw [g] at good
    rw [e]
    have GOOD := Lib.hid good
    clear e good g
    go_enter Try.func31, Try.ntmps31
    go_wp2_with (first | (go_at_call 60; refine (GOOD.out).mono ?_; rintro e w1 ⟨rfl, hb1⟩; have hz1 := hb1.size; (repeat (first | rw [World.size_alloc] at hz1 | rw [World.size_drew] at hz1 | rw [World.heap_drewN] at hz1 | rw [World.size_setCell] at hz1)); have hB : Below w.heap.size w w1 := Below.trans (by (repeat' (first | (with_reducible exact Below.refl _ _) | (with_reducible assumption) | (with_reducible refine below_drewN ?_ _) | (with_reducible refine Below.alloc ?_ ?_ _) | (with_reducible refine Below.drew ?_) | (with_reducible refine Below.setCell ?_ ?_ _) | go_size))) (hb1.mono (by go_size)); have hL1 := hb1; clear hb1; obtain ⟨hc1, hf1⟩ := bcell hL1))
    (go_returns; exact ⟨by first | rfl | (simp; done) | (simp; omega), by (repeat' (first | (with_reducible exact Below.refl _ _) | (with_reducible assumption) | (with_reducible refine below_drewN ?_ _) | (with_reducible refine Below.alloc ?_ ?_ _) | (with_reducible refine Below.drew ?_) | (with_reducible refine Below.setCell ?_ ?_ _) | go_size))⟩)
  · have e : scost L E M P xs ys zs = (costS xs zs zs.length, true) := by unfold scost; rw [g]; rfl
    rw [g] at good
    rw [e]
    have cost := fun (s : World) (a : RdI s s.heap.size A xs) (b : RdI s s.heap.size C zs) => l13Cost_c L E M P A A' C c c' d xs ys zs s a b (Nat.le_refl _) (Nat.le_refl _) g
    have GOOD := Lib.hid good
    have COST := Lib.hid cost
    have H1 := Lib.hid h
    have H3 := Lib.hid h3
    clear e good g h h3 cost h' hm hm'
    go_enter Try.func31, Try.ntmps31
    go_wp2_with (first | (go_at_call 60; refine (GOOD.out).mono ?_; rintro e w1 ⟨rfl, hb1⟩; have hz1 := hb1.size; (repeat (first | rw [World.size_alloc] at hz1 | rw [World.size_drew] at hz1 | rw [World.heap_drewN] at hz1 | rw [World.size_setCell] at hz1)); have hB : Below w.heap.size w w1 := Below.trans (by (repeat' (first | (with_reducible exact Below.refl _ _) | (with_reducible assumption) | (with_reducible refine below_drewN ?_ _) | (with_reducible refine Below.alloc ?_ ?_ _) | (with_reducible refine Below.drew ?_) | (with_reducible refine Below.setCell ?_ ?_ _) | go_size))) (hb1.mono (by go_size)); have hL1 := hb1; clear hb1; obtain ⟨hc1, hf1⟩ := bcell hL1) | (go_at_call 64; refine (COST.out _ ((H1.out.below (hB.mono hS1)).more (Nat.le_trans hS1 hB.size)) ((H3.out.below (hB.mono hS3)).more (Nat.le_trans hS3 hB.size))).mono ?_; rintro e w2 ⟨rfl, hb2⟩; have hz2 := hb2.size; (repeat (first | rw [World.size_alloc] at hz2 | rw [World.size_drew] at hz2 | rw [World.heap_drewN] at hz2 | rw [World.size_setCell] at hz2)); replace hB : Below w.heap.size w w2 := Below.trans (by (repeat' (first | (with_reducible exact Below.refl _ _) | (with_reducible assumption) | (with_reducible refine below_drewN ?_ _) | (with_reducible refine Below.alloc ?_ ?_ _) | (with_reducible refine Below.drew ?_) | (with_reducible refine Below.setCell ?_ ?_ _) | go_size))) (hb2.mono (by go_size)); (first | (refine extend_then hL1 hb2 ?_ ?_ (fun hq => ?_); (focus ((repeat' (first | (with_reducible exact Below.refl _ _) | (with_reducible assumption) | (with_reducible refine below_drewN ?_ _) | (with_reducible refine Below.alloc ?_ ?_ _) | (with_reducible refine Below.drew ?_) | (with_reducible refine Below.setCell ?_ ?_ _) | go_size)); done)); (focus (go_size; done)); replace hL1 := hq; clear hq hc1 hf1; obtain ⟨hc1, hf1⟩ := bcell hL1) | (clear hL1 hc1 hf1) | skip); have hL2 := hb2; clear hb2; obtain ⟨hc2, hf2⟩ := bcell hL2))
    (go_returns; exact ⟨by first | rfl | (simp; done) | (simp; omega), by (repeat' (first | (with_reducible exact Below.refl _ _) | (with_reducible assumption) | (with_reducible refine below_drewN ?_ _) | (with_reducible refine Below.alloc ?_ ?_ _) | (with_reducible refine Below.drew ?_) | (with_reducible refine Below.setCell ?_ ?_ _) | go_size))⟩)
end Go.Proofs.Ytofcienabddpjaa

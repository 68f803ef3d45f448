/- Contracts: NextPrice, VolumeFor, IsProgressive. -/
import Derived.Test.YtbfaejacfhblkaaTOf
import Derived.Test.YtbfaejacfhblkaaTNext
namespace Go.Proofs.Ytbfaejacfhblkaa
open Go.RowKit

def nextR (F : Int) (xs : List (Int × Int)) (v : Int) : Int × Bool := if goodT F xs && (inB v 0 100000 && decide (v ≠ 100000)) then (costT F xs (v + 1) - costT F xs v, true) else (0, false)
theorem nextR_no {F : Int} {xs : List (Int × Int)} {v : Int} (h : goodT F xs = false) : nextR F xs v = (0, false) := by simp [nextR, h]
theorem nextR_no2 {F : Int} {xs : List (Int × Int)} {v : Int} (h : inB v 0 100000 = false) : nextR F xs v = (0, false) := by simp [nextR, h]
theorem nextR_no3 {F : Int} {xs : List (Int × Int)} {v : Int} (h : v = 100000) : nextR F xs v = (0, false) := by simp [nextR, h]
theorem nextR_yes {F : Int} {xs : List (Int × Int)} {v : Int} (h : goodT F xs = true) (h2 : inB v 0 100000 = true) (h3 : v ≠ 100000) : nextR F xs v = (costT F xs (v + 1) - costT F xs v, true) := by simp [nextR, h, h2, h3]
theorem implNext_c {B : Nat} (F v : Int) (A : Option Addr) (c : Nat) (xs : List (Int × Int)) (w : World) (h : RdP w B A xs) (hBs : B ≤ w.heap.size) (hm : xs.length ≤ 4611686018427387904) : Calls Try.prog 23 #[.agg #[.int .i64 F, .slice A xs.length c], .int .i64 v] w fun e w' => e = .returned (.tuple #[.int .i64 (nextR F xs v).1, .bool (nextR F xs v).2]) ∧ Below w.heap.size w w' := by
  cases h1 : goodT F xs
  · rw [nextR_no h1]
    go_enter Try.func23, Try.ntmps23
    go_wp2_with (first | (go_at_call 18; refine (implTar_c _ _ _ _ _ (h.alloc hBs _) (by simp; omega) hm).mono ?_; rintro e w1 ⟨rfl, hb1⟩; have hz1 := hb1.size; (repeat (first | rw [World.size_alloc] at hz1 | rw [World.size_drew] at hz1 | rw [World.heap_drewN] at hz1 | rw [World.size_setCell] at hz1)); have hB : Below w.heap.size w w1 := Below.trans (by (repeat' (first | (with_reducible exact Below.refl _ _) | (with_reducible assumption) | (with_reducible refine below_drewN ?_ _) | (with_reducible refine Below.alloc ?_ ?_ _) | (with_reducible refine Below.drew ?_) | (with_reducible refine Below.setCell ?_ ?_ _) | go_size))) (hb1.mono (by go_size)); have hL1 := hb1; clear hb1; obtain ⟨hc1, hf1⟩ := bcell hL1) | (go_at_call 60; refine (isVolume_c _ _).mono ?_; rintro e w' ⟨rfl, rfl⟩))
    (go_returns; exact ⟨by first | rfl | (simp; done) | (simp; omega), by (repeat' (first | (with_reducible exact Below.refl _ _) | (with_reducible assumption) | (with_reducible refine below_drewN ?_ _) | (with_reducible refine Below.alloc ?_ ?_ _) | (with_reducible refine Below.drew ?_) | (with_reducible refine Below.setCell ?_ ?_ _) | go_size))⟩)
  cases h2 : inB v 0 100000
  · rw [nextR_no2 h2]
    go_enter Try.func23, Try.ntmps23
    go_wp2_with (first | (go_at_call 18; refine (implTar_c _ _ _ _ _ (h.alloc hBs _) (by simp; omega) hm).mono ?_; rintro e w1 ⟨rfl, hb1⟩; have hz1 := hb1.size; (repeat (first | rw [World.size_alloc] at hz1 | rw [World.size_drew] at hz1 | rw [World.heap_drewN] at hz1 | rw [World.size_setCell] at hz1)); have hB : Below w.heap.size w w1 := Below.trans (by (repeat' (first | (with_reducible exact Below.refl _ _) | (with_reducible assumption) | (with_reducible refine below_drewN ?_ _) | (with_reducible refine Below.alloc ?_ ?_ _) | (with_reducible refine Below.drew ?_) | (with_reducible refine Below.setCell ?_ ?_ _) | go_size))) (hb1.mono (by go_size)); have hL1 := hb1; clear hb1; obtain ⟨hc1, hf1⟩ := bcell hL1) | (go_at_call 60; refine (isVolume_c _ _).mono ?_; rintro e w' ⟨rfl, rfl⟩))
    (go_returns; exact ⟨by first | rfl | (simp; done) | (simp; omega), by (repeat' (first | (with_reducible exact Below.refl _ _) | (with_reducible assumption) | (with_reducible refine below_drewN ?_ _) | (with_reducible refine Below.alloc ?_ ?_ _) | (with_reducible refine Below.drew ?_) | (with_reducible refine Below.setCell ?_ ?_ _) | go_size))⟩)
  by_cases h3 : v = 100000
  · rw [nextR_no3 h3]
    have h3b : (v == 100000) = true := by simp [h3]
    go_enter Try.func23, Try.ntmps23
    go_wp2_with (first | (go_at_call 18; refine (implTar_c _ _ _ _ _ (h.alloc hBs _) (by simp; omega) hm).mono ?_; rintro e w1 ⟨rfl, hb1⟩; have hz1 := hb1.size; (repeat (first | rw [World.size_alloc] at hz1 | rw [World.size_drew] at hz1 | rw [World.heap_drewN] at hz1 | rw [World.size_setCell] at hz1)); have hB : Below w.heap.size w w1 := Below.trans (by (repeat' (first | (with_reducible exact Below.refl _ _) | (with_reducible assumption) | (with_reducible refine below_drewN ?_ _) | (with_reducible refine Below.alloc ?_ ?_ _) | (with_reducible refine Below.drew ?_) | (with_reducible refine Below.setCell ?_ ?_ _) | go_size))) (hb1.mono (by go_size)); have hL1 := hb1; clear hb1; obtain ⟨hc1, hf1⟩ := bcell hL1) | (go_at_call 60; refine (isVolume_c _ _).mono ?_; rintro e w' ⟨rfl, rfl⟩))
    (go_returns; exact ⟨by first | rfl | (simp; done) | (simp; omega), by (repeat' (first | (with_reducible exact Below.refl _ _) | (with_reducible assumption) | (with_reducible refine below_drewN ?_ _) | (with_reducible refine Below.alloc ?_ ?_ _) | (with_reducible refine Below.drew ?_) | (with_reducible refine Below.setCell ?_ ?_ _) | go_size))⟩)
  have hv := inB_out h2
  have h3b : (v == 100000) = false := by simp [h3]
  have cb1 := costT_b h1 hv.1 (by omega)
  have cb2 := costT_b h1 (v := v + 1) (by omega) (by omega)
  have wr1 : IntKind.i64.wrap (v + 1) = v + 1 := IntWalk.i64_in _ (by omega)
  have wr2 : IntKind.i64.wrap (costT F xs (v + 1) - costT F xs v) = costT F xs (v + 1) - costT F xs v := IntWalk.i64_in _ (by omega)
  rw [nextR_yes h1 h2 h3]
  go_enter Try.func23, Try.ntmps23
  go_wp2_with (first | (go_at_call 18; refine (implTar_c _ _ _ _ _ (h.alloc hBs _) (by simp; omega) hm).mono ?_; rintro e w1 ⟨rfl, hb1⟩; have hz1 := hb1.size; (repeat (first | rw [World.size_alloc] at hz1 | rw [World.size_drew] at hz1 | rw [World.heap_drewN] at hz1 | rw [World.size_setCell] at hz1)); have hB : Below w.heap.size w w1 := Below.trans (by (repeat' (first | (with_reducible exact Below.refl _ _) | (with_reducible assumption) | (with_reducible refine below_drewN ?_ _) | (with_reducible refine Below.alloc ?_ ?_ _) | (with_reducible refine Below.drew ?_) | (with_reducible refine Below.setCell ?_ ?_ _) | go_size))) (hb1.mono (by go_size)); have hL1 := hb1; clear hb1; obtain ⟨hc1, hf1⟩ := bcell hL1) | (go_at_call 60; refine (isVolume_c _ _).mono ?_; rintro e w' ⟨rfl, rfl⟩))
  have hA2 : ∀ s : After w1, RdP s.w B A xs := fun s => ((h.alloc hBs _).below (hL1.mono (by simp; omega))).below (s.h.mono (by go_size))
  have hS2 : ∀ s : After w1, B ≤ s.w.heap.size := fun s => by have := s.h.size; go_size
  (refine wp_region_after (by kernel_rfl) (by kernel_rfl) (fun hAf => ?_); (repeat (go_big_quiet_step (first | (go_at_call 61; exact callsAfter (implCost_c _ _ _ _ _ _ (hA2 _) (hS2 _) h1 (by omega) (by omega)))))); refine wpQuiet_nil ?_; intro w2 hw'; have hb2 := after_out hw'; clear hw' hAf; have hz2 := hb2.size; (repeat (first | rw [World.size_alloc] at hz2 | rw [World.size_drew] at hz2 | rw [World.heap_drewN] at hz2 | rw [World.size_setCell] at hz2)); replace hB : Below w.heap.size w w2 := Below.trans (by (repeat' (first | (with_reducible exact Below.refl _ _) | (with_reducible assumption) | (with_reducible refine below_drewN ?_ _) | (with_reducible refine Below.alloc ?_ ?_ _) | (with_reducible refine Below.drew ?_) | (with_reducible refine Below.setCell ?_ ?_ _) | go_size))) (hb2.mono (by go_size)); (first | (refine extend_then hL1 hb2 ?_ ?_ (fun hq => ?_); (focus ((repeat' (first | (with_reducible exact Below.refl _ _) | (with_reducible assumption) | (with_reducible refine below_drewN ?_ _) | (with_reducible refine Below.alloc ?_ ?_ _) | (with_reducible refine Below.drew ?_) | (with_reducible refine Below.setCell ?_ ?_ _) | go_size)); done)); (focus (go_size; done)); replace hL1 := hq; clear hq hc1 hf1; obtain ⟨hc1, hf1⟩ := bcell hL1) | (clear hL1 hc1 hf1) | skip); have hL2 := hb2; clear hb2; obtain ⟨hc2, hf2⟩ := bcell hL2)
  go_wp2
  (go_returns; exact ⟨by first | rfl | (simp; done) | (simp; omega), by (repeat' (first | (with_reducible exact Below.refl _ _) | (with_reducible assumption) | (with_reducible refine below_drewN ?_ _) | (with_reducible refine Below.alloc ?_ ?_ _) | (with_reducible refine Below.drew ?_) | (with_reducible refine Below.setCell ?_ ?_ _) | go_size))⟩)
theorem specNext_c {B : Nat} (F v : Int) (A : Option Addr) (c : Nat) (xs : List (Int × Int)) (w : World) (h : RdP w B A xs) (hBs : B ≤ w.heap.size) (hm : xs.length ≤ 4611686018427387904) : Calls Try.prog 22 #[.agg #[.int .i64 F, .slice A xs.length c], .int .i64 v] w fun e w' => e = .returned (.tuple #[.int .i64 (nextR F xs v).1, .bool (nextR F xs v).2]) ∧ Below w.heap.size w w' := by
  cases h1 : goodT F xs
  · rw [nextR_no h1]
    go_enter Try.func22, Try.ntmps22
    go_wp2_with (first | (go_at_call 53; refine (specTar0_c _ _ _ _ _ (h.alloc hBs _) (by simp; omega) hm).mono ?_; rintro e w1 ⟨rfl, hb1⟩; have hz1 := hb1.size; (repeat (first | rw [World.size_alloc] at hz1 | rw [World.size_drew] at hz1 | rw [World.heap_drewN] at hz1 | rw [World.size_setCell] at hz1)); have hB : Below w.heap.size w w1 := Below.trans (by (repeat' (first | (with_reducible exact Below.refl _ _) | (with_reducible assumption) | (with_reducible refine below_drewN ?_ _) | (with_reducible refine Below.alloc ?_ ?_ _) | (with_reducible refine Below.drew ?_) | (with_reducible refine Below.setCell ?_ ?_ _) | go_size))) (hb1.mono (by go_size)); have hL1 := hb1; clear hb1; obtain ⟨hc1, hf1⟩ := bcell hL1) | (go_at_call 59; refine (l14Volume_c _ _).mono ?_; rintro e w' ⟨rfl, rfl⟩))
    (go_returns; exact ⟨by first | rfl | (simp; done) | (simp; omega), by (repeat' (first | (with_reducible exact Below.refl _ _) | (with_reducible assumption) | (with_reducible refine below_drewN ?_ _) | (with_reducible refine Below.alloc ?_ ?_ _) | (with_reducible refine Below.drew ?_) | (with_reducible refine Below.setCell ?_ ?_ _) | go_size))⟩)
  cases h2 : inB v 0 100000
  · rw [nextR_no2 h2]
    go_enter Try.func22, Try.ntmps22
    go_wp2_with (first | (go_at_call 53; refine (specTar0_c _ _ _ _ _ (h.alloc hBs _) (by simp; omega) hm).mono ?_; rintro e w1 ⟨rfl, hb1⟩; have hz1 := hb1.size; (repeat (first | rw [World.size_alloc] at hz1 | rw [World.size_drew] at hz1 | rw [World.heap_drewN] at hz1 | rw [World.size_setCell] at hz1)); have hB : Below w.heap.size w w1 := Below.trans (by (repeat' (first | (with_reducible exact Below.refl _ _) | (with_reducible assumption) | (with_reducible refine below_drewN ?_ _) | (with_reducible refine Below.alloc ?_ ?_ _) | (with_reducible refine Below.drew ?_) | (with_reducible refine Below.setCell ?_ ?_ _) | go_size))) (hb1.mono (by go_size)); have hL1 := hb1; clear hb1; obtain ⟨hc1, hf1⟩ := bcell hL1) | (go_at_call 59; refine (l14Volume_c _ _).mono ?_; rintro e w' ⟨rfl, rfl⟩))
    (go_returns; exact ⟨by first | rfl | (simp; done) | (simp; omega), by (repeat' (first | (with_reducible exact Below.refl _ _) | (with_reducible assumption) | (with_reducible refine below_drewN ?_ _) | (with_reducible refine Below.alloc ?_ ?_ _) | (with_reducible refine Below.drew ?_) | (with_reducible refine Below.setCell ?_ ?_ _) | go_size))⟩)
  by_cases h3 : v = 100000
  · rw [nextR_no3 h3]
    have h3b : (v == 100000) = true := by simp [h3]
    go_enter Try.func22, Try.ntmps22
    go_wp2_with (first | (go_at_call 53; refine (specTar0_c _ _ _ _ _ (h.alloc hBs _) (by simp; omega) hm).mono ?_; rintro e w1 ⟨rfl, hb1⟩; have hz1 := hb1.size; (repeat (first | rw [World.size_alloc] at hz1 | rw [World.size_drew] at hz1 | rw [World.heap_drewN] at hz1 | rw [World.size_setCell] at hz1)); have hB : Below w.heap.size w w1 := Below.trans (by (repeat' (first | (with_reducible exact Below.refl _ _) | (with_reducible assumption) | (with_reducible refine below_drewN ?_ _) | (with_reducible refine Below.alloc ?_ ?_ _) | (with_reducible refine Below.drew ?_) | (with_reducible refine Below.setCell ?_ ?_ _) | go_size))) (hb1.mono (by go_size)); have hL1 := hb1; clear hb1; obtain ⟨hc1, hf1⟩ := bcell hL1) | (go_at_call 59; refine (l14Volume_c _ _).mono ?_; rintro e w' ⟨rfl, rfl⟩))
    (go_returns; exact ⟨by first | rfl | (simp; done) | (simp; omega), by (repeat' (first | (with_reducible exact Below.refl _ _) | (with_reducible assumption) | (with_reducible refine below_drewN ?_ _) | (with_reducible refine Below.alloc ?_ ?_ _) | (with_reducible refine Below.drew ?_) | (with_reducible refine Below.setCell ?_ ?_ _) | go_size))⟩)
  have hv := inB_out h2
  have h3b : (v == 100000) = false := by simp [h3]
  have g := goodT_out h1
  have hr : ∀ k, k < xs.length → holds xs v k → nextR F xs v = (prT xs k, true) := fun k hk hh => by rw [nextR_yes h1 h2 h3, cost_next h1 hv.1 hk hh]
  have HR := Lib.hid hr
  clear hr
  go_enter Try.func22, Try.ntmps22
  go_wp2_with (first | (go_at_call 53; refine (specTar0_c _ _ _ _ _ (h.alloc hBs _) (by simp; omega) hm).mono ?_; rintro e w1 ⟨rfl, hb1⟩; have hz1 := hb1.size; (repeat (first | rw [World.size_alloc] at hz1 | rw [World.size_drew] at hz1 | rw [World.heap_drewN] at hz1 | rw [World.size_setCell] at hz1)); have hB : Below w.heap.size w w1 := Below.trans (by (repeat' (first | (with_reducible exact Below.refl _ _) | (with_reducible assumption) | (with_reducible refine below_drewN ?_ _) | (with_reducible refine Below.alloc ?_ ?_ _) | (with_reducible refine Below.drew ?_) | (with_reducible refine Below.setCell ?_ ?_ _) | go_size))) (hb1.mono (by go_size)); have hL1 := hb1; clear hb1; obtain ⟨hc1, hf1⟩ := bcell hL1) | (go_at_call 59; refine (l14Volume_c _ _).mono ?_; rintro e w' ⟨rfl, rfl⟩))
  have h' := (h.alloc hBs (.cells #[.int .i64 F, .slice A xs.length c] 29)).below (hL1.mono (by simp; omega))
  go_loop [6] (fun i => ∃ k : Nat, k < xs.length ∧ i = .int .i64 k ∧ ∀ j, j < k → upT xs j ≤ v) (fun i => xs.length - (intOf i).toNat)
  case atStart => exact ⟨0, by omega, rfl, fun j hj => absurd hj (by omega)⟩
  case round =>
    obtain ⟨k, hlt, rfl, hno⟩ := hrel
    obtain ⟨b, off, x, y, rfl, hx, hbB, hc0, hc1⟩ := h'.at_ hlt
    have hi : (k : Int) < (xs.length : Int) := by omega
    by_cases hq : x ≤ v
    · have hk1 : k + 1 < xs.length := by
        rcases Nat.lt_or_ge (k + 1) xs.length with hl | hg
        · exact hl
        · have e : xs.length - 1 = k := by omega
          have := g.2.2.2.2.2
          rw [e, up_of hx] at this
          omega
      have HNO := Lib.hid hno
      have HU := Lib.hid (up_of hx)
      clear hx h h' hno
      go_wp2
      go_round
      case rel => exact ⟨k + 1, hk1, by go_num, fun j hj => by
        by_cases e : j = k
        · subst e; rw [HU.out]; exact hq
        · exact HNO.out j (by omega)⟩
      case measure => simp [intOf]; omega
    · have hh := HR.out k hlt ⟨by rw [up_of hx]; omega, hno⟩
      rw [pr_of hx] at hh
      have HH := Lib.hid hh
      clear hx h h' hno hh
      go_wp2
      go_returns
      exact ⟨by rw [HH.out]; rfl, by (repeat' (first | (with_reducible exact Below.refl _ _) | (with_reducible assumption) | (with_reducible refine below_drewN ?_ _) | (with_reducible refine Below.alloc ?_ ?_ _) | (with_reducible refine Below.drew ?_) | (with_reducible refine Below.setCell ?_ ?_ _) | go_size))⟩
noncomputable def volR (F : Int) (xs : List (Int × Int)) (m : Int) : Int × Bool := if goodT F xs && (inB m 0 1000000000 && decide (F ≤ m)) then (volT F xs m, true) else (0, false)
theorem volR_no {F : Int} {xs : List (Int × Int)} {m : Int} (h : goodT F xs = false) : volR F xs m = (0, false) := by simp [volR, h]
theorem volR_no2 {F : Int} {xs : List (Int × Int)} {m : Int} (h : inB m 0 1000000000 = false) : volR F xs m = (0, false) := by simp [volR, h]
theorem volR_no3 {F : Int} {xs : List (Int × Int)} {m : Int} (h : m < F) : volR F xs m = (0, false) := by
  have : ¬ F ≤ m := by omega
  simp [volR, this]
theorem volR_yes {F : Int} {xs : List (Int × Int)} {m n : Int} (h : goodT F xs = true) (h2 : inB m 0 1000000000 = true) (h3 : F ≤ m) (hv : isVol F xs m n) : volR F xs m = (n, true) := by simp [volR, h, h2, h3, volT_is h hv]
theorem implVolF_c {B : Nat} (F m : Int) (A : Option Addr) (c : Nat) (xs : List (Int × Int)) (w : World) (h : RdP w B A xs) (hBs : B ≤ w.heap.size) (hm : xs.length ≤ 4611686018427387904) : Calls Try.prog 35 #[.agg #[.int .i64 F, .slice A xs.length c], .int .i64 m] w fun e w' => e = .returned (.tuple #[.int .i64 (volR F xs m).1, .bool (volR F xs m).2]) ∧ Below w.heap.size w w' := by
  cases h1 : goodT F xs
  · rw [volR_no h1]
    go_enter Try.func35, Try.ntmps35
    go_wp2_with (first | (go_at_call 18; refine (implTar_c _ _ _ _ _ (h.alloc hBs _) (by simp; omega) hm).mono ?_; rintro e w1 ⟨rfl, hb1⟩; have hz1 := hb1.size; (repeat (first | rw [World.size_alloc] at hz1 | rw [World.size_drew] at hz1 | rw [World.heap_drewN] at hz1 | rw [World.size_setCell] at hz1)); have hB : Below w.heap.size w w1 := Below.trans (by (repeat' (first | (with_reducible exact Below.refl _ _) | (with_reducible assumption) | (with_reducible refine below_drewN ?_ _) | (with_reducible refine Below.alloc ?_ ?_ _) | (with_reducible refine Below.drew ?_) | (with_reducible refine Below.setCell ?_ ?_ _) | go_size))) (hb1.mono (by go_size)); have hL1 := hb1; clear hb1; obtain ⟨hc1, hf1⟩ := bcell hL1) | (go_at_call 55; refine (inside_c _ _ _ _).mono ?_; rintro e w' ⟨rfl, rfl⟩))
    (go_returns; exact ⟨by first | rfl | (simp; done) | (simp; omega), by (repeat' (first | (with_reducible exact Below.refl _ _) | (with_reducible assumption) | (with_reducible refine below_drewN ?_ _) | (with_reducible refine Below.alloc ?_ ?_ _) | (with_reducible refine Below.drew ?_) | (with_reducible refine Below.setCell ?_ ?_ _) | go_size))⟩)
  cases h2 : inB m 0 1000000000
  · rw [volR_no2 h2]
    go_enter Try.func35, Try.ntmps35
    go_wp2_with (first | (go_at_call 18; refine (implTar_c _ _ _ _ _ (h.alloc hBs _) (by simp; omega) hm).mono ?_; rintro e w1 ⟨rfl, hb1⟩; have hz1 := hb1.size; (repeat (first | rw [World.size_alloc] at hz1 | rw [World.size_drew] at hz1 | rw [World.heap_drewN] at hz1 | rw [World.size_setCell] at hz1)); have hB : Below w.heap.size w w1 := Below.trans (by (repeat' (first | (with_reducible exact Below.refl _ _) | (with_reducible assumption) | (with_reducible refine below_drewN ?_ _) | (with_reducible refine Below.alloc ?_ ?_ _) | (with_reducible refine Below.drew ?_) | (with_reducible refine Below.setCell ?_ ?_ _) | go_size))) (hb1.mono (by go_size)); have hL1 := hb1; clear hb1; obtain ⟨hc1, hf1⟩ := bcell hL1) | (go_at_call 55; refine (inside_c _ _ _ _).mono ?_; rintro e w' ⟨rfl, rfl⟩))
    (go_returns; exact ⟨by first | rfl | (simp; done) | (simp; omega), by (repeat' (first | (with_reducible exact Below.refl _ _) | (with_reducible assumption) | (with_reducible refine below_drewN ?_ _) | (with_reducible refine Below.alloc ?_ ?_ _) | (with_reducible refine Below.drew ?_) | (with_reducible refine Below.setCell ?_ ?_ _) | go_size))⟩)
  by_cases h3 : m < F
  · rw [volR_no3 h3]
    go_enter Try.func35, Try.ntmps35
    go_wp2_with (first | (go_at_call 18; refine (implTar_c _ _ _ _ _ (h.alloc hBs _) (by simp; omega) hm).mono ?_; rintro e w1 ⟨rfl, hb1⟩; have hz1 := hb1.size; (repeat (first | rw [World.size_alloc] at hz1 | rw [World.size_drew] at hz1 | rw [World.heap_drewN] at hz1 | rw [World.size_setCell] at hz1)); have hB : Below w.heap.size w w1 := Below.trans (by (repeat' (first | (with_reducible exact Below.refl _ _) | (with_reducible assumption) | (with_reducible refine below_drewN ?_ _) | (with_reducible refine Below.alloc ?_ ?_ _) | (with_reducible refine Below.drew ?_) | (with_reducible refine Below.setCell ?_ ?_ _) | go_size))) (hb1.mono (by go_size)); have hL1 := hb1; clear hb1; obtain ⟨hc1, hf1⟩ := bcell hL1) | (go_at_call 55; refine (inside_c _ _ _ _).mono ?_; rintro e w' ⟨rfl, rfl⟩))
    (go_returns; exact ⟨by first | rfl | (simp; done) | (simp; omega), by (repeat' (first | (with_reducible exact Below.refl _ _) | (with_reducible assumption) | (with_reducible refine below_drewN ?_ _) | (with_reducible refine Below.alloc ?_ ?_ _) | (with_reducible refine Below.drew ?_) | (with_reducible refine Below.setCell ?_ ?_ _) | go_size))⟩)
  have hmb := inB_out h2
  have g := goodT_out h1
  have hr : ∀ n, isVol F xs m n → volR F xs m = (n, true) := fun n => volR_yes h1 h2 (by omega)
  have HR := Lib.hid hr
  clear hr
  have h3b : decide (m < F) = false := by simp; omega
  go_enter Try.func35, Try.ntmps35
  go_wp2_with (first | (go_at_call 18; refine (implTar_c _ _ _ _ _ (h.alloc hBs _) (by simp; omega) hm).mono ?_; rintro e w1 ⟨rfl, hb1⟩; have hz1 := hb1.size; (repeat (first | rw [World.size_alloc] at hz1 | rw [World.size_drew] at hz1 | rw [World.heap_drewN] at hz1 | rw [World.size_setCell] at hz1)); have hB : Below w.heap.size w w1 := Below.trans (by (repeat' (first | (with_reducible exact Below.refl _ _) | (with_reducible assumption) | (with_reducible refine below_drewN ?_ _) | (with_reducible refine Below.alloc ?_ ?_ _) | (with_reducible refine Below.drew ?_) | (with_reducible refine Below.setCell ?_ ?_ _) | go_size))) (hb1.mono (by go_size)); have hL1 := hb1; clear hb1; obtain ⟨hc1, hf1⟩ := bcell hL1) | (go_at_call 55; refine (inside_c _ _ _ _).mono ?_; rintro e w' ⟨rfl, rfl⟩))
  have h' := (h.alloc hBs (.cells #[.int .i64 F, .slice A xs.length c] 29)).below (hL1.mono (by simp; omega))
  go_loopw [6, 7, 8] (fun lo hi _ wr => ∃ l u : Int, lo = .int .i64 l ∧ hi = .int .i64 u ∧ 0 ≤ l ∧ l < u ∧ u ≤ 100001 ∧ costT F xs l ≤ m ∧ (u = 100001 ∨ m < costT F xs u) ∧ Below w.heap.size w wr ∧ w.heap.size < wr.heap.size ∧ wr.cell? ⟨w.heap.size, 0, none⟩ = some (.int .i64 F) ∧ wr.cell? ⟨w.heap.size, 1, none⟩ = some (.slice A xs.length c)) (fun lo hi _ _ => (intOf hi - intOf lo).toNat)
  case atStart => exact ⟨0, 100001, rfl, rfl, by omega, by omega, by omega, by rw [cost_zero h1]; omega, .inl rfl, by (repeat' (first | (with_reducible exact Below.refl _ _) | (with_reducible assumption) | (with_reducible refine below_drewN ?_ _) | (with_reducible refine Below.alloc ?_ ?_ _) | (with_reducible refine Below.drew ?_) | (with_reducible refine Below.setCell ?_ ?_ _) | go_size)), by first | omega | go_size, by simp [*, go_sem], by simp [*, go_sem]⟩
  case round =>
    clear hL1 hc1 hf1 hz1 hB h'
    obtain ⟨l, u, rfl, rfl, l0, lu, u1, hl, hu, hB, hsz, k0, k1⟩ := hrel
    have wa : IntKind.i64.wrap (u - l) = u - l := IntWalk.i64_in _ (by omega)
    by_cases hq : 1 < u - l
    · have wb : IntKind.i64.wrap (l + u) = l + u := IntWalk.i64_in _ (by omega)
      have wc : IntKind.i64.wrap ((l + u).tdiv 2) = (l + u) / 2 := by rw [Int.tdiv_eq_ediv_of_nonneg (by omega)]; exact IntWalk.i64_in _ (by omega)
      have m1 : l < (l + u) / 2 := by omega
      have m2 : (l + u) / 2 < u := by omega
      generalize (l + u) / 2 = mid at *
      have hc := implCost_c F mid A c xs wr (h.below (hB.mono hBs)) (by omega) h1 (by omega) (by omega)
      by_cases hm2 : costT F xs mid ≤ m
      · have HC := Lib.hid hc
        have HL := Lib.hid hm2
        have HU := Lib.hid hu
        clear hc h hl hu
        go_wp2_with (go_at_call 61; refine (HC.out).mono ?_; rintro e w2 ⟨rfl, hb2⟩; have hz2 := hb2.size; (repeat (first | rw [World.size_alloc] at hz2 | rw [World.size_drew] at hz2 | rw [World.heap_drewN] at hz2 | rw [World.size_setCell] at hz2)); replace hB : Below w.heap.size w w2 := Below.trans (by (repeat' (first | (with_reducible exact Below.refl _ _) | (with_reducible assumption) | (with_reducible refine below_drewN ?_ _) | (with_reducible refine Below.alloc ?_ ?_ _) | (with_reducible refine Below.drew ?_) | (with_reducible refine Below.setCell ?_ ?_ _) | go_size))) (hb2.mono (by go_size)); (first | (refine extend_then hL1 hb2 ?_ ?_ (fun hq => ?_); (focus ((repeat' (first | (with_reducible exact Below.refl _ _) | (with_reducible assumption) | (with_reducible refine below_drewN ?_ _) | (with_reducible refine Below.alloc ?_ ?_ _) | (with_reducible refine Below.drew ?_) | (with_reducible refine Below.setCell ?_ ?_ _) | go_size)); done)); (focus (go_size; done)); replace hL1 := hq; clear hq hc1 hf1; obtain ⟨hc1, hf1⟩ := bcell hL1) | (clear hL1 hc1 hf1) | skip); have hL2 := hb2; clear hb2; obtain ⟨hc2, hf2⟩ := bcell hL2)
        go_roundw
        case rel => exact ⟨mid, u, rfl, rfl, by omega, by omega, by omega, HL.out, HU.out, by (repeat' (first | (with_reducible exact Below.refl _ _) | (with_reducible assumption) | (with_reducible refine below_drewN ?_ _) | (with_reducible refine Below.alloc ?_ ?_ _) | (with_reducible refine Below.drew ?_) | (with_reducible refine Below.setCell ?_ ?_ _) | go_size)), by first | omega | go_size, by simp [*, go_sem], by simp [*, go_sem]⟩
        case measure => simp [intOf]; omega
      · have HC := Lib.hid hc
        have hmd : decide (costT F xs mid ≤ m) = false := by simp; omega
        have HL := Lib.hid hl
        have hm3 : m < costT F xs mid := by omega
        have HU := Lib.hid hm3
        clear hc h hl hu
        go_wp2_with (go_at_call 61; refine (HC.out).mono ?_; rintro e w2 ⟨rfl, hb2⟩; have hz2 := hb2.size; (repeat (first | rw [World.size_alloc] at hz2 | rw [World.size_drew] at hz2 | rw [World.heap_drewN] at hz2 | rw [World.size_setCell] at hz2)); replace hB : Below w.heap.size w w2 := Below.trans (by (repeat' (first | (with_reducible exact Below.refl _ _) | (with_reducible assumption) | (with_reducible refine below_drewN ?_ _) | (with_reducible refine Below.alloc ?_ ?_ _) | (with_reducible refine Below.drew ?_) | (with_reducible refine Below.setCell ?_ ?_ _) | go_size))) (hb2.mono (by go_size)); (first | (refine extend_then hL1 hb2 ?_ ?_ (fun hq => ?_); (focus ((repeat' (first | (with_reducible exact Below.refl _ _) | (with_reducible assumption) | (with_reducible refine below_drewN ?_ _) | (with_reducible refine Below.alloc ?_ ?_ _) | (with_reducible refine Below.drew ?_) | (with_reducible refine Below.setCell ?_ ?_ _) | go_size)); done)); (focus (go_size; done)); replace hL1 := hq; clear hq hc1 hf1; obtain ⟨hc1, hf1⟩ := bcell hL1) | (clear hL1 hc1 hf1) | skip); have hL2 := hb2; clear hb2; obtain ⟨hc2, hf2⟩ := bcell hL2)
        go_roundw
        case rel => exact ⟨l, mid, rfl, rfl, by omega, by omega, by omega, HL.out, .inr HU.out, by (repeat' (first | (with_reducible exact Below.refl _ _) | (with_reducible assumption) | (with_reducible refine below_drewN ?_ _) | (with_reducible refine Below.alloc ?_ ?_ _) | (with_reducible refine Below.drew ?_) | (with_reducible refine Below.setCell ?_ ?_ _) | go_size)), by first | omega | go_size, by simp [*, go_sem], by simp [*, go_sem]⟩
        case measure => simp [intOf]; omega
    · obtain rfl : u = l + 1 := by omega
      have hv := HR.out l ⟨l0, by omega, hl, by rcases hu with e | e; exact .inl (by omega); exact .inr e⟩
      have HV := Lib.hid hv
      clear h hl hu hv
      go_wp2
      go_returns
      exact ⟨by rw [HV.out]; rfl, by (repeat' (first | (with_reducible exact Below.refl _ _) | (with_reducible assumption) | (with_reducible refine below_drewN ?_ _) | (with_reducible refine Below.alloc ?_ ?_ _) | (with_reducible refine Below.drew ?_) | (with_reducible refine Below.setCell ?_ ?_ _) | go_size))⟩
theorem specVolF_c {B : Nat} (F m : Int) (A : Option Addr) (c : Nat) (xs : List (Int × Int)) (w : World) (h : RdP w B A xs) (hBs : B ≤ w.heap.size) (hm : xs.length ≤ 4611686018427387904) : Calls Try.prog 34 #[.agg #[.int .i64 F, .slice A xs.length c], .int .i64 m] w fun e w' => e = .returned (.tuple #[.int .i64 (volR F xs m).1, .bool (volR F xs m).2]) ∧ Below w.heap.size w w' := by
  cases h1 : goodT F xs
  · rw [volR_no h1]
    go_enter Try.func34, Try.ntmps34
    go_wp2_with (first | (go_at_call 53; refine (specTar0_c _ _ _ _ _ (h.alloc hBs _) (by simp; omega) hm).mono ?_; rintro e w1 ⟨rfl, hb1⟩; have hz1 := hb1.size; (repeat (first | rw [World.size_alloc] at hz1 | rw [World.size_drew] at hz1 | rw [World.heap_drewN] at hz1 | rw [World.size_setCell] at hz1)); have hB : Below w.heap.size w w1 := Below.trans (by (repeat' (first | (with_reducible exact Below.refl _ _) | (with_reducible assumption) | (with_reducible refine below_drewN ?_ _) | (with_reducible refine Below.alloc ?_ ?_ _) | (with_reducible refine Below.drew ?_) | (with_reducible refine Below.setCell ?_ ?_ _) | go_size))) (hb1.mono (by go_size)); have hL1 := hb1; clear hb1; obtain ⟨hc1, hf1⟩ := bcell hL1) | (go_at_call 65; refine (l1In_c _ _ _ _).mono ?_; rintro e w' ⟨rfl, rfl⟩))
    (go_returns; exact ⟨by first | rfl | (simp; done) | (simp; omega), by (repeat' (first | (with_reducible exact Below.refl _ _) | (with_reducible assumption) | (with_reducible refine below_drewN ?_ _) | (with_reducible refine Below.alloc ?_ ?_ _) | (with_reducible refine Below.drew ?_) | (with_reducible refine Below.setCell ?_ ?_ _) | go_size))⟩)
  have g := goodT_out h1
  cases h2 : inB m F 1000000000
  · have e : volR F xs m = (0, false) := by
      rcases inB_no h2 with e | e
      · exact volR_no3 e
      · exact volR_no2 (inB_hi e)
    rw [e]
    go_enter Try.func34, Try.ntmps34
    go_wp2_with (first | (go_at_call 53; refine (specTar0_c _ _ _ _ _ (h.alloc hBs _) (by simp; omega) hm).mono ?_; rintro e w1 ⟨rfl, hb1⟩; have hz1 := hb1.size; (repeat (first | rw [World.size_alloc] at hz1 | rw [World.size_drew] at hz1 | rw [World.heap_drewN] at hz1 | rw [World.size_setCell] at hz1)); have hB : Below w.heap.size w w1 := Below.trans (by (repeat' (first | (with_reducible exact Below.refl _ _) | (with_reducible assumption) | (with_reducible refine below_drewN ?_ _) | (with_reducible refine Below.alloc ?_ ?_ _) | (with_reducible refine Below.drew ?_) | (with_reducible refine Below.setCell ?_ ?_ _) | go_size))) (hb1.mono (by go_size)); have hL1 := hb1; clear hb1; obtain ⟨hc1, hf1⟩ := bcell hL1) | (go_at_call 65; refine (l1In_c _ _ _ _).mono ?_; rintro e w' ⟨rfl, rfl⟩))
    (go_returns; exact ⟨by first | rfl | (simp; done) | (simp; omega), by (repeat' (first | (with_reducible exact Below.refl _ _) | (with_reducible assumption) | (with_reducible refine below_drewN ?_ _) | (with_reducible refine Below.alloc ?_ ?_ _) | (with_reducible refine Below.drew ?_) | (with_reducible refine Below.setCell ?_ ?_ _) | go_size))⟩)
  have hmb := inB_out h2
  have hr : ∀ n, isVol F xs m n → volR F xs m = (n, true) := fun n => volR_yes h1 (inB_mk (by omega) (by omega)) (by omega)
  have HR := Lib.hid hr
  clear hr
  go_enter Try.func34, Try.ntmps34
  go_wp2_with (first | (go_at_call 53; refine (specTar0_c _ _ _ _ _ (h.alloc hBs _) (by simp; omega) hm).mono ?_; rintro e w1 ⟨rfl, hb1⟩; have hz1 := hb1.size; (repeat (first | rw [World.size_alloc] at hz1 | rw [World.size_drew] at hz1 | rw [World.heap_drewN] at hz1 | rw [World.size_setCell] at hz1)); have hB : Below w.heap.size w w1 := Below.trans (by (repeat' (first | (with_reducible exact Below.refl _ _) | (with_reducible assumption) | (with_reducible refine below_drewN ?_ _) | (with_reducible refine Below.alloc ?_ ?_ _) | (with_reducible refine Below.drew ?_) | (with_reducible refine Below.setCell ?_ ?_ _) | go_size))) (hb1.mono (by go_size)); have hL1 := hb1; clear hb1; obtain ⟨hc1, hf1⟩ := bcell hL1) | (go_at_call 65; refine (l1In_c _ _ _ _).mono ?_; rintro e w' ⟨rfl, rfl⟩))
  go_loopw [6, 7, 8] (fun lo hi _ wr => ∃ l u : Int, lo = .int .i64 l ∧ hi = .int .i64 u ∧ 0 ≤ l ∧ l ≤ u ∧ u ≤ 100000 ∧ costT F xs l ≤ m ∧ (u = 100000 ∨ m < costT F xs (u + 1)) ∧ Below w.heap.size w wr ∧ w.heap.size < wr.heap.size ∧ wr.cell? ⟨w.heap.size, 0, none⟩ = some (.int .i64 F) ∧ wr.cell? ⟨w.heap.size, 1, none⟩ = some (.slice A xs.length c)) (fun lo hi _ _ => (intOf hi - intOf lo).toNat)
  case atStart => exact ⟨0, 100000, rfl, rfl, by omega, by omega, by omega, by rw [cost_zero h1]; omega, .inl rfl, by (repeat' (first | (with_reducible exact Below.refl _ _) | (with_reducible assumption) | (with_reducible refine below_drewN ?_ _) | (with_reducible refine Below.alloc ?_ ?_ _) | (with_reducible refine Below.drew ?_) | (with_reducible refine Below.setCell ?_ ?_ _) | go_size)), by first | omega | go_size, by simp [*, go_sem], by simp [*, go_sem]⟩
  case round =>
    clear hL1 hc1 hf1 hz1 hB
    obtain ⟨l, u, rfl, rfl, l0, lu, u1, hl, hu, hB, hsz, k0, k1⟩ := hrel
    by_cases hq : l < u
    · have wb : IntKind.i64.wrap (l + u) = l + u := IntWalk.i64_in _ (by omega)
      have wb2 : IntKind.i64.wrap (l + u + 1) = l + u + 1 := IntWalk.i64_in _ (by omega)
      have wc : IntKind.i64.wrap ((l + u + 1).tdiv 2) = (l + u + 1) / 2 := by rw [Int.tdiv_eq_ediv_of_nonneg (by omega)]; exact IntWalk.i64_in _ (by omega)
      have m1 : l < (l + u + 1) / 2 := by omega
      have m2 : (l + u + 1) / 2 ≤ u := by omega
      generalize (l + u + 1) / 2 = mid at *
      have wd : IntKind.i64.wrap (mid - 1) = mid - 1 := IntWalk.i64_in _ (by omega)
      have hc := specCost_c F mid A c xs wr (h.below (hB.mono hBs)) (by omega) h1 (by omega) (by omega)
      by_cases hm2 : costT F xs mid ≤ m
      · have HC := Lib.hid hc
        have HL := Lib.hid hm2
        have HU := Lib.hid hu
        clear hc h hl hu
        go_wp2_with (go_at_call 64; refine (HC.out).mono ?_; rintro e w2 ⟨rfl, hb2⟩; have hz2 := hb2.size; (repeat (first | rw [World.size_alloc] at hz2 | rw [World.size_drew] at hz2 | rw [World.heap_drewN] at hz2 | rw [World.size_setCell] at hz2)); replace hB : Below w.heap.size w w2 := Below.trans (by (repeat' (first | (with_reducible exact Below.refl _ _) | (with_reducible assumption) | (with_reducible refine below_drewN ?_ _) | (with_reducible refine Below.alloc ?_ ?_ _) | (with_reducible refine Below.drew ?_) | (with_reducible refine Below.setCell ?_ ?_ _) | go_size))) (hb2.mono (by go_size)); (first | (refine extend_then hL1 hb2 ?_ ?_ (fun hq => ?_); (focus ((repeat' (first | (with_reducible exact Below.refl _ _) | (with_reducible assumption) | (with_reducible refine below_drewN ?_ _) | (with_reducible refine Below.alloc ?_ ?_ _) | (with_reducible refine Below.drew ?_) | (with_reducible refine Below.setCell ?_ ?_ _) | go_size)); done)); (focus (go_size; done)); replace hL1 := hq; clear hq hc1 hf1; obtain ⟨hc1, hf1⟩ := bcell hL1) | (clear hL1 hc1 hf1) | skip); have hL2 := hb2; clear hb2; obtain ⟨hc2, hf2⟩ := bcell hL2)
        go_roundw
        case rel => exact ⟨mid, u, rfl, rfl, by omega, by omega, by omega, HL.out, HU.out, by (repeat' (first | (with_reducible exact Below.refl _ _) | (with_reducible assumption) | (with_reducible refine below_drewN ?_ _) | (with_reducible refine Below.alloc ?_ ?_ _) | (with_reducible refine Below.drew ?_) | (with_reducible refine Below.setCell ?_ ?_ _) | go_size)), by first | omega | go_size, by simp [*, go_sem], by simp [*, go_sem]⟩
        case measure => simp [intOf]; omega
      · have HC := Lib.hid hc
        have hmd : decide (costT F xs mid ≤ m) = false := by simp; omega
        have HL := Lib.hid hl
        have hm3 : m < costT F xs (mid - 1 + 1) := by rw [show mid - 1 + 1 = mid by omega]; omega
        have HU := Lib.hid hm3
        clear hc h hl hu hm3
        go_wp2_with (go_at_call 64; refine (HC.out).mono ?_; rintro e w2 ⟨rfl, hb2⟩; have hz2 := hb2.size; (repeat (first | rw [World.size_alloc] at hz2 | rw [World.size_drew] at hz2 | rw [World.heap_drewN] at hz2 | rw [World.size_setCell] at hz2)); replace hB : Below w.heap.size w w2 := Below.trans (by (repeat' (first | (with_reducible exact Below.refl _ _) | (with_reducible assumption) | (with_reducible refine below_drewN ?_ _) | (with_reducible refine Below.alloc ?_ ?_ _) | (with_reducible refine Below.drew ?_) | (with_reducible refine Below.setCell ?_ ?_ _) | go_size))) (hb2.mono (by go_size)); (first | (refine extend_then hL1 hb2 ?_ ?_ (fun hq => ?_); (focus ((repeat' (first | (with_reducible exact Below.refl _ _) | (with_reducible assumption) | (with_reducible refine below_drewN ?_ _) | (with_reducible refine Below.alloc ?_ ?_ _) | (with_reducible refine Below.drew ?_) | (with_reducible refine Below.setCell ?_ ?_ _) | go_size)); done)); (focus (go_size; done)); replace hL1 := hq; clear hq hc1 hf1; obtain ⟨hc1, hf1⟩ := bcell hL1) | (clear hL1 hc1 hf1) | skip); have hL2 := hb2; clear hb2; obtain ⟨hc2, hf2⟩ := bcell hL2)
        go_roundw
        case rel => exact ⟨l, mid - 1, rfl, rfl, by omega, by omega, by omega, HL.out, .inr HU.out, by (repeat' (first | (with_reducible exact Below.refl _ _) | (with_reducible assumption) | (with_reducible refine below_drewN ?_ _) | (with_reducible refine Below.alloc ?_ ?_ _) | (with_reducible refine Below.drew ?_) | (with_reducible refine Below.setCell ?_ ?_ _) | go_size)), by first | omega | go_size, by simp [*, go_sem], by simp [*, go_sem]⟩
        case measure => simp [intOf]; omega
    · obtain rfl : u = l := by omega
      have hv := HR.out u ⟨l0, by omega, hl, hu⟩
      have HV := Lib.hid hv
      clear h hl hu hv
      go_wp2
      go_returns
      exact ⟨by rw [HV.out]; rfl, by (repeat' (first | (with_reducible exact Below.refl _ _) | (with_reducible assumption) | (with_reducible refine below_drewN ?_ _) | (with_reducible refine Below.alloc ?_ ?_ _) | (with_reducible refine Below.drew ?_) | (with_reducible refine Below.setCell ?_ ?_ _) | go_size))⟩
end Go.Proofs.Ytbfaejacfhblkaa
